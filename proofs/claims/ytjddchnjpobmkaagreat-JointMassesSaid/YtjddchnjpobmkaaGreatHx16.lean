/- A part of the proof: an interpreter over abstract values, shown right against the model, and what the functions of the chapter compute on it. -/
import Derived.KernelRfl
import Derived.OpenShut
import Derived.DataReads
import Derived.Test.YtjddchnjpobmkaaGreatHx15
set_option linter.unusedVariables false
set_option linter.unusedSimpArgs false
set_option linter.unnecessarySimpa false
section
namespace Hx
open Go
noncomputable section
theorem LS.upd {L:List Node}{J:Nat}{x x':Node}(hx:L[J]?=some x)(hl:x'.rows.length=x.rows.length){k:Ky}(h:LS (L.set J x') k):LS L k:=by
 rcases h with h | ⟨i,q,z,h,hz,hq⟩
 ·exact .inl h
 ·rw[List.getElem?_set] at hz
  by_cases e:J=i
  ·subst e
   rw[if_pos rfl] at hz
   split at hz
   ·injection hz with hz;subst hz
    exact .inr ⟨J,q,x,h,hx,by omega⟩
   ·cases hz
  ·rw[if_neg e] at hz
   exact .inr ⟨i,q,z,h,hz,hq⟩
theorem BLs.upd {K J:Nat}{L:List Node}{V:Ky->AV}{E:Ky->En}{rows:List (List AV)}{x':Node}(hO:Oth K L J V E rows)(e0:E (0,0)=.sl 3 rows)(hrow:rows[J]?=some (jl V J x'.card))(hnd:NdOk K V E J x'):BLs K V E (L.set J x'):=by
 refine ⟨⟨rows,e0,by simp[hO.len],fun i z hz=>?_⟩,fun i z hz=>?_⟩
 ·rw[List.getElem?_set] at hz
  by_cases e:J=i
  ·subst e
   rw[if_pos rfl] at hz
   split at hz
   ·injection hz with hz;subst hz;exact hrow
   ·cases hz
  ·rw[if_neg e] at hz
   exact hO.ns i z (Ne.symm e) hz
 ·rw[List.getElem?_set] at hz
  by_cases e:J=i
  ·subst e
   rw[if_pos rfl] at hz
   split at hz
   ·injection hz with hz;subst hz;exact hnd
   ·cases hz
  ·rw[if_neg e] at hz
   exact hO.nd i z (Ne.symm e) hz
def Node.wr (x:Node)(r:Nat)(y:List Int):Node:=⟨x.card,x.parents,x.rows.set r y⟩
abbrev LBS (W:AV)(J:Nat)(Rw:Int):List (Nat×AV):=[(2,.hptr 0 0 0 0),(3,.hptr 1 0 0 0),(4,.hptr 2 0 0 0),(10,jr 3 W J 0),(11,.int .i64 Rw)]
section
variable {d K J r:Nat}{L:List Node}{x:Node}{bx:jE}{gr Rw:Int}{t t':T}{g gb:G}{V:Ky->AV}{E:Ky->En}{Q:QT}{y y':List Int}
theorem BS.put (hS:BS K J L x bx gr (r:Int) t g V E)(hy:x.rows[r]?=some y)(hHb:Hp gb 3 (LS L) V (ups E (J+1,2+r) (.sl 1 (y'.map ci))))(frb:∀i,i<3->gb.h.get i=g.h.get i)(hyl:y'.length<=K)(st:St t' (LBS (V (0,0)) J (r:Int))) :
  BS K J (L.set J (x.wr r y')) (x.wr r y') bx gr (r:Int) t' gb V (ups E (J+1,2+r) (.sl 1 (y'.map ci))):=by
 obtain ⟨rows,hB⟩:=hS.bt
 obtain ⟨rws,hW⟩:=hS.bw
 have hr:=(List.getElem?_eq_some_iff.1 hy).1
 have hrw:=hW.at_ r y hy
 have hJ:=(List.getElem?_eq_some_iff.1 hS.hx).1
 have hnd:=Bf (r:=r) (V':=V) (E':=ups E (J+1,2+r) (.sl 1 (y'.map ci))) (y':=y') hB.nd hW.at_ hW.len hr (ac _ _ (by simp<;>omega)) (by rw[ac _ _ (by simp<;>omega),hW.e1,tG hrw]) (aq _ _ _) (fun _ _=>rfl) (fun q hq=>ac _ _ (by simp<;>omega)) hyl
 have hl:(x.wr r y').rows.length=x.rows.length:=by simp[Node.wr]
 refine ⟨st,hHb.sub fun k hk=>LS.upd hS.hx hl hk,by rw[frb 0 (by omega)];exact hS.f0,by rw[frb 1 (by omega)];exact hS.f1,by rw[frb 2 (by omega)];exact hS.f2,BLs.upd hB.oth.e (by rw[ac _ _ (by simp<;>omega)];exact hB.e0) hB.row hnd,by rw[List.getElem?_set_self hJ],.inr ⟨r,rfl,by omega⟩,hS.hK,by simpa using hS.hl⟩
theorem BS.mv (hS:BS K J L x bx gr Rw t g V E)(hh:gb.h=g.h)(hn:g.nx<=gb.nx)(st:St t' (LBS (V (0,0)) J Rw)):BS K J L x bx gr Rw t' gb V E :=
 ⟨st,hS.hp.same hh hn,by rw[hh];exact hS.f0,by rw[hh];exact hS.f1,by rw[hh];exact hS.f2,hS.bl,hS.hx,hS.hR,hS.hK,hS.hl⟩
structure BR (x:Node) (J r:Nat) (y:List Int) (g:G) (V:Ky->AV) (E:Ky->En) (rws:List (List AV)):Prop where
 wr:af g.h 1 (V (J+1,1))=some rws
 rl:r<rws.length
 rw_:rws[r]?=some [V (J+1,2+r)]
 ry:jz (V (J+1,1))=true
 yr:af g.h 1 (V (J+1,2+r))=some (y.map ci)
 ye:E (J+1,2+r)=.sl 1 (y.map ci)
 yl:y.length<=K
theorem BS.br (hS:BS K J L x bx gr (r:Int) t g V E)(hy:x.rows[r]?=some y):∃rws,BR (K:=K) x J r y g V E rws:=by
 obtain ⟨rows,hB⟩:=hS.bt
 obtain ⟨rws,hW⟩:=hS.bw
 have hr:=(List.getElem?_eq_some_iff.1 hy).1
 have hrl:r<rws.length:=by have:=hW.len;omega
 have hye:=hB.nd.rr r y hy
 exact ⟨rws,hW.own.rows,hrl,hW.at_ r y hy,eJ hW.own (by omega),(hS.hp.own (LS.s hS.hx (by omega)) hye).rows,hye,hB.nd.len.2.2 y (List.mem_of_getElem? hy)⟩
theorem bc8 (hS:BS K J L x bx gr Rw t g V E)(fin:s8 Q) :
  wp C0 d none (.seq (.ops [o 213 (.mv (.t 11)),o 214 (.bin .geq (.t 213) (.k (.int .i64 0))),o 215 (.mv (.t 214)),og 216 215 true (.mv (.t 10)),og 217 215 true (.nilc (.t 216)),og 218 215 true (.fad 2 (.t 217)),og 219 215 true (.load false 1 (.t 218)),og 220 215 true (.mv (.t 11)),og 221 215 true (.ixs 1 (.t 219) (.t 220)),og 222 215 true (.load false 1 (.t 221)),og 223 215 true (.len .slice (.t 222)),og 224 215 true (.bin .gtr (.t 223) (.k (.int .i64 0))),o 225 (.pick (.t 215) (.t 224) (.k (.bool false)))]) (.cond (.t 225) (.seq (.feet [0,1,3,7,0,0,32,96,224,0,992,2016,4064,8160,16383,32767] [o 226 (.mv (.t 10)),o 227 (.nilc (.t 226)),o 228 (.fad 2 (.t 227)),o 229 (.load false 1 (.t 228)),o 230 (.mv (.t 11)),o 231 (.mv (.t 10)),o 232 (.nilc (.t 231)),o 233 (.fad 2 (.t 232)),o 234 (.load false 1 (.t 233)),o 235 (.mv (.t 11)),o 236 (.ixs 1 (.t 234) (.t 235)),o 237 (.load false 1 (.t 236)),o 238 (.len .slice (.t 237)),o 239 (.mks 1 8 [.int .i64 0] (.t 238) (.t 238)),o 240 (.ixs 1 (.t 229) (.t 230)),oz (.store 1 (.t 240) (.t 239))]) (.feet [0,1,3,7,0,31,63,0,128,511,1023] [o 241 (.mv (.t 10)),o 242 (.nilc (.t 241)),o 243 (.fad 2 (.t 242)),o 244 (.load false 1 (.t 243)),o 245 (.mv (.t 11)),o 246 (.ixs 1 (.t 244) (.t 245)),o 247 (.load false 1 (.t 246)),o 248 (.fad 0 (.t 3)),o 249 (.load false 1 (.t 248)),o 250 (.ixs 1 (.t 247) (.k (.int .i64 0))),oz (.store 1 (.t 250) (.t 249))])) (.skip))) Q t [] g:=by
 obtain ⟨h2,h3,h4,h10,h11,-⟩:=hS.st
 obtain ⟨rows,hB⟩:=hS.bt
 obtain ⟨rws,hW⟩:=hS.bw
 have hK:=hS.hK
 have hl:=hS.hl
 have hnx:=hS.hp.nx
 rcases hS.hR with ⟨rfl,h0⟩ | ⟨r,rfl,hr⟩
 ·simp only[sx,SO.run,↓reduceIte,Nat.reduceEqDiff,h11,show decide ((-1:Int) >= 0)=false from rfl]
  exact hS.fin0 fin (by simp[sx,h3]) (by simp[sx,h4])
 ·obtain ⟨y,hy⟩:∃y,x.rows[r]?=some y:=⟨_,List.getElem?_eq_getElem hr⟩
  have hrw:=hW.at_ r y hy
  have hkL:LS L (J+1,2+r):=LS.s hS.hx (by omega)
  have hyo:=hS.hp.own hkL (hB.nd.rr r y hy)
  have hyl:=hB.nd.len.2.2 y (List.mem_of_getElem? hy)
  have ly:=ck hyo.rows
  rw[List.length_map] at ly
  have hrl:r<rws.length:=by have:=hW.len;omega
  have hryw:jz (V (J+1,1))=true:=eJ hW.own (by omega)
  simp only[sx,sy,SO.run,↓reduceIte,Nat.reduceEqDiff,h10,h11,show decide ((r:Int) >= 0)=true from by simp,bg hB.ry,bm hB.ry,hB.own.rows,hB.hlt,hB.row,hW.own.rows,hrl,hrw,ly,Option.isSome_some,Option.getD_some]
  refine aS (fun hb=>?_) (fun hb=>?_)
  ·have hpos:0<y.length:=by simpa using hb
   obtain ⟨A,hA⟩:∃A,A=SC.feet [0,1,3,7,0,31,63,0,128,511,1023] [o 241 (.mv (.t 10)),o 242 (.nilc (.t 241)),o 243 (.fad 2 (.t 242)),o 244 (.load false 1 (.t 243)),o 245 (.mv (.t 11)),o 246 (.ixs 1 (.t 244) (.t 245)),o 247 (.load false 1 (.t 246)),o 248 (.fad 0 (.t 3)),o 249 (.load false 1 (.t 248)),o 250 (.ixs 1 (.t 247) (.k (.int .i64 0))),oz (.store 1 (.t 250) (.t 249))]:=⟨_,rfl⟩
   rw[<-hA]
   refine cW (P:=fun t' df g'=>df=[]/\∃L' x' V' E',BS K J L' x' bx gr (r:Int) t' g' V' E'/\x'.rows[r]?=some (List.replicate y.length 0)) ?_ ?_
   ·simp only[sx,sy,sf,SO.run,↓reduceIte,Nat.reduceEqDiff,h10,h11,bg hB.ry,bm hB.ry,hB.own.rows,hB.hlt,hB.row,hW.own.rows,hrl,hrw,ly,Option.isSome_some,Option.getD_some]
    refine km (b:=3) (n:=y.length) (by unfold aT;omega) (by unfold aT;omega) (by first | (simp;done) | (simp;omega)) fun W ga hWo na fra vW lga=>?_
    simp only[sy] at na fra vW lga
    have hHa:=(hS.hp.step (g':=G.mk g.h g.nx []) (Nat.le_refl _) (fun _ _ _=>rfl)).set (g':=ga) (k:=(J+1,2+r)) (v':=W) (e':=.sl 1 ((List.replicate y.length (0:Int)).map ci)) hkL (by rw[List.map_replicate];exact hWo) (by show g.nx<=ga.nx;omega) (fun i _ hi _=>fra i (by have hi:i<g.nx:=hi;omega)) (.inr ⟨_,by rw[bN hWo];exact vW,by show g.nx<=_;omega⟩)
    have e11:ups V (J+1,2+r) W (J+1,1)=V (J+1,1):=ac _ _ (by simp<;>omega)
    have hE1:ups E (J+1,2+r) (.sl 1 ((List.replicate y.length (0:Int)).map ci)) (J+1,1)=.sl 1 rws:=by rw[ac _ _ (by simp<;>omega)];exact hW.e1
    have rwa:af ga.h 1 (V (J+1,1))=some rws:=by rw[<-e11];exact (hHa.own (LS.s hS.hx (by omega)) hE1).rows
    simp only[sx,sy,sf,SO.run,↓reduceIte,Nat.reduceEqDiff,rwa,hrl,Option.isSome_some,Option.getD_some]
    refine (hHa.same (g':=_) (by simp) (by simp<;>omega)).putv (k:=(J+1,1)) (i:=r) (off:=0) (n:=1) (LS.s hS.hx (by omega)) e11 (row':=[W]) hE1 hrw (by rw[hWo.cell.1];rfl) hWo.cell.2 (by rw[hWo.cell.1];rfl) fun gb hHb nb frb fob=>?_
    simp only[sy] at nb frb fob ⊢
    refine ⟨?_,L.set J (x.wr r (List.replicate y.length 0)),x.wr r (List.replicate y.length 0),_,_,⟨?_,(hHb.same (g':=_) (by simp) (by simp<;>omega)).sub fun k hk=>LS.upd hS.hx (by simp[Node.wr]) hk,?_,?_,?_,BLs.upd hB.oth.v.e.e ?_ ?_ ?_,by rw[List.getElem?_set_self (List.getElem?_eq_some_iff.1 hS.hx).1],.inr ⟨r,rfl,by simpa [Node.wr] using hr⟩,hK,by simpa using hl⟩,by simp[Node.wr,hr]⟩
    ·simp only[List.reverse_cons,List.reverse_nil,List.nil_append,List.cons_append]
     refine aL [false,false,false,false,false,false,false,false,false,false,false,false,false,true,false,true] [(0,13),(1,13),(2,13),(3,13),(4,13)] (by simp[All2,an,ay]) (by decide) ?_
     have ro1:=hB.own.refs_lt
     rintro p hp x y hx hy
     simp only[List.mem_cons,List.not_mem_nil,or_false] at hp
     rcases hp with rfl | rfl | rfl | rfl | rfl<;>(simp at hx hy;subst hx;subst hy;refine cq rfl rfl rfl rfl ?_ ?_ ?_<;>simp[an,ay,i6 hB.ry,lga]<;>first | omega | (intro h;have:=ro1 _ h;omega) | (intro i' hi' e;have:=ro1 i' hi';omega) | (intro i' hi';have:=ro1 i' hi';omega) | skip)
    ·simp[St,sx,h2,h3,h4,h10,h11,ac]
    ·simp only[bumpG_h];rw[frb 0 (by omega)];(try simp);rw[fra 0 (by omega),hS.f0]
    ·simp only[bumpG_h];rw[frb 1 (by omega),ac _ _ (by simp<;>omega)];(try simp);rw[fra 1 (by omega),hS.f1]
    ·simp only[bumpG_h];rw[frb 2 (by omega)];(try simp);rw[fra 2 (by omega),hS.f2]
    ·rw[ac _ _ (by simp<;>omega),ac _ _ (by simp<;>omega),hB.e0]
    ·rw[jl,ac _ _ (by simp<;>omega),ac _ _ (by simp<;>omega)];exact hB.row
    ·exact Bf (r:=r) (y':=List.replicate y.length 0) hB.nd hW.at_ hW.len hr (by rw[ac _ _ (by simp<;>omega),ac _ _ (by simp<;>omega)]) (by rw[aq,aq]) (by rw[ac _ _ (by simp<;>omega),aq]) (fun q hq=>ac _ _ (by simp<;>omega)) (fun q hq=>by rw[ac _ _ (by simp<;>omega),ac _ _ (by simp<;>omega)]) (by simpa using hyl)
   clear h2 h3 h4 h10 h11 hB hW hkL hyo hS hrw hrl hryw
   rintro t df g2 ⟨rfl,L',x',V',E',hS,hy'⟩
   rw[hA]
   obtain ⟨h2,h3,h4,h10,h11,-⟩:=hS.st
   obtain ⟨rows,hB⟩:=hS.bt
   obtain ⟨rws,hR⟩:=hS.br hy'
   have u1:0<((List.replicate y.length (0:Int)).map ci).length:=by simpa using hpos
   have u2:((List.replicate y.length (0:Int)).map ci)[0]?=some (ci 0):=by simp[hpos]
   have u3:=hR.yr
   have u4:=hR.rl
   simp only[sx,sy,sf,SO.run,↓reduceIte,Nat.reduceEqDiff,h3,h10,h11,hS.f1,bg hB.ry,bm hB.ry,hB.own.rows,hB.hlt,hB.row,hR.wr,u4,hR.rw_,B8 u3 u1,Option.isSome_some,Option.getD_some]
   refine (hS.hp.same (g':=_) (by simp) (by simp<;>omega)).put (k:=(J+1,2+r)) (i:=0) (off:=0) (n:=1) (row:=ci 0) (row':=ci gr) (LS.s hS.hx (by have:=(List.getElem?_eq_some_iff.1 hy').1;omega)) hR.ye u2 rfl rfl rfl fun gb hHb nb frb fob=>?_
   simp only[sy] at nb frb fob ⊢
   refine ⟨?_,?_⟩
   ·simp only[List.reverse_cons,List.reverse_nil,List.nil_append,List.cons_append]
    exact aL [false,false,false,false,false,false,false,false,false,false,true] [] (by simp[All2,an,ay]) (by decide) (by simp)
   rw[<-List.map_set] at hHb
   have hS2:=hS.put (t':=t) hy' (hHb.same (g':=G.mk gb.h gb.nx []) rfl (Nat.le_refl _)) (fun i hi=>by have:=frb i hi;simpa using this) (by simpa using hR.yl) (by simp[St,h2,h3,h4,h10,h11])
   exact fin _ _ gr _ _ (by simp[sx,h3]) (by simp[sx,h4]) (by simpa using hS2.f1) (by simpa using hS2.f2) (hS2.sl.heap (by simp))
  ·simp only[sx]
   exact hS.fin0 fin (by simp[sx,h3]) (by simp[sx,h4])
theorem KG {n:Nat}(hn:n<=1000000)(hy0:y.length=n)(hyr:x.rows[r]?=some y)(hS:BS K J L x bx gr (r:Int) t g V E)(h12:tat t 12=.int .i64 0)(h13:tat t 13=.int .i64 ((n:Int) - 1))
  (fin:∀t g L x E,BS K J L x bx gr (r:Int) t g V E->Q (.exit 5) t [] g):wpL (wp C0 d none dI) Q t [] g:=by
 obtain ⟨FR,hFR⟩:∃FR,FR=SC.feet [0,1,3,7,0,31,63,0,0,256,768,1792,0,7936,16128,0,65280,130816,262143,524287] [o 279 (.mv (.t 10)),o 280 (.nilc (.t 279)),o 281 (.fad 2 (.t 280)),o 282 (.load false 1 (.t 281)),o 283 (.mv (.t 11)),o 284 (.ixs 1 (.t 282) (.t 283)),o 285 (.load false 1 (.t 284)),o 286 (.mv (.t 12)),o 287 (.mv (.t 10)),o 288 (.nilc (.t 287)),o 289 (.fad 2 (.t 288)),o 290 (.load false 1 (.t 289)),o 291 (.mv (.t 11)),o 292 (.ixs 1 (.t 290) (.t 291)),o 293 (.load false 1 (.t 292)),o 294 (.mv (.t 13)),o 295 (.ixs 1 (.t 293) (.t 294)),o 296 (.load false 1 (.t 295)),o 297 (.ixs 1 (.t 285) (.t 286)),oz (.store 1 (.t 297) (.t 296))]:=⟨_,rfl⟩
 simp only[dI]
 rw[<-hFR]
 refine bk (n / 2) (by omega) (fun j t df g=>df=[]/\∃L x y E,BS K J L x bx gr (r:Int) t g V E/\x.rows[r]?=some y/\y.length=n/\tat t 13=.int .i64 ((n:Int) - 1 - (j:Int)))
  ⟨rfl,L,x,y,E,hS,hyr,hy0,by simp[h13]⟩ h12 (by decide) ?_ ?_ ?_ ?_
 ·rintro j t df g v s (rfl | rfl | rfl) ⟨rfl,L,x,y,E,hS,h⟩<;>exact ⟨rfl,L,x,y,E,⟨by have:=hS.st;simpa [St,sx] using this,hS.hp,hS.f0,hS.f1,hS.f2,hS.bl,hS.hx,hS.hR,hS.hK,hS.hl⟩,by simpa [sx] using h⟩
 ·rintro j t df g hj ⟨rfl,L,x,y,E,hS,hyr,hyn,h13⟩ h12
  simp only[sx,sy,SO.run,↓reduceIte,Nat.reduceEqDiff,h12,h13]
  refine ⟨by congr 1;exact decide_eq_decide.2 (by omega),⟨L,x,y,E,⟨by have:=hS.st;simpa [St,sx] using this,hS.hp,hS.f0,hS.f1,hS.f2,hS.bl,hS.hx,hS.hR,hS.hK,hS.hl⟩,hyr,hyn⟩⟩
 ·rintro j t df g hj ⟨rfl,L,x,y,E,hS,hyr,hyn,h13⟩ h12
  have hk:((n:Int) - 1 - (j:Int))=((n - 1 - j:Nat):Int):=by omega
  rw[hk] at h13
  obtain ⟨z,hz⟩:∃z,y[j]?=some z:=⟨_,List.getElem?_eq_getElem (by omega)⟩
  obtain ⟨z',hz'⟩:∃z,y[n - 1 - j]?=some z:=⟨_,List.getElem?_eq_getElem (by omega)⟩
  refine cW (P:=fun t' df g'=>df=[]/\g'=g/\BS K J L x bx gr (r:Int) t' g V E/\St t' [(12,.int .i64 (j:Int)),(13,.int .i64 ((n - 1 - j:Nat):Int)),(14,.int .i64 z)]) ?_ ?_
  ·obtain ⟨h2,h3,h4,h10,h11,-⟩:=hS.st
   obtain ⟨rows,hB⟩:=hS.bt
   obtain ⟨rws,hR⟩:=hS.br hyr
   have u1:j<(y.map ci).length:=by simp;omega
   have u2:(y.map ci)[j]?=some (ci z):=by rw[List.getElem?_map,hz];rfl
   have hryy:=q_ hR.yr u1
   simp only[sx,sy,SO.run,↓reduceIte,Nat.reduceEqDiff,h10,h11,h12,bg hB.ry,bm hB.ry,hB.own.rows,hB.hlt,hB.row,hR.wr,hR.rl,hR.rw_,hR.yr,u1,u2,ci,Option.isSome_some,Option.getD_some]
   exact ⟨⟨by simp[St,sx,h2,h3,h4,h10,h11],hS.hp,hS.f0,hS.f1,hS.f2,hS.bl,hS.hx,hS.hR,hS.hK,hS.hl⟩,by simp[St,sx,h12,h13]⟩
  clear hS h12 h13
  rintro t df g1 ⟨rfl,rfl,hS,h12,h13,h14,-⟩
  rw[hFR]
  refine cW (P:=fun t' df g'=>df=[]/\∃L x E,BS K J L x bx gr (r:Int) t' g' V E/\x.rows[r]?=some (y.set j z')/\St t' [(12,.int .i64 (j:Int)),(13,.int .i64 ((n - 1 - j:Nat):Int)),(14,.int .i64 z)]) ?_ ?_
  ·obtain ⟨h2,h3,h4,h10,h11,-⟩:=hS.st
   obtain ⟨rows,hB⟩:=hS.bt
   obtain ⟨rws,hR⟩:=hS.br hyr
   have u1:j<(y.map ci).length:=by simp;omega
   have u2:(y.map ci)[j]?=some (ci z):=by rw[List.getElem?_map,hz];rfl
   have u3:n - 1 - j<(y.map ci).length:=by simp;omega
   have u4:(y.map ci)[n - 1 - j]?=some (ci z'):=by rw[List.getElem?_map,hz'];rfl
   have hryy:=q_ hR.yr u1
   have hrl:=hR.rl
   simp only[sx,sy,sf,SO.run,↓reduceIte,Nat.reduceEqDiff,h10,h11,h12,h13,bg hB.ry,bm hB.ry,hB.own.rows,hB.hlt,hB.row,hR.wr,hrl,hR.rw_,hR.yr,u1,u3,u4,ci,Option.isSome_some,Option.getD_some]
   refine (hS.hp.same (g':=_) (by simp) (by simp;omega)).put (k:=(J+1,2+r)) (i:=j) (off:=0) (n:=1) (row:=ci z) (row':=ci z') (LS.s hS.hx (by have:=(List.getElem?_eq_some_iff.1 hyr).1;omega)) hR.ye u2 rfl rfl rfl fun gb hHb nb frb fob=>?_
   simp only[sy] at nb frb fob ⊢
   rw[<-List.map_set] at hHb
   have hS2:=hS.put (t':=t) hyr (hHb.same (g':=G.mk gb.h gb.nx []) rfl (Nat.le_refl _)) (fun i hi=>by have:=frb i hi;simpa using this) (by simpa using hR.yl) (by simp[St,h2,h3,h4,h10,h11])
   refine ⟨?_,_,_,_,hS2.mv (by simp) (by simp) (by simp[St,sx,h2,h3,h4,h10,h11]),by simp[Node.wr,(List.getElem?_eq_some_iff.1 hyr).1],by simp[St,sx,h12,h13,h14]⟩
   simp only[List.reverse_cons,List.reverse_nil,List.nil_append,List.cons_append]
   exact aL [false,false,false,false,false,false,false,false,false,false,false,false,false,false,false,false,false,false,false,true] [] (by simp[All2,an,ay]) (by decide) (by simp)
  clear hS h12 h13 h14 hyr
  rintro t df g2 ⟨rfl,L,x,E,hS,hyr,h12,h13,h14,-⟩
  refine cW (P:=fun t' df g'=>df=[]/\∃L x E,BS K J L x bx gr (r:Int) t' g' V E/\x.rows[r]?=some ((y.set j z').set (n - 1 - j) z)/\St t' [(12,.int .i64 (j:Int)),(13,.int .i64 ((n - 1 - j:Nat):Int))]) ?_ ?_
  ·obtain ⟨h2,h3,h4,h10,h11,-⟩:=hS.st
   obtain ⟨rows,hB⟩:=hS.bt
   obtain ⟨rws,hR⟩:=hS.br hyr
   have u3:n - 1 - j<((y.set j z').map ci).length:=by simp;omega
   obtain ⟨w,hw⟩:∃w,(y.set j z')[n - 1 - j]?=some w:=⟨_,List.getElem?_eq_getElem (by simp;omega)⟩
   have u4:((y.set j z').map ci)[n - 1 - j]?=some (ci w):=by rw[List.getElem?_map,hw];rfl
   have hryy:=q_ hR.yr u3
   have hrl:=hR.rl
   have hyr':=hR.yr
   simp only[sx,sy,SO.run,↓reduceIte,Nat.reduceEqDiff,h10,h11,h13,h14,bg hB.ry,bm hB.ry,hB.own.rows,hB.hlt,hB.row,hR.wr,hrl,hR.rw_,hyr',u3,Option.isSome_some,Option.getD_some]
   refine hS.hp.put (k:=(J+1,2+r)) (i:=n - 1 - j) (off:=0) (n:=1) (row:=ci w) (row':=ci z) (LS.s hS.hx (by have:=(List.getElem?_eq_some_iff.1 hyr).1;omega)) hR.ye u4 rfl rfl rfl fun gb hHb nb frb fob=>?_
   simp only[sx,sy]
   rw[<-List.map_set] at hHb
   have hS2:=hS.put (t':=t) hyr hHb frb (by simpa using hR.yl) (by simp[St,h2,h3,h4,h10,h11])
   exact ⟨_,_,_,⟨by simp[St,sx,h2,h3,h4,h10,h11],hS2.hp,hS2.f0,hS2.f1,hS2.f2,hS2.bl,hS2.hx,hS2.hR,hS2.hK,hS2.hl⟩,by simp[Node.wr,(List.getElem?_eq_some_iff.1 hyr).1],by simp[St,sx,h12,h13]⟩
  clear hS h12 h13 h14 hyr
  rintro t df g3 ⟨rfl,L,x,E,hS,hyr,h12,h13,-⟩
  simp only[sx,sy,SO.run,↓reduceIte,Nat.reduceEqDiff,h12,h13]
  refine ⟨L,x,(y.set j z').set (n - 1 - j) z,E,hS.mv rfl (Nat.le_refl _) (by have:=hS.st;simpa [St,sx] using this),hyr,by simp[hyn],?_⟩
  rw[ap (by omega) (by omega)]
  congr 1
  omega
 ·rintro t df g ⟨rfl,L,x,y,E,hS,-⟩
  exact fin t g L x E hS
theorem bc9 (hS:BS K J L x bx gr Rw t g V E)(fin:s8 fun e t df g=>Q e t df g) :
  wp C0 d none (.seq (.ops [o 253 (.mv (.t 11)),o 254 (.bin .geq (.t 253) (.k (.int .i64 0)))]) (.cond (.t 254) (.seq (.quiet [o 255 (.mv (.t 10)),o 256 (.nilc (.t 255)),o 257 (.fad 2 (.t 256)),o 258 (.load false 1 (.t 257)),o 259 (.mv (.t 11)),o 260 (.ixs 1 (.t 258) (.t 259)),o 261 (.load false 1 (.t 260)),o 262 (.len .slice (.t 261)),o 263 (.bin .sub (.t 262) (.k (.int .i64 1))),o 12 (.mv (.k (.int .i64 0))),o 13 (.mv (.t 263))]) (.blk 5 (.loop dI))) (.skip))) Q t [] g:=by
 obtain ⟨h2,h3,h4,h10,h11,-⟩:=hS.st
 obtain ⟨rows,hB⟩:=hS.bt
 rcases hS.hR with ⟨rfl,h0⟩ | ⟨r,rfl,hr⟩
 ·simp only[sx,SO.run,↓reduceIte,h11]
  exact ⟨fun h=>by simp at h,fun _=>hS.fin0 fin (by simp[sx,h3]) (by simp[sx,h4])⟩
 ·simp only[sx,SO.run,↓reduceIte,h11]
  refine ⟨fun _=>?_,fun h=>by simp at h⟩
  obtain ⟨y,hy⟩:∃y,x.rows[r]?=some y:=⟨_,List.getElem?_eq_getElem hr⟩
  obtain ⟨rws,hR⟩:=hS.br hy
  have ly:=ck hR.yr
  rw[List.length_map] at ly
  have hyl:=hR.yl
  have hK:=hS.hK
  have w9:IntKind.wrap .i64 ((y.length:Int) - 1)=(y.length:Int) - 1:=ap (by omega) (by omega)
  simp only[sx,sy,SO.run,↓reduceIte,Nat.reduceEqDiff,h10,h11,bg hB.ry,bm hB.ry,hB.own.rows,hB.hlt,hB.row,hR.wr,hR.rl,hR.rw_,ly,w9,Option.isSome_some,Option.getD_some]
  refine KG (n:=y.length) (L:=L) (x:=x) (y:=y) (E:=E) (by omega) rfl hy ⟨by simp[St,sx,h2,h3,h4,h10,h11],hS.hp,hS.f0,hS.f1,hS.f2,hS.bl,hS.hx,hS.hR,hS.hK,hS.hl⟩ (by simp[sx]) (by simp[sx]) ?_
  intro t g L x E hS
  obtain ⟨h2,h3,h4,h10,h11,-⟩:=hS.st
  simp only[sx,↓reduceIte]
  exact hS.fin0 fin h3 h4
end
end
end Hx
end
section
namespace Hx
open Go
noncomputable section
def Kz:VS:=fun P k h v=>∃m:Net,True/\Agg m P k h v
theorem JT:Snb Kz 1:=gJ fun m=>bj _
theorem bk5 {d:Nat}{t:T}{g:G}{gr:Int}{nv:AV}{nds:List Node}(h3:tat t 3=.hptr 1 0 0 0)(h4:tat t 4=.hptr 2 0 0 0)(e1:g.h.get 1=.cells 2 [[.int .i64 gr,nv]] 0 false false)(e2:g.h.get 2=.cells 2 [[.int .i64 0,.nils]] 0 false false)
  (hn:SlR P3 0 g.h nds nv):wp C0 d none dF (fnQ C0 d [SR.cell true 2 4] fun v g'=>∃P,Kz P 0 g'.h v) t [] g:=by
 simp only[dF,sx,sy,SO.run,↓reduceIte,Nat.reduceEqDiff,Nat.reduceAdd,Nat.reduceLeDiff,h3,h4,e1,e2]
 refine ⟨P3,⟨gr,nds⟩,trivial,_,rfl,?_⟩
 exact Rp.mono (P:=P3) (h:=g.h) (cy.2 ⟨nv,rfl,hn⟩) (fun i hi=>⟨hi,by rw[aE _ _ _ (by have:3<=i:=hi;omega)]⟩) (Nat.le_refl _)
theorem bk6 {d K J:Nat}{L:List Node}{x:Node}{bx:jE}{gr Rw:Int}{t:T}{g:G}{V:Ky->AV}{E:Ky->En}{Q:QT}(hS:BS K J L x bx gr Rw t g V E)
  (last:s8 (kB 4 (kS (wp C0 d none dF Q) Q))):wp C0 d none fL Q t [] g:=by
 have w8:bx.1.toNat<256:=bx.1.toNat_lt
 obtain ⟨h2,h3,h4,h10,h11,-⟩:=hS.st
 have mv:∀{t':T},St t' (LBS (V (0,0)) J Rw)->BS K J L x bx gr Rw t' g V E:=fun h=>hS.mv rfl (Nat.le_refl _) h
 simp only[fL,sx,sy,SO.run,↓reduceIte,h2,hS.f0,u8v,fK .u8 (show (0:Int)<=(bx.1.toNat:Int) by omega) (show (0:Int)<12 by decide)]
 refine aS (fun hb=>?_) (fun hb=>?_)
 ·exact bc0 (mv (by simp[St,sx,h2,h3,h4,h10,h11])) last
 simp only[sx,SO.run,↓reduceIte,Nat.reduceEqDiff]
 refine aS (fun hb=>?_) (fun hb=>?_)
 ·exact bc1 (mv (by simp[St,sx,h2,h3,h4,h10,h11])) last
 simp only[sx,SO.run,↓reduceIte,Nat.reduceEqDiff]
 refine aS (fun hb=>?_) (fun hb=>?_)
 ·exact bc2 (mv (by simp[St,sx,h2,h3,h4,h10,h11])) last
 simp only[sx,SO.run,↓reduceIte,Nat.reduceEqDiff]
 refine aS (fun hb=>?_) (fun hb=>?_)
 ·exact bc3 (mv (by simp[St,sx,h2,h3,h4,h10,h11])) last
 simp only[sx,SO.run,↓reduceIte,Nat.reduceEqDiff]
 refine aS (fun hb=>?_) (fun hb=>?_)
 ·exact bc4 (mv (by simp[St,sx,h2,h3,h4,h10,h11])) last
 simp only[sx,SO.run,↓reduceIte,Nat.reduceEqDiff]
 refine aS (fun hb=>?_) (fun hb=>?_)
 ·exact bc5 (mv (by simp[St,sx,h2,h3,h4,h10,h11])) last
 simp only[sx,SO.run,↓reduceIte,Nat.reduceEqDiff]
 refine aS (fun hb=>?_) (fun hb=>?_)
 ·exact bc6 (mv (by simp[St,sx,h2,h3,h4,h10,h11])) last
 simp only[sx,SO.run,↓reduceIte,Nat.reduceEqDiff]
 refine aS (fun hb=>?_) (fun hb=>?_)
 ·exact bc7 (mv (by simp[St,sx,h2,h3,h4,h10,h11])) last
 simp only[sx,SO.run,↓reduceIte,Nat.reduceEqDiff]
 refine aS (fun hb=>?_) (fun hb=>?_)
 ·exact bc8 (mv (by simp[St,sx,h2,h3,h4,h10,h11])) last
 simp only[sx,SO.run,↓reduceIte,Nat.reduceEqDiff]
 refine aS (fun hb=>?_) (fun hb=>?_)
 ·exact bc9 (mv (by simp[St,sx,h2,h3,h4,h10,h11])) last
 simp only[sx,SO.run,↓reduceIte,Nat.reduceEqDiff]
 refine aS (fun hb=>?_) (fun hb=>?_)
 ·exact MV (mv (by simp[St,sx,h2,h3,h4,h10,h11])) last
 exact MZ (mv (by simp[St,sx,h2,h3,h4,h10,h11])) last
theorem bk7 {d K:Nat}{bx:jE}{gr:Int}{b:AV}{L:List Node}{t:T}{g:G}{V:Ky->AV}{E:Ky->En}(hK:K<=1000000)(hl:L.length<=K)
  (ht:St t [(2,.hptr 0 0 0 0),(3,.hptr 1 0 0 0),(4,.hptr 2 0 0 0)]) (h5:tat t 5=V (0,0)) (hH:Hp g 3 (LS L) V E) (hB:BBn g [u8v bx.1,u8v bx.2.1,u8v bx.2.2.1,.int .i64 bx.2.2.2] gr b) (hD:BLs K V E L) :
  wp C0 d none fX (fnQ C0 d [SR.cell true 2 4] fun v g'=>∃P,Kz P 0 g'.h v) t [] g:=by
 obtain ⟨h2,h3,h4,-⟩:=ht
 obtain ⟨b0,b1,b2⟩:=hB
 obtain ⟨rows,e1,e2,e3⟩:=hD.ns
 have o1:=hH.own LS.z e1
 have len1:=ck o1.rows
 rw[e2] at len1
 have hnx:=hH.nx
 unfold fX
 refine bu (P:=fun t df g'=>df=[]/\Hp g' 3 (LS L) V E/\St t [(2,.hptr 0 0 0 0),(3,.hptr 1 0 0 0),(4,.hptr 2 0 0 0),(5,V (0,0))]/\g'.h.get 0=.cells 4 [[u8v bx.1,u8v bx.2.1,u8v bx.2.2.1,.int .i64 bx.2.2.2]] 0 false false/\g'.h.get 1=.cells 2 [[.int .i64 gr,V (0,0)]] 0 false false/\g'.h.get 2=.cells 2 [[.int .i64 0,.nils]] 0 false false) ?_ ?_
 ·simp only[sx,sy,SO.run,↓reduceIte,Nat.reduceEqDiff,Nat.reduceAdd,Nat.reduceLeDiff,h3,h5,b1,o1.cell.1,o1.cell.2]
  exact ⟨hH.step (by simp) fun i hi _=>by simp[H.get_put];omega,by simp[St,sx,h2,h3,h4,h5],by simp[b0],by simp[b2]⟩
 clear b0 b1 b2 h2 h3 h4 h5 hH o1 hnx
 rintro t df g1 hg
 obtain ⟨rfl,hH,⟨h2,h3,h4,h5,-⟩,f0,f1,f2⟩:=hg
 have o1:=hH.own LS.z e1
 have hsl:=hD.sl hH (by omega) (by omega)
 simp only[sx,SO.run,↓reduceIte,h5,len1]
 refine aS (fun hb=>?_) (fun hb=>?_)
 ·simp only[sx,sy,SO.run,↓reduceIte,Nat.reduceEqDiff,Nat.reduceAdd,Nat.reduceLeDiff,h3,h4,f1,f2]
  refine ⟨P3,⟨gr,L⟩,trivial,_,rfl,?_⟩
  exact Rp.mono (P:=P3) (h:=g1.h) (cy.2 ⟨_,rfl,hsl⟩) (fun i hi=>⟨hi,by rw[aE _ _ _ (by have:3<=i:=hi;omega)]⟩) (Nat.le_refl _)
 have hn0:0<L.length:=by have:=of_decide_eq_false hb;omega
 have at8:bx.2.1.toNat<256:=bx.2.1.toNat_lt
 have em:((bx.2.1.toNat:Int) % (L.length:Int))=((bx.2.1.toNat % L.length:Nat):Int):=by omega
 have hJ:bx.2.1.toNat % L.length<L.length:=Nat.mod_lt _ hn0
 obtain ⟨J,hJe⟩:∃J,J=bx.2.1.toNat % L.length:=⟨_,rfl⟩
 rw[<-hJe] at em hJ
 obtain ⟨x,hx⟩:∃x,L[J]?=some x:=⟨_,List.getElem?_eq_getElem hJ⟩
 have hJr:J<rows.length:=by omega
 have hrow:rows[J]?=some [.int .i64 x.card,V (J+1,0),V (J+1,1)]:=e3 J x hx
 have hry:jz (V (0,0))=true:=eJ o1 (by omega)
 obtain ⟨rws,q1,q2,q3⟩:=(hD.nd J x hx).rs
 have hlen:=(hD.nd J x hx).len
 have o2:=hH.own (LS.s hx (by omega)) q1
 have len2:=ck o2.rows
 rw[q2] at len2
 rw[AH,tZ]
 refine bu (P:=fun t df g'=>df=[]/\g'=g1/\St t [(2,.hptr 0 0 0 0),(3,.hptr 1 0 0 0),(4,.hptr 2 0 0 0),(10,jr 3 (V (0,0)) J 0)]) ?_ ?_
 ·simp only[sx,sy,SO.run,↓reduceIte,Nat.reduceEqDiff,h2,h3,h4,h5,f0,len1,u8v,ap (show -9223372036854775808<=(bx.2.1.toNat:Int) by omega) (show (bx.2.1.toNat:Int)<9223372036854775808 by omega),fK .i64 (show (0:Int)<=(bx.2.1.toNat:Int) by omega) (show 0<(L.length:Int) by omega),em,o1.rows,hJr,Option.isSome_some,Option.getD_some,St]
 clear h2 h3 h4 h5
 rintro t df g' ⟨rfl,rfl,h2,h3,h4,h10,-⟩
 have r8:bx.2.2.1.toNat<256:=bx.2.2.1.toNat_lt
 refine bu (P:=fun t df g''=>df=[]/\g''=g'/\St t (LBS (V (0,0)) J (-1))) ?_ ?_
 ·simp only[sx,sy,SO.run,↓reduceIte,Nat.reduceEqDiff,h2,h3,h4,h10,St]
 clear h2 h3 h4 h10
 rintro t df g'' ⟨rfl,rfl,h2,h3,h4,h10,h11,-⟩
 refine cW (P:=fun t df g3=>df=[]/\g3=g''/\∃Rw:Int,((Rw = -1/\x.rows.length=0)\/∃r:Nat,Rw=(r:Int)/\r<x.rows.length)/\St t (LBS (V (0,0)) J Rw)) ?_ ?_
 ·simp only[sx,sy,SO.run,↓reduceIte,h10,bg hry,bm hry,o1.rows,hJr,hrow,len2,Option.isSome_some,Option.getD_some]
  refine aS (fun hb=>?_) (fun hb=>?_)
  ·have hpos:0<x.rows.length:=by simpa using hb
   have em2:((bx.2.2.1.toNat:Int) % (x.rows.length:Int))=((bx.2.2.1.toNat % x.rows.length:Nat):Int):=by omega
   have hm:=Nat.mod_lt bx.2.2.1.toNat hpos
   simp only[sx,sy,SO.run,↓reduceIte,Nat.reduceEqDiff,h2,h10,f0,u8v,ap (show -9223372036854775808<=(bx.2.2.1.toNat:Int) by omega) (show (bx.2.2.1.toNat:Int)<9223372036854775808 by omega),bg hry,bm hry,o1.rows,hJr,hrow,len2,fK .i64 (show (0:Int)<=(bx.2.2.1.toNat:Int) by omega) (show 0<(x.rows.length:Int) by omega),em2,Option.isSome_some,Option.getD_some]
   exact ⟨_,.inr ⟨_,rfl,hm⟩,by simp[St,sx,h2,h3,h4,h10]⟩
  ·have h0:x.rows.length=0:=by have:=of_decide_eq_false hb;omega
   simp only[sx,sy]
   exact ⟨-1,.inl ⟨rfl,h0⟩,by simp[St,sx,h2,h3,h4,h10,h11]⟩
 clear h2 h3 h4 h10 h11
 rintro t df g3 ⟨rfl,rfl,Rw,hR,ht⟩
 refine bk6 (K:=K) (L:=L) (x:=x) (bx:=bx) (gr:=gr) ⟨ht,hH,f0,f1,f2,hD,hx,hR,hK,hl⟩ ?_
 intro t g gr nv nds h3 h4 e1 e2 s1
 rw[AD,tZ]
 exact bk5 h3 h4 e1 e2 s1
theorem KF {d K:Nat}{g:G}{x:jE}{m:Net}{v w:AV}(hd:0<d)(hx:Agg x NoP 0 g.h v)(hm:Agg m NoP 0 g.h w)(hK:K<=1000000)(hl:m.nodes.length<=K)
  (hb:∀y∈m.nodes,y.parents.length<=K/\y.rows.length<=K/\∀r∈y.rows,r.length<=K):∃r,ae C0 d N.a8 [v,w] g=.val r/\Kz NoP 0 .nil r:=by
 have e0:=ea d hx
 have e1:=ea d hm
 obtain ⟨cs,rfl,hc⟩:=hx
 have hc:=yf.1 hc
 subst hc
 obtain ⟨cs,rfl,hc⟩:=hm
 obtain ⟨b,rfl,hN⟩:=cy.1 hc
 rw[sF]
 refine aM uE (xs:=[.agg [u8v x.1,u8v x.2.1,u8v x.2.2.1,.int .i64 x.2.2.2],.agg [.int .i64 m.grain,b]]) (by simp only[aB,e0,e1]) (by simp[jg]) JT (by decide) hd ?_
 clear e0 e1 hc
 have hN:=hN.tree (h':=.nil) (Nat.le_refl _)
 simp only[jg,sx,sy,SO.run,↓reduceIte,Nat.reduceEqDiff,Nat.reduceAdd]
 obtain ⟨g0,hg0⟩:∃g0,g0=((G.empty.new (.cells 4 [[u8v x.1,u8v x.2.1,u8v x.2.2.1,.int .i64 x.2.2.2]] 0 false false)).new (.cells 2 [[.int .i64 m.grain,b]] 0 false false)).new (.cells 2 [[.int .i64 0,.nils]] 0 false false):=⟨_,rfl⟩
 rw[<-hg0]
 have f0:BBn g0 [u8v x.1,u8v x.2.1,u8v x.2.2.1,.int .i64 x.2.2.2] m.grain b:=by rw[hg0];exact ⟨by simp[sx,H.get_put],by simp[sx,H.get_put],by simp[sx]⟩
 have f3:g0.nx=3:=by rw[hg0];simp[sx]
 clear hg0
 have hH:Hp g0 3 (LS []) (fun _=>.nils) (fun k=>.sl 3 []):=⟨fun k _=>.inl ⟨rfl,rfl⟩,fun k l _ _ _ id h=>(by cases h),by omega⟩
 simp only[l5,sx,SO.run]
 refine My (V:=fun _=>.nils) hK hN hl hb (by simp[St,sx]) (by simp[sx]) (by simp[sx]) hH f0 ⟨⟨[],rfl,rfl,fun i y hy=>by simp at hy⟩,fun i y hy=>by simp at hy⟩ ?_
 clear hH
 intro t g V E ht h5 hH hB hD
 simp only[sx,↓reduceIte]
 exact bk7 hK hl ht h5 hH hB hD
end
end Hx
end
section
namespace Hx
open Go
noncomputable section
theorem K5 {d v:Nat}{g:G}{w:AV}{e:List Int}{x:Int}(hd:0<d)(he:SlR NoP 0 .nil e w)(hv:v<e.length)(hl:e.length<=1000) :
  ∃r,ae C0 d N.bA [w,.int .i64 (v:Int),.int .i64 x] g=.val r/\oN (One (e.set v x)) (One (decide (e[v]?.getD 0<0) || decide (e[v]?.getD 0=x))) NoP 0 .nil r:=by
 have e1:=cG (h:=g.h) d (he.tree (Nat.le_refl 0))
 have re:∀h,af h 1 w=some (e.map ci):=fun h=>(he.tree (h':=h) (Nat.le_refl 0):SlR NoP 0 h e w).ints
 have u1:v<(e.map ci).length:=by simpa using hv
 have u2:(e.map ci)[v]?=some (ci (e[v]?.getD 0)):=by rw[List.getElem?_map,List.getElem?_eq_getElem hv];rfl
 have hry:jz w=true:=q_ (re .nil) u1
 rw[v8]
 refine aM zg (xs:=[w,.int .i64 (v:Int),.int .i64 x]) (by simp only[aB,e1,bI]) (by simp[nZ]) (bJ (m:=1) (aI _) (aI _) (by decide) (by decide)) (by decide) hd ?_
 simp only[nZ,sx,SO.run,↓reduceIte,Nat.reduceEqDiff]
 refine be (b:=0) (rows:=[]) (new:=e.map ci) (.inl ⟨rfl,rfl⟩) (re _) (by simp) (by simp[aT];omega) fun u g1 hu n1 _ _ _=>?_
 have hu:Own g1 0 u 1 (e.map ci):=hu
 have ru:=hu.rows
 simp only[sx,SO.run,↓reduceIte,Nat.reduceEqDiff,ru,u1,Option.isSome_some,Option.getD_some]
 refine bC (v:=u) (sz:=1) (n:=1) (i:=v) (off:=0) (x:=.int .i64 x) (row':=ci x) hu u2 rfl rfl rfl fun g2 hu2 n2 f2=>?_
 rw[<-List.map_set] at hu2
 simp only[sx,sy,SO.run,↓reduceIte,Nat.reduceEqDiff,re,u1,u2,ci,Option.isSome_some,Option.getD_some]
 have hres:One (e.set v x) (fun _=>True) 0 g2.h u:=hu2.ints (by simpa using (by omega:e.length<9223372036854775808))
 by_cases hc:e[v]?.getD 0<0
 ·simp only[sx,sy,SO.run,↓reduceIte,Nat.reduceEqDiff,hc,decide_true]
  exact ⟨fun _=>True,_,_,rfl,hres,cx.2 (by simp)⟩
 ·simp only[sx,sy,SO.run,↓reduceIte,Nat.reduceEqDiff,hc,decide_false,re,u1,u2,ci,Option.isSome_some,Option.getD_some]
  exact ⟨fun _=>True,_,_,rfl,hres,cx.2 (by simp)⟩
def TgV (e f:List Int):VS:=fun P k h v=>∃o:List Int×Bool,TgI e f f.length o.1 o.2/\oN (One o.1) (One o.2) P k h v
theorem Cw {d:Nat}{g:G}{w z:AV}{e f:List Int}(hd:0<d)(he:SlR NoP 0 .nil e w)(hf:SlR NoP 0 .nil f z)(hl:e.length<=1000)(hfl:f.length=e.length):∃r,ae C0 d N.bh [w,z] g=.val r/\TgV e f NoP 0 .nil r:=by
 have e1:=cG (h:=g.h) d (he.tree (Nat.le_refl 0))
 have e2:=cG (h:=g.h) d (hf.tree (Nat.le_refl 0))
 have rf:∀h,af h 1 z=some (f.map ci):=fun h=>(hf.tree (h':=h) (Nat.le_refl 0):SlR NoP 0 h f z).ints
 have lf:=hf.len
 rw[rh]
 refine aM t9 (xs:=[w,z]) (by simp only[aB,e1,e2]) (by simp[io]) (gJ fun o=>bJ (m:=1) (aI _) (aI _) (by decide) (by decide)) (by decide) hd ?_
 simp only[io,sx,SO.run,↓reduceIte,Nat.reduceEqDiff]
 refine bk f.length (by omega) (fun j t df g=>df=[]/\tat t 1=z/\∃(out:List Int) (is:Bool) (u:AV),tat t 6=u/\tat t 7=.bool is/\TgI e f j out is/\SlR NoP 0 .nil out u) ⟨rfl,by simp[sx],e,true,w,by simp[sx],by simp[sx],Hk e f,he⟩ (by simp[sx]) (by decide) (by
   rintro j t df g v s (rfl | rfl | rfl)<;>simp[sx]) ?_ ?_ ?_
 ·rintro j t df g hj ⟨rfl,h1,out,is,u,h6,h7,hI,hu⟩ h8
  simp only[sx,sy,SO.run,↓reduceIte,Nat.reduceEqDiff,h1,h6,h7,h8,lf]
  exact ⟨out,is,u,rfl,rfl,hI,hu⟩
 ·rintro j t df g hj ⟨rfl,h1,out,is,u,h6,h7,hI,hu⟩ h8
  have u1:j<(f.map ci).length:=by simpa using hj
  have u2:(f.map ci)[j]?=some (ci (f[j]?.getD 0)):=by rw[List.getElem?_map,List.getElem?_eq_getElem hj];rfl
  have hry:jz z=true:=q_ (rf .nil) u1
  have hol:=H6 hI
  simp only[sx,SO.run,↓reduceIte,Nat.reduceEqDiff,h1,h8,rf,u1,u2,ci,Option.isSome_some,Option.getD_some]
  by_cases hc:0<=f[j]?.getD 0
  ·cases is with
   | true =>
    simp only[sx,SO.run,↓reduceIte,Nat.reduceEqDiff,hc,decide_true,h1,h6,h7,h8,rf,u1,u2,ci,Option.isSome_some,Option.getD_some]
    refine ba (K5 (Nat.succ_pos d) hu (by omega) (by omega)) ?_
    rintro r ⟨a,c,rfl,ha,hc2⟩
    have hc2:=cx.1 hc2
    injection hc2 with hc2
    subst hc2
    simp only[sx,sy,SO.run,↓reduceIte,Nat.reduceEqDiff,h1,h8]
    exact ⟨_,_,_,rfl,rfl,LG hI (by omega) hc,IT.sl (k:=0) ha _⟩
   | false =>
    simp only[sx,sy,SO.run,↓reduceIte,Nat.reduceEqDiff,hc,decide_true,h1,h6,h7,h8]
    exact ⟨_,_,_,rfl,rfl,EW hI (.inr rfl),hu⟩
  ·simp only[sx,sy,SO.run,↓reduceIte,Nat.reduceEqDiff,hc,decide_false,h1,h6,h7,h8]
   exact ⟨_,_,_,rfl,rfl,EW hI (.inl hc),hu⟩
 ·rintro t df g ⟨rfl,h1,out,is,u,h6,h7,hI,hu⟩
  simp only[jA,sx,sy,SO.run,↓reduceIte,Nat.reduceEqDiff,h6,h7]
  exact ⟨NoP,(out,is),hI,_,_,rfl,cK.2 ⟨_,rfl,hu.tree (Nat.le_refl 0)⟩,cx.2 rfl⟩
theorem xw {d:Nat}{g:G}{v w:AV}{n:Net}{e:List Int}(hd:0<d)(hm:Agg n NoP 0 g.h v)(he:SlR NoP 0 .nil e w):ae C0 d N.ac [v,w] g=.val (.int .i64 (S.an n e)):=by
 obtain ⟨b,rows,rfl,e1,hm',hN,r1,r2,r3,r4⟩:=cM d hm
 have e2:=cG (h:=g.h) d (he.tree (Nat.le_refl 0))
 rw[rV]
 refine dH uZ (xs:=[.agg [.int .i64 n.grain,b],w]) (by simp only[aB,e1,e2]) (by simp[jh]) hd ?_
 simp only[jh,lJ,sx,sy,SO.run,↓reduceIte,Nat.reduceEqDiff,Nat.reduceAdd,Nat.reduceLeDiff]
 rw[Gy (Nat.succ_pos d) (hm' _)]
 rw[S.an]
 cases hr:S.ay n with
 | false=>simp only[sx,SO.run,↓reduceIte,Bool.not_false,Bool.false_eq_true]
 | true =>
  simp only[sx,sy,SO.run,↓reduceIte,Nat.reduceEqDiff,Nat.reduceAdd,Nat.reduceLeDiff,Bool.not_true]
  rw[Ig (n:=n) (e:=e) (Nat.succ_pos d) (hm' _) (he.tree (k':=0) (Nat.le_refl 0):SlR NoP 0 _ e w)]
  cases S.aq n e<;>simp only[sx,SO.run,↓reduceIte,Bool.not_true,Bool.not_false,Bool.false_eq_true]
def S.bp (no:Int)(n:Net)(e:List Int):Int:=if no=0/\S.aA n e=0 then 7 else no
theorem Bo {d:Nat}{g:G}{v w:AV}{n:Net}{e:List Int}{no:Int}(hd:0<d)(hm:Agg n NoP 0 g.h v)(he:SlR NoP 0 .nil e w)(h0:no=0->S.ay n=true/\S.aq n e=true):ae C0 d N.aH [.int .i64 no,v,w] g=.val (.int .i64 (S.bp no n e)):=by
 obtain ⟨b,rows,rfl,e1,hm',hN,r1,r2,r3,r4⟩:=cM d hm
 have e2:=cG (h:=g.h) d (he.tree (Nat.le_refl 0))
 rw[rt]
 refine dH tw (xs:=[.int .i64 no,.agg [.int .i64 n.grain,b],w]) (by simp only[aB,e1,e2,bI]) (by simp[ir]) hd ?_
 simp only[ir,ke,sx,sy,SO.run,↓reduceIte,Nat.reduceEqDiff,Nat.reduceAdd]
 by_cases hc:no=0
 ·obtain ⟨a1,a2⟩:=h0 hc
  subst hc
  simp only[sx,sy,SO.run,↓reduceIte,Nat.reduceEqDiff,Nat.reduceAdd,Nat.reduceLeDiff,decide_true]
  rw[wP (n:=n) (e:=e) (Nat.succ_pos d) (hm' _) (bz.1 a1) (he.tree (k':=0) (Nat.le_refl 0):SlR NoP 0 _ e w) (j9 a2).1]
  by_cases hz:S.aA n e=0
  ·simp only[sx,SO.run,↓reduceIte,Nat.reduceEqDiff,hz,decide_true,S.bp,and_self]
  ·simp only[sx,SO.run,↓reduceIte,Nat.reduceEqDiff,hz,decide_false,S.bp,and_false]
 ·simp only[sx,SO.run,↓reduceIte,Nat.reduceEqDiff,hc,decide_false,S.bp,false_and]
theorem CM (a b c e f:AV)(t:T):bZ 0 [a,b,c,e,f] t=fj (fj (fj (fj (fj t 0 a) 1 b) 2 c) 3 e) 4 f:=rfl
theorem K8 (a b:Int):yW false (.flat [.int .i64,.int .i64]) (.agg [.int .i64 a,.int .i64 b]) (.agg [.int .i64 a,.int .i64 b])=.val (.bool true):=by
 have ha:Dm a a=true:=by rw[qW];simp
 have hb:Dm b b=true:=by rw[qW];simp
 simp only[yW,eqA,cS,dJ,mL,ha,hb]
 rfl
theorem vo {d:Nat}{g:G}{q:QI}{e no:Int}{a b:Nat}(hd:0<d)(ha:a<=4611686018427387903)(hb0:0<b)(hb:b<=4611686018427387903)(h:(no≠0/\q=(0,0)/\e=no)\/(no=0/\q=S.aE a b/\e=0)) :
  ae C0 d N.an [.agg [.int .i64 q.1,.int .i64 q.2],.int .i64 e,.int .i64 no,.int .i64 (a:Int),.int .i64 (b:Int)] g=.val (.bool true):=by
 have e1:Hx.snap g.h d aC (.agg [.int .i64 q.1,.int .i64 q.2])=some (.agg [.int .i64 q.1,.int .i64 q.2]):=rfl
 rw[rk]
 refine dL uc (xs:=[.agg [.int .i64 q.1,.int .i64 q.2],.int .i64 e,.int .i64 no,.int .i64 (a:Int),.int .i64 (b:Int)]) (by simp only[aB,e1,bI]) (by simp[iM]) hd ?_
 simp only[iM,jW,CM,sx,sy,SO.run,↓reduceIte,Nat.reduceEqDiff,Nat.reduceAdd]
 rcases h with ⟨h1,rfl,rfl⟩ | ⟨rfl,rfl,rfl⟩
 ·have hbd:sK [.int .i64 0,.int .i64 0] [] []=.val (.agg [.int .i64 0,.int .i64 0]):=rfl
  simp only[sx,sy,SO.run,↓reduceIte,Nat.reduceEqDiff,Nat.reduceAdd,Nat.reduceLeDiff,h1,decide_false,Bool.not_false,decide_true,K8]
 ·simp only[sx,sy,SO.run,↓reduceIte,Nat.reduceEqDiff,Nat.reduceAdd,Nat.reduceLeDiff,decide_true,Bool.not_true]
  rw[L4 (Nat.succ_pos d) ha hb0 hb]
  simp only[sx,sy,SO.run,↓reduceIte,Nat.reduceEqDiff,K8,decide_true]
end
end Hx
end
section
namespace Hx
open Go
noncomputable section
def ML (raw:List Int):VS:=fun P k h v=>∃x:(Net×Net)×List Int,(Drafted x.1.1/\S.aq x.1.1 x.2=true)/\oN (Agg x.1) (Agg (raw.take 9,x.2)) P k h v
theorem lR {α:Type} [Rp α]{x:α}{P:Nat->Prop}{cs:List AV}(h:Rp.rp NoP 0 .nil x cs)(h':H):Agg x P 0 h' (.agg cs):=⟨_,rfl,Rp.tree h (Nat.le_refl _)⟩
theorem IC {d:Nat}{g:G}{x:se}{y:jE}{raw:List Int}{vs:List UInt8}{w:AV}{xs ys:List AV}(hd:0<d)(hx:Rp.rp NoP 0 .nil x xs)(hy:Rp.rp NoP 0 .nil y ys)(hw:SlR NoP 0 .nil raw w)(hraw:Raw w)(hv:vs.length=9) :
  ∃r,ae C0 d N.bK [.agg xs,.agg ys,w,.agg (vs.map u8v)] g=.val r/\ML raw NoP 0 .nil r:=by
 have e1:=ea d (lR (P:=NoP) hx g.h)
 have e2:=ea d (lR (P:=NoP) hy g.h)
 have e3:=cG (h:=g.h) d (hw.tree (Nat.le_refl 0))
 obtain ⟨a1,a2,ex,-⟩:=ut.1 hx
 have hxl:xs.length=3:=by rw[ex];rfl
 have hyl:ys.length=4:=by rw[yf.1 hy];rfl
 clear ex a1 a2
 obtain ⟨A,hA⟩:∃A,A=vs.map u8v:=⟨_,rfl⟩
 have hAl:A.length=9:=by rw[hA,List.length_map,hv]
 have e4:Hx.snap g.h d aC (.agg A)=some (.agg A):=by rw[hA];exact B3 _ _ _
 rw[uG,<-hA]
 refine aM x9 (xs:=[.agg xs,.agg ys,w,.agg A]) (by simp only[aB,e1,e2,e3,e4]) (by simp[mA]) (gJ fun o=>bJ (m:=2) (bj _) (bj _) (by decide) (by decide)) (by decide) hd ?_
 simp only[mA,sx,sy,SO.run,↓reduceIte,Nat.reduceEqDiff,Nat.reduceAdd]
 obtain ⟨g0,hg0⟩:∃g0,g0=((((G.empty.new (AObj.cells xs.length [xs] 0 false false)).new (AObj.cells ys.length [ys] 0 false false)).new (AObj.cells A.length [A] 0 false false)).new (.cells 4 [[.int .i64 0,.nils,.int .i64 0,.nils]] 0 false false)).new (.cells 2 [[.nils,.nils]] 0 false false):=⟨_,rfl⟩
 rw[<-hg0]
 have f0:g0.h.get 0=.cells 3 [xs] 0 false false:=by rw[hg0,hxl];simp[sx,H.get_put]
 have f1:g0.h.get 1=.cells 4 [ys] 0 false false:=by rw[hg0,hyl];simp[sx,H.get_put]
 have f2:g0.h.get 2=.cells 9 [A] 0 false false:=by rw[hg0,hAl];simp[sx,H.get_put]
 have f3:g0.h.get 3=.cells 4 [[.int .i64 0,.nils,.int .i64 0,.nils]] 0 false false:=by rw[hg0];simp[sx,H.get_put]
 have f4:g0.h.get 4=.cells 2 [[.nils,.nils]] 0 false false:=by rw[hg0];simp[sx]
 have f5:g0.nx=5:=by rw[hg0];simp[sx]
 clear hg0
 have ld0:du (.cells 3 [xs] 0 false false) 0 0 true 3 0=.val (.agg xs):=by
  match xs,hxl with
  | [a,b,c],_=>rfl
 have ld1:du (.cells 4 [ys] 0 false false) 0 0 true 4 0=.val (.agg ys):=by
  match ys,hyl with
  | [a,b,c,d],_=>rfl
 have ld2:du (.cells 9 [A] 0 false false) 0 0 true 9 0=.val (.agg A):=by
  match A,hAl with
  | [a,b,c,d,e,f,g,h,i],_=>rfl
 obtain ⟨rn,en,n,hdr,cn,rfl,hcn⟩:=KN (g:=g0) (d:=d+1) (Nat.succ_pos d) (lR (P:=NoP) hx g0.h)
 obtain ⟨b,rfl,hNb⟩:=cy.1 hcn
 unfold oX
 refine bu (P:=fun t' df g'=>df=[]/\St t' [(2,w),(5,.hptr 1 0 0 0),(7,.hptr 2 0 0 0),(8,.hptr 3 0 0 0),(9,.hptr 4 0 0 0),(10,.hptr 5 0 0 0)]/\g'.nx=6/\g'.h.get 1=.cells 4 [ys] 0 false false/\g'.h.get 2=.cells 9 [A] 0 false false/\g'.h.get 3=.cells 4 [[.int .i64 0,.nils,.int .i64 0,.nils]] 0 false false/\g'.h.get 4=.cells 2 [[.nils,.nils]] 0 false false/\g'.h.get 5=.cells 2 [[.int .i64 n.grain,b]] 0 false false) ?_ ?_
 ·simp only[sx,sy,SO.run,↓reduceIte,Nat.reduceEqDiff,Nat.reduceAdd,Nat.reduceLeDiff,f0,ld0,en]
  simp[St,sx,f1,f2,f3,f4,f5]
 clear f0 f1 f2 f3 f4 f5 en ld0
 rintro t df g1 ⟨rfl,⟨h2,h5,h7,h8,h9,h10,-⟩,n1,f1,f2,f3,f4,f5⟩
 obtain ⟨w',hw1,hw2⟩:=LT hw hraw 9
 have lw:=hw.len
 have hbd:∀y∈n.nodes,y.parents.length<=1000/\y.rows.length<=1000/\∀r∈y.rows,r.length<=1000:=hdr.b
 have hn5:=hdr.l
 have hcard:∀x∈n.nodes,0<x.card:=fun x hx=>by rcases hdr.c x hx with h | h<;>omega
 have mn9:min (raw.length:Int) 9=min (raw.length:Int) ((9:Nat):Int):=rfl
 simp only[sx,sy,sf,SO.run,↓reduceIte,Nat.reduceEqDiff,Nat.reduceAdd,Nat.reduceLeDiff,h5,h10,f1,f5,ld1,sB]
 refine ba (KF (K:=1000) (Nat.succ_pos d) (lR (P:=NoP) hy _) (lR (P:=NoP) hcn _) (by decide) (by omega) hbd) ?_
 rintro r ⟨m,-,cm,rfl,hcm⟩
 obtain ⟨b2,rfl,hNm⟩:=cy.1 hcm
 have hw1':∀g,sV 1 w none (some (.int .i64 (min (raw.length:Int) 9))) g=.val w':=hw1
 simp only[sx,sy,sf,SO.run,↓reduceIte,Nat.reduceEqDiff,Nat.reduceAdd,Nat.reduceLeDiff,h2,h7,h10,f2,f5,ld2,lw,List.head?_nil,List.head?_cons,hw1']
 rw[hA]
 refine ba (BM (m:=n) (Nat.succ_pos d) hv (lR (P:=NoP) hcn _) (by omega) hcard) ?_
 rintro z ⟨ev,hev,hz⟩
 have hz:SlR NoP 0 .nil ev z:=IT.sl (k:=0) hz .nil
 have fw:dz [.nils,.nils] [((0,1),w'),((1,1),z)]=some [w',z]:=by
  simp[dz,hw2.cell,hz.cell,cL]
  rfl
 simp only[sx,sy,sf,SO.run,↓reduceIte,Nat.reduceEqDiff,Nat.reduceAdd,Nat.reduceLeDiff,h8,h9,f3,f4,fw,jH]
 refine ⟨?_,?_⟩
 ·simp only[List.reverse_cons,List.reverse_nil,List.nil_append,List.cons_append]
  refine aL [false,false,false,false,false,false,false,false,false,false,false,false,false,false,true,true] [(5,14),(6,14),(7,14),(8,14),(9,14),(13,14)] (by simp[All2,an,ay]) (by decide) ?_
  rintro p hp' x y hx hy
  simp only[List.mem_cons,List.not_mem_nil,or_false] at hp'
  have rw0:=hw.refs
  rcases hp' with rfl | rfl | rfl | rfl | rfl | rfl<;>(simp at hx hy;subst hx;subst hy;refine cq rfl rfl rfl rfl ?_ ?_ ?_<;>simp[an,ay,vC,Dc,rw0])
 refine ⟨NoP,((n,m),ev),⟨hdr,hev⟩,_,_,rfl,⟨_,rfl,_,_,rfl,Rp.tree hcn (Nat.le_refl _),Rp.tree hcm (Nat.le_refl _)⟩,⟨_,rfl,[w'],[z],rfl,cK.2 ⟨_,rfl,hw2.tree (Nat.le_refl 0)⟩,cK.2 ⟨_,rfl,hz.tree (Nat.le_refl 0)⟩⟩⟩
end
end Hx
end
section
namespace Hx
open Go
set_option maxRecDepth 100000
noncomputable section
def gR:SC:=.seq (.ops [o 129 (.load true 2 (.t 27)),o 130 (.mv (.t 28)),o 131 (.mv (.t 29)),o 132 (.mv (.t 30)),o 133 (.mv (.t 19)),o 134 (.mx (.k (.int .i64 1)) (.t 133)),o 135 (.call N.an [.t 129,.t 130,.t 131,.t 132,.t 134]),o 136 (.not (.t 135))]) (.cond (.t 136) (.seq (.ops [o 10 (.mv (.k (.bool false)))]) (.ret)) (.skip))
def dD:SC:=.seq (.ops [o 30 (.mv (.k (.int .i64 0)))]) (.seq (.seq (.ops [o 117 (.mv (.t 29)),o 118 (.bin .eql (.t 117) (.k (.int .i64 0)))]) (.cond (.t 118) (.seq (.ops [o 120 (.mv (.t 17)),o 121 (.mv (.t 26)),o 122 (.call N.bh [.t 120,.t 121]),o 119 (.mv (.t 122)),o 123 (.ext (.t 119) 0),o 124 (.ext (.t 119) 1),o 31 (.mv (.t 123)),o 32 (.mv (.t 124))]) (.seq (.ops [o 125 (.mv (.t 32))]) (.cond (.t 125) (.ops [o 126 (.load true 2 (.t 15)),o 127 (.mv (.t 31)),o 128 (.call N.ae [.t 126,.t 127]),o 30 (.mv (.t 128))]) (.skip)))) (.skip))) gR)
def gu:SC:=.ops [o 137 (.bin .add (.t 98) (.k (.int .i64 1))),o 98 (.mv (.t 137))]
def gK:SC:=.seq (.ops [o 99 (.bin .lss (.t 98) (.k (.int .i64 2)))]) (.seq (.cond (.t 99) (.skip) (.exit 4)) (.seq (.blk 5 (.seq (.ops [o 100 (.ix false 2 1 (.t 97) (.t 98)),o 26 (.mv (.t 100))]) (.seq (.ops [o 102 (.load true 2 (.t 15)),o 103 (.mv (.t 17)),o 104 (.mv (.t 26)),o 105 (.call N.aw [.t 102,.t 103,.t 104]),o 101 (.mv (.t 105)),o 106 (.ext (.t 101) 0),o 107 (.ext (.t 101) 1),o 27 (.alloc [.int .i64 0,.int .i64 0]),oz (.store 2 (.t 27) (.t 106)),o 28 (.mv (.t 107))]) (.seq (.ops [o 108 (.mv (.t 18)),o 29 (.mv (.t 108))]) (.seq (.seq (.ops [o 109 (.mv (.t 29)),o 110 (.bin .eql (.t 109) (.k (.int .i64 0)))]) (.cond (.t 110) (.quiet [o 111 (.load true 2 (.t 15)),o 112 (.mv (.t 26)),o 113 (.call N.ac [.t 111,.t 112]),o 114 (.load true 2 (.t 15)),o 115 (.mv (.t 17)),o 116 (.call N.aH [.t 113,.t 114,.t 115]),o 29 (.mv (.t 116))]) (.skip))) dD))))) gu))
def dG:SC:=.seq (.ops [o 69 (.load true 2 (.t 15)),o 70 (.mv (.t 17)),o 71 (.call N.aJ [.t 69,.t 70]),o 68 (.mv (.t 71)),o 72 (.ext (.t 68) 0),o 73 (.ext (.t 68) 1),o 21 (.mv (.t 72)),o 22 (.mv (.t 73))]) (.seq (.ops [o 75 (.load true 2 (.t 15)),o 76 (.mv (.t 17)),o 77 (.call N.aB [.t 75,.t 76]),o 74 (.mv (.t 77)),o 78 (.ext (.t 74) 0),o 79 (.ext (.t 74) 1),o 23 (.alloc [.int .i64 0,.int .i64 0]),oz (.store 2 (.t 23) (.t 78)),o 24 (.mv (.t 79))]) (.seq (.seq (.ops [o 80 (.mv (.t 21)),o 81 (.mv (.t 19)),o 82 (.bin .neq (.t 80) (.t 81)),o 83 (.mv (.t 82)),og 84 83 false (.mv (.t 22)),og 85 83 false (.mv (.t 18)),og 86 83 false (.bin .neq (.t 84) (.t 85)),o 87 (.pick (.t 83) (.k (.bool true)) (.t 86)),o 88 (.mv (.t 87)),og 89 88 false (.load true 2 (.t 23)),og 90 88 false (.mv (.t 24)),og 91 88 false (.mv (.t 18)),og 92 88 false (.mv (.t 19)),og 93 88 false (.mv (.t 20)),og 94 88 false (.call N.an [.t 89,.t 90,.t 91,.t 92,.t 93]),og 95 88 false (.not (.t 94)),o 96 (.pick (.t 88) (.k (.bool true)) (.t 95))]) (.cond (.t 96) (.seq (.ops [o 10 (.mv (.k (.bool false)))]) (.ret)) (.skip))) (.seq (.ops [o 97 (.load true 2 (.t 13)),o 98 (.mv (.k (.int .i64 0)))]) (.blk 4 (.loop gK)))))
def gW:SC:=.ops [o 138 (.bin .add (.t 55) (.k (.int .i64 1))),o 55 (.mv (.t 138))]
def dC:SC:=.seq (.ops [o 56 (.bin .lss (.t 55) (.k (.int .i64 2)))]) (.seq (.cond (.t 56) (.skip) (.exit 2)) (.seq (.blk 3 (.seq (.ops [o 57 (.ix false 2 1 (.t 54) (.t 55)),o 17 (.mv (.t 57))]) (.seq (.ops [o 58 (.load true 2 (.t 15)),o 59 (.mv (.t 17)),o 60 (.call N.ac [.t 58,.t 59]),o 18 (.mv (.t 60))]) (.seq (.ops [o 19 (.mv (.k (.int .i64 0))),o 20 (.mv (.k (.int .i64 1)))]) (.seq (.seq (.ops [o 61 (.mv (.t 18)),o 62 (.bin .eql (.t 61) (.k (.int .i64 0)))]) (.cond (.t 62) (.quiet [o 63 (.load true 2 (.t 15)),o 64 (.mv (.t 17)),o 65 (.call N.ae [.t 63,.t 64]),o 66 (.load true 2 (.t 15)),o 67 (.call N.aL [.t 66]),o 19 (.mv (.t 65)),o 20 (.mv (.t 67))]) (.skip))) dG))))) gW))
def gH:SC:=.ops [o 139 (.bin .add (.t 51) (.k (.int .i64 1))),o 51 (.mv (.t 139))]
def g9:SC:=.seq (.ops [o 52 (.bin .lss (.t 51) (.k (.int .i64 2)))]) (.seq (.cond (.t 52) (.skip) (.exit 0)) (.seq (.blk 1 (.seq (.ops [o 53 (.ix true 2 2 (.t 50) (.t 51)),o 15 (.alloc [.int .i64 0,.nils]),oz (.store 2 (.t 15) (.t 53))]) (.seq (.ops [o 54 (.load true 2 (.t 12)),o 55 (.mv (.k (.int .i64 0)))]) (.blk 2 (.loop dC))))) gH))
def gA:SC:=.seq (.ops [o 10 (.mv (.k (.bool true)))]) (.ret)
def ik:SC:=.seq (.seq (.ops [o 33 (.call N.bT []),o 34 (.not (.t 33))]) (.cond (.t 34) (.seq (.ops [o 10 (.mv (.k (.bool false)))]) (.ret)) (.skip))) (.seq (.ops [o 36 (.load true 3 (.t 5)),o 37 (.load true 4 (.t 6)),o 38 (.mv (.t 2)),o 39 (.load true 9 (.t 8)),o 40 (.call N.bK [.t 36,.t 37,.t 38,.t 39]),o 35 (.mv (.t 40)),o 41 (.ext (.t 35) 0),o 42 (.ext (.t 35) 1),o 11 (.alloc [.int .i64 0,.nils,.int .i64 0,.nils]),o 12 (.alloc [.nils,.nils]),oz (.store 4 (.t 11) (.t 41)),oz (.store 2 (.t 12) (.t 42))]) (.seq (.feet [0,1,0,0,8,28,63,0,255] [o 43 (.ixa 2 1 (.t 12) (.k (.int .i64 0))),o 44 (.load false 1 (.t 43)),o 45 (.load true 9 (.t 9)),o 46 (.ixa 2 2 (.t 11) (.k (.int .i64 0))),o 47 (.load true 2 (.t 46)),o 48 (.call N.ay [.t 45,.t 47]),o 49 (.build [.nils,.nils] [(0,1),(1,1)] [.t 44,.t 48]),o 13 (.alloc [.nils,.nils]),oz (.store 2 (.t 13) (.t 49))]) (.seq (.seq (.ops [o 50 (.load true 4 (.t 11)),o 51 (.mv (.k (.int .i64 0)))]) (.blk 0 (.loop g9))) gA)))
def fk:SF:=⟨140,[.tm 10],.seq (.ops [o 5 (.box (.t 0)),o 6 (.box (.t 1)),o 8 (.box (.t 3)),o 9 (.box (.t 4)),o 10 (.mv (.k (.bool false)))]) ik⟩
theorem pE:nFn C0 N.bQ=some fk:=by kernel_rfl
end
end Hx
end
section
namespace Hx
open Go
noncomputable section
theorem Hy {n:Net}{e f:List Int}:(S.an n e=0->S.bp (S.an n f) n e=S.aw n e f)/\(S.an n e≠0->S.an n e=S.aw n e f):=by
 have hall:[e,f].all (S.aq n)=(S.aq n e&&S.aq n f):=by simp
 unfold S.aw S.aI S.bp S.an
 rw[hall]
 by_cases hz:S.aA n e=0<;>cases S.ay n<;>cases S.aq n e<;>cases S.aq n f<;>simp[hz]
theorem KB {n:Net}{e f:List Int}{o:List Int×Bool}(hr:NR n)(hlen:f.length=e.length)(h:TgI e f f.length o.1 o.2):S.bc n e f=if o.2=true then S.aA n o.1 else 0:=by
 obtain ⟨out,is⟩:=o
 cases is with
 | true =>
  rw[if_pos rfl,CO,S.bc]
  exact xU fun i _=>(Kk hlen h).symm
 | false =>
  rw[if_neg (by simp),S.bc]
  have:∀j,S.am n (S.pb n e f) j=0:=fun j=>by
   induction j with
   | zero=>rfl
   | succ j ih=>rw[S.am,ih,S.pb,H4 hlen h];rfl
  exact this _
def L3 (R:List (Nat×AV))(p:Nat)(w:AV)(no mass:Int)(c97:AV)(j:Nat):List (Nat×AV):=(15,.hptr p 0 0 0)::(17,w)::(18,.int .i64 no)::(19,.int .i64 mass)::(97,c97)::(98,.int .i64 (j:Int))::R
def HM:SC:=.seq (.ops [o 100 (.ix false 2 1 (.t 97) (.t 98)),o 26 (.mv (.t 100))]) (.seq (.ops [o 102 (.load true 2 (.t 15)),o 103 (.mv (.t 17)),o 104 (.mv (.t 26)),o 105 (.call N.aw [.t 102,.t 103,.t 104]),o 101 (.mv (.t 105)),o 106 (.ext (.t 101) 0),o 107 (.ext (.t 101) 1),o 27 (.alloc [.int .i64 0,.int .i64 0]),oz (.store 2 (.t 27) (.t 106)),o 28 (.mv (.t 107))]) (.seq (.ops [o 108 (.mv (.t 18)),o 29 (.mv (.t 108))]) (.seq (.seq (.ops [o 109 (.mv (.t 29)),o 110 (.bin .eql (.t 109) (.k (.int .i64 0)))]) (.cond (.t 110) (.quiet [o 111 (.load true 2 (.t 15)),o 112 (.mv (.t 26)),o 113 (.call N.ac [.t 111,.t 112]),o 114 (.load true 2 (.t 15)),o 115 (.mv (.t 17)),o 116 (.call N.aH [.t 113,.t 114,.t 115]),o 29 (.mv (.t 116))]) (.skip))) dD)))
def LR (q12 q13:Nat)(c50 i51 c54 i55:AV):List (Nat×AV):=[(12,.hptr q12 0 0 0),(13,.hptr q13 0 0 0),(50,c50),(51,i51),(54,c54),(55,i55)]
theorem MC {n:Net}{e f:List Int}{b w z c97 c50 i51 c54 i55:AV}{p j q12 q13:Nat}{no mass:Int}{Q:QT}{t:T}{g:G}(hm:∀h,Agg n NoP 0 h (.agg [.int .i64 n.grain,b]))(he:SlR NoP 0 .nil e w)(hf:SlR NoP 0 .nil f z)
  (hno:no=S.an n e) (hma:mass=if no=0 then S.aA n e else 0)
  (ht:St t (L3 (LR q12 q13 c50 i51 c54 i55) p w no mass c97 j)) (hix:ixV false 2 1 c97 (.int .i64 (j:Int))=.val z) (hg:g.h.get p=.cells 2 [[.int .i64 n.grain,b]] 0 false false) (hp:p<g.nx)
  (fin:∀t g',St t (L3 (LR q12 q13 c50 i51 c54 i55) p w no mass c97 j)->Fr g g'->Q .norm t [] g'):wp C0 1 none HM Q t [] g:=by
 have he':∀h,SlR NoP 0 h e w:=fun h=>he.tree (Nat.le_refl 0)
 have hf':∀h,SlR NoP 0 h f z:=fun h=>hf.tree (Nat.le_refl 0)
 have kG:∀g,ae C0 1 N.aw [.agg [.int .i64 n.grain,b],w,z] g=.val (.tup [.agg [.int .i64 (S.aJ n e f).1,.int .i64 (S.aJ n e f).2],.int .i64 (S.aw n e f)]):=fun g=>Gx (by decide) (hm _) (he' _) (hf' _)
 have kR:∀g,ae C0 1 N.ac [.agg [.int .i64 n.grain,b],z] g=.val (.int .i64 (S.an n f)):=fun g=>xw (by decide) (hm _) hf
 unfold HM
 refine bu (P:=fun t' df g'=>df=[]/\g'=g/\St t' ((26,z)::L3 (LR q12 q13 c50 i51 c54 i55) p w no mass c97 j)) ?_ ?_
 ·obtain ⟨h15,h17,h18,h19,h97,h98,h12,h13,h50,h51,h54,h55,-⟩:=ht
  simp only[sx,sy,SO.run,↓reduceIte,h97,h98,hix]
  simp[St,L3,LR,sx,h15,h17,h18,h19,h97,h98,h12,h13,h50,h51,h54,h55]
 clear ht
 rintro t df g1 ⟨rfl,rfl,ht⟩
 obtain ⟨r,hr⟩:∃r,r=g1.nx:=⟨_,rfl⟩
 refine bu (P:=fun t' df g'=>df=[]/\Fr g1 g'/\St t' ((26,z)::(27,.hptr r 0 0 0)::(28,.int .i64 (S.aw n e f))::L3 (LR q12 q13 c50 i51 c54 i55) p w no mass c97 j)/\r<g'.nx/\g'.h.get r=.cells 2 [[.int .i64 (S.aJ n e f).1,.int .i64 (S.aJ n e f).2]] 0 false false) ?_ ?_
 ·obtain ⟨h26,h15,h17,h18,h19,h97,h98,h12,h13,h50,h51,h54,h55,-⟩:=ht
  simp only[sx,sy,SO.run,↓reduceIte,Nat.reduceEqDiff,Nat.reduceAdd,Nat.reduceLeDiff,h26,h15,h17,hg,kG]
  refine ⟨CX _ _ _,?_,by simp[hr],by simp[hr]⟩
  simp[St,L3,LR,sx,h26,h15,h17,h18,h19,h97,h98,h12,h13,h50,h51,h54,h55,hr]
 clear ht
 rintro t df g2 ⟨rfl,f2,ht,hr2,kr⟩
 have hg2:g2.h.get p=.cells 2 [[.int .i64 n.grain,b]] 0 false false:=by rw[f2.2 p hp,hg]
 refine bu (P:=fun t' df g'=>df=[]/\g'=g2/\St t' ((26,z)::(27,.hptr r 0 0 0)::(28,.int .i64 (S.aw n e f))::(29,.int .i64 no)::L3 (LR q12 q13 c50 i51 c54 i55) p w no mass c97 j)) ?_ ?_
 ·obtain ⟨h26,h27,h28,h15,h17,h18,h19,h97,h98,h12,h13,h50,h51,h54,h55,-⟩:=ht
  simp only[sx,sy,SO.run,↓reduceIte,h18]
  simp[St,L3,LR,sx,h26,h27,h28,h15,h17,h18,h19,h97,h98,h12,h13,h50,h51,h54,h55]
 clear ht
 rintro t df g3 ⟨rfl,rfl,ht⟩
 refine cW (P:=fun t' df g'=>df=[]/\g'=g3/\St t' ((26,z)::(27,.hptr r 0 0 0)::(28,.int .i64 (S.aw n e f))::(29,.int .i64 (S.aw n e f))::L3 (LR q12 q13 c50 i51 c54 i55) p w no mass c97 j)) ?_ ?_
 ·obtain ⟨h26,h27,h28,h29,h15,h17,h18,h19,h97,h98,h12,h13,h50,h51,h54,h55,-⟩:=ht
  by_cases h0:no=0
  ·have hz:S.an n e=0:=by rw[<-hno,h0]
   obtain ⟨a1,a2⟩:=eG.1 hz
   have kP:∀g,ae C0 1 N.aH [.int .i64 (S.an n f),.agg [.int .i64 n.grain,b],w] g=.val (.int .i64 (S.bp (S.an n f) n e)):=fun g=>Bo (by decide) (hm _) he fun _=>⟨a1,a2⟩
   have hb:=(Hy (n:=n) (e:=e) (f:=f)).1 hz
   simp only[sx,sy,SO.run,↓reduceIte,Nat.reduceEqDiff,Nat.reduceAdd,Nat.reduceLeDiff,h29,h0,decide_true,h15,h17,h26,hg2,kR,kP,hb]
   simp[St,L3,LR,sx,h26,h27,h28,h15,h17,h18,h19,h97,h98,h12,h13,h50,h51,h54,h55,h0]
  ·have hb:=(Hy (n:=n) (e:=e) (f:=f)).2 (by rw[<-hno];exact h0)
   simp only[sx,sy,SO.run,↓reduceIte,h29,h0,decide_false]
   simp[St,L3,LR,sx,h26,h27,h28,h29,h15,h17,h18,h19,h97,h98,h12,h13,h50,h51,h54,h55,hb,hno]
 clear ht
 rintro t df g4 ⟨rfl,rfl,ht⟩
 unfold dD
 obtain ⟨bo,hbo⟩:∃bo:Int,bo=if S.aw n e f=0 then S.bc n e f else 0:=⟨_,rfl⟩
 refine bu (P:=fun t' df g'=>df=[]/\g'=g4/\St t' ((30,.int .i64 0)::(26,z)::(27,.hptr r 0 0 0)::(28,.int .i64 (S.aw n e f))::(29,.int .i64 (S.aw n e f))::L3 (LR q12 q13 c50 i51 c54 i55) p w no mass c97 j)) ?_ ?_
 ·obtain ⟨h26,h27,h28,h29,h15,h17,h18,h19,h97,h98,h12,h13,h50,h51,h54,h55,-⟩:=ht
  simp only[sx,sy,SO.run]
  simp[St,L3,LR,sx,h26,h27,h28,h29,h15,h17,h18,h19,h97,h98,h12,h13,h50,h51,h54,h55]
 clear ht
 rintro t df g5 ⟨rfl,rfl,ht⟩
 refine cW (P:=fun t' df g'=>df=[]/\Fr g5 g'/\g'.h.get r=g5.h.get r/\St t' ((30,.int .i64 bo)::(26,z)::(27,.hptr r 0 0 0)::(28,.int .i64 (S.aw n e f))::(29,.int .i64 (S.aw n e f))::L3 (LR q12 q13 c50 i51 c54 i55) p w no mass c97 j)) ?_ ?_
 ·obtain ⟨h30,h26,h27,h28,h29,h15,h17,h18,h19,h97,h98,h12,h13,h50,h51,h54,h55,-⟩:=ht
  by_cases h0:S.aw n e f=0
  ·obtain ⟨c1,c2⟩:S.aI n [e,f]=0/\S.aA n e≠0:=by
    unfold S.aw at h0
    by_cases ha:S.aI n [e,f]=0
    ·rw[if_pos ha] at h0
     by_cases hb:S.aA n e=0
     ·rw[if_pos hb] at h0;cases h0
     ·exact ⟨ha,hb⟩
    ·rw[if_neg ha] at h0;exact absurd h0 ha
   obtain ⟨b1,b2,b3⟩:=pG.1 c1
   have hr':=bz.1 b1
   have l1:=(j9 b2).1
   have l2:=(j9 b3).1
   have l8:=hr'.l2
   rw[if_pos h0] at hbo
   simp only[sx,SO.run,↓reduceIte,Nat.reduceEqDiff,h29,h0,decide_true,h17,h26]
   refine ba (Cw (by decide) he hf (by omega) (by omega)) ?_
   rintro _ ⟨o,ho,u1,u2,rfl,hu1,hu2⟩
   rw[cx.1 hu2 |> List.cons.inj |>.1]
   have hbe:=KB hr' (by omega) ho
   have hu1:SlR NoP 0 .nil o.1 u1:=IT.sl (k:=0) hu1 .nil
   have kM:∀g,ae C0 1 N.ae [.agg [.int .i64 n.grain,b],u1] g=.val (.int .i64 (S.aA n o.1)):=fun g=>wP (by decide) (hm _) hr' (hu1.tree (k':=0) (Nat.le_refl 0):SlR NoP 0 g.h o.1 u1) (by rw[H6 ho,l1])
   cases ho2:o.2 with
   | true =>
    rw[ho2,if_pos rfl] at hbe
    simp only[sx,sy,SO.run,↓reduceIte,Nat.reduceEqDiff,Nat.reduceAdd,Nat.reduceLeDiff,h15,hg2,kM]
    refine ⟨Fr.refl _,?_⟩
    simp[St,L3,LR,sx,h26,h27,h28,h29,h15,h17,h18,h19,h97,h98,h12,h13,h50,h51,h54,h55,h0,hbo,hbe]
   | false =>
    rw[ho2,if_neg (by simp)] at hbe
    simp only[sx,sy,SO.run,↓reduceIte,Nat.reduceEqDiff]
    refine ⟨Fr.refl _,?_⟩
    simp[St,L3,LR,sx,h30,h26,h27,h28,h29,h15,h17,h18,h19,h97,h98,h12,h13,h50,h51,h54,h55,h0,hbo,hbe]
  ·rw[if_neg h0] at hbo
   simp only[sx,sy,SO.run,↓reduceIte,h29,h0,decide_false]
   refine ⟨Fr.refl _,?_⟩
   simp[St,L3,LR,sx,h30,h26,h27,h28,h29,h15,h17,h18,h19,h97,h98,h12,h13,h50,h51,h54,h55,hbo]
 clear ht
 rintro t df g6 ⟨rfl,f6,kr6,ht⟩
 obtain ⟨h30,h26,h27,h28,h29,h15,h17,h18,h19,h97,h98,h12,h13,h50,h51,h54,h55,-⟩:=ht
 have hfr:∃A B:Nat,bo=(A:Int)/\max 1 mass=(B:Int)/\A<=4611686018427387903/\0<B/\B<=4611686018427387903/\((S.aw n e f≠0/\S.aJ n e f=(0,0)/\S.aw n e f=S.aw n e f)\/(S.aw n e f=0/\S.aJ n e f=S.aE A B/\S.aw n e f=0)):=by
  have hmb:0<=mass/\mass<=4611686018427387903:=by
   rw[hma]
   split
   ·rename_i h0
    have hz:S.an n e=0:=by rw[<-hno,h0]
    have:=lM (bz.1 (eG.1 hz).1) e
    omega
   ·omega
  by_cases h0:S.aw n e f=0
  ·rw[if_pos h0] at hbo
   have hj:S.aJ n e f=S.aE (S.bc n e f).toNat (S.aA n e).toNat:=by rw[S.aJ,if_pos h0]
   obtain ⟨c1,c2⟩:S.aI n [e,f]=0/\S.aA n e≠0:=by
    unfold S.aw at h0
    by_cases ha:S.aI n [e,f]=0
    ·rw[if_pos ha] at h0
     by_cases hb:S.aA n e=0
     ·rw[if_pos hb] at h0;cases h0
     ·exact ⟨ha,hb⟩
    ·rw[if_neg ha] at h0;exact absurd h0 ha
   obtain ⟨b1,b2,b3⟩:=pG.1 c1
   have hr':=bz.1 b1
   have hb1:0<=S.bc n e f/\S.bc n e f<=171992678400000000:=wE hr' (by have:=hr'.wl;omega)
   have hno0:no=0:=by rw[hno];exact eG.2 ⟨b1,b2⟩
   rw[if_pos hno0] at hma
   refine ⟨bo.toNat,mass.toNat,by omega,by omega,by omega,by omega,by omega,.inr ⟨h0,?_,h0⟩⟩
   rw[hj,hbo,hma]
  ·rw[if_neg h0] at hbo
   refine ⟨0,(max 1 mass).toNat,by omega,by omega,by omega,by omega,by omega,.inl ⟨h0,?_,rfl⟩⟩
   rw[S.aJ,if_neg h0]
 obtain ⟨A,B,hA,hB,k1,k2,k3,k4⟩:=hfr
 have kF:∀g,ae C0 1 N.an [.agg [.int .i64 (S.aJ n e f).1,.int .i64 (S.aJ n e f).2],.int .i64 (S.aw n e f),.int .i64 (S.aw n e f),.int .i64 (A:Int),.int .i64 (B:Int)] g=.val (.bool true):=fun g=>vo (by decide) k1 k2 k3 k4
 have kr':g6.h.get r=.cells 2 [[.int .i64 (S.aJ n e f).1,.int .i64 (S.aJ n e f).2]] 0 false false:=by rw[kr6];exact kr
 simp only[gR,sx,sy,SO.run,↓reduceIte,Nat.reduceEqDiff,Nat.reduceAdd,Nat.reduceLeDiff,h27,h28,h29,h30,h19,kr',hA,hB,kF,Bool.not_true]
 exact fin _ _ (by simp[St,L3,LR,sx,h15,h17,h18,h19,h97,h98,h12,h13,h50,h51,h54,h55]) (f2.trans f6)
end
end Hx
end
section
namespace Hx
open Go
noncomputable section
def L2 (q12 q13:Nat)(c50 i51 c54:AV)(p j:Nat):List (Nat×AV):=(15,.hptr p 0 0 0)::LR q12 q13 c50 i51 c54 (.int .i64 (j:Int))
def Fn:SC:=.seq (.ops [o 57 (.ix false 2 1 (.t 54) (.t 55)),o 17 (.mv (.t 57))]) (.seq (.ops [o 58 (.load true 2 (.t 15)),o 59 (.mv (.t 17)),o 60 (.call N.ac [.t 58,.t 59]),o 18 (.mv (.t 60))]) (.seq (.ops [o 19 (.mv (.k (.int .i64 0))),o 20 (.mv (.k (.int .i64 1)))]) (.seq (.seq (.ops [o 61 (.mv (.t 18)),o 62 (.bin .eql (.t 61) (.k (.int .i64 0)))]) (.cond (.t 62) (.quiet [o 63 (.load true 2 (.t 15)),o 64 (.mv (.t 17)),o 65 (.call N.ae [.t 63,.t 64]),o 66 (.load true 2 (.t 15)),o 67 (.call N.aL [.t 66]),o 19 (.mv (.t 65)),o 20 (.mv (.t 67))]) (.skip))) dG)))
theorem MM {n:Net}{e f1 f2:List Int}{b w z1 z2 c50 i51 c54:AV}{p j q12 q13:Nat}{Q:QT}{t:T}{g:G}(hm:∀h,Agg n NoP 0 h (.agg [.int .i64 n.grain,b]))(he:SlR NoP 0 .nil e w)(hf1:SlR NoP 0 .nil f1 z1)(hf2:SlR NoP 0 .nil f2 z2)
  (ht:St t (L2 q12 q13 c50 i51 c54 p j)) (hix:ixV false 2 1 c54 (.int .i64 (j:Int))=.val w) (hg:g.h.get p=.cells 2 [[.int .i64 n.grain,b]] 0 false false) (hp:p<g.nx)
  (hq:g.h.get q13=.cells 2 [[z1,z2]] 0 false false) (hq':q13<g.nx)
  (fin:∀t g',St t (L2 q12 q13 c50 i51 c54 p j)->Fr g g'->Q .norm t [] g'):wp C0 1 none Fn Q t [] g:=by
 have he':∀h,SlR NoP 0 h e w:=fun h=>he.tree (Nat.le_refl 0)
 have kRf:∀g,ae C0 1 N.ac [.agg [.int .i64 n.grain,b],w] g=.val (.int .i64 (S.an n e)):=fun g=>xw (by decide) (hm _) he
 have kJ:∀g,ae C0 1 N.aJ [.agg [.int .i64 n.grain,b],w] g=.val (.tup [.int .i64 (S.bk n e),.int .i64 (S.an n e)]):=fun g=>H0 (by decide) (hm _) (he' _)
 have kP:∀g,ae C0 1 N.aB [.agg [.int .i64 n.grain,b],w] g=.val (.tup [.agg [.int .i64 (S.aQ n e).1,.int .i64 (S.aQ n e).2],.int .i64 (S.an n e)]):=fun g=>IG (by decide) (hm _) (he' _)
 obtain ⟨no,hno⟩:∃no,no=S.an n e:=⟨_,rfl⟩
 obtain ⟨ma,hma⟩:∃ma:Int,ma=if no=0 then S.aA n e else 0:=⟨_,rfl⟩
 obtain ⟨wh,hwh⟩:∃wh:Int,wh=if no=0 then S.a9 n else 1:=⟨_,rfl⟩
 have hjm:S.bk n e=ma:=by rw[hma,hno];rfl
 rw[<-hno] at kRf kJ kP
 rw[hjm] at kJ
 unfold Fn
 refine bu (P:=fun t' df g'=>df=[]/\g'=g/\St t' ((17,w)::L2 q12 q13 c50 i51 c54 p j)) ?_ ?_
 ·obtain ⟨h15,h12,h13,h50,h51,h54,h55,-⟩:=ht
  simp only[sx,sy,SO.run,↓reduceIte,h54,h55,hix]
  simp[St,L2,LR,sx,h15,h12,h13,h50,h51,h54,h55]
 clear ht
 rintro t df g1 ⟨rfl,rfl,ht⟩
 refine bu (P:=fun t' df g'=>df=[]/\g'=g1/\St t' ((17,w)::(18,.int .i64 no)::L2 q12 q13 c50 i51 c54 p j)) ?_ ?_
 ·obtain ⟨h17,h15,h12,h13,h50,h51,h54,h55,-⟩:=ht
  simp only[sx,sy,SO.run,↓reduceIte,Nat.reduceEqDiff,Nat.reduceAdd,Nat.reduceLeDiff,h15,h17,hg,kRf]
  simp[St,L2,LR,sx,h17,h15,h12,h13,h50,h51,h54,h55]
 clear ht
 rintro t df g2 ⟨rfl,rfl,ht⟩
 refine bu (P:=fun t' df g'=>df=[]/\g'=g2/\St t' ((17,w)::(18,.int .i64 no)::(19,.int .i64 0)::(20,.int .i64 1)::L2 q12 q13 c50 i51 c54 p j)) ?_ ?_
 ·obtain ⟨h17,h18,h15,h12,h13,h50,h51,h54,h55,-⟩:=ht
  simp only[sx,sy,SO.run]
  simp[St,L2,LR,sx,h17,h18,h15,h12,h13,h50,h51,h54,h55]
 clear ht
 rintro t df g3 ⟨rfl,rfl,ht⟩
 refine cW (P:=fun t' df g'=>df=[]/\g'=g3/\St t' ((17,w)::(18,.int .i64 no)::(19,.int .i64 ma)::(20,.int .i64 wh)::L2 q12 q13 c50 i51 c54 p j)) ?_ ?_
 ·obtain ⟨h17,h18,h19,h20,h15,h12,h13,h50,h51,h54,h55,-⟩:=ht
  by_cases h0:no=0
  ·have hz:S.an n e=0:=by rw[<-hno,h0]
   obtain ⟨a1,a2⟩:=eG.1 hz
   have hr:=bz.1 a1
   have kM:∀g,ae C0 1 N.ae [.agg [.int .i64 n.grain,b],w] g=.val (.int .i64 (S.aA n e)):=fun g=>wP (by decide) (hm _) hr (he' g.h) (j9 a2).1
   have kW:∀g,ae C0 1 N.aL [.agg [.int .i64 n.grain,b]] g=.val (.int .i64 (S.a9 n)):=fun g=>Gf (by decide) (hm g.h) hr
   rw[if_pos h0] at hma hwh
   simp only[sx,sy,SO.run,↓reduceIte,Nat.reduceEqDiff,Nat.reduceAdd,Nat.reduceLeDiff,h18,h0,decide_true,h15,h17,hg,kM,kW]
   simp[St,L2,LR,sx,h17,h18,h15,h12,h13,h50,h51,h54,h55,h0,hma,hwh]
  ·rw[if_neg h0] at hma hwh
   simp only[sx,sy,SO.run,↓reduceIte,h18,h0,decide_false]
   simp[St,L2,LR,sx,h17,h18,h19,h20,h15,h12,h13,h50,h51,h54,h55,hma,hwh]
 clear ht
 rintro t df g4 ⟨rfl,rfl,ht⟩
 have hfr:∃A B:Nat,ma=(A:Int)/\wh=(B:Int)/\A<=4611686018427387903/\0<B/\B<=4611686018427387903/\((no≠0/\S.aQ n e=(0,0)/\no=no)\/(no=0/\S.aQ n e=S.aE A B/\no=0)):=by
  by_cases h0:no=0
  ·rw[if_pos h0] at hma hwh
   have hz:S.an n e=0:=by rw[<-hno,h0]
   have hr:=bz.1 (eG.1 hz).1
   have k1:=lM hr e
   have k2:=yd hr
   refine ⟨ma.toNat,wh.toNat,by omega,by omega,by omega,by omega,by omega,.inr ⟨h0,?_,h0⟩⟩
   rw[S.aQ,if_pos hz,hma,hwh]
  ·rw[if_neg h0] at hma hwh
   refine ⟨0,1,by omega,by omega,by omega,by omega,by omega,.inl ⟨h0,?_,rfl⟩⟩
   rw[S.aQ,if_neg (by rw[<-hno];exact h0)]
 obtain ⟨A,B,hA,hB,k1,k2,k3,k4⟩:=hfr
 have kF:∀g,ae C0 1 N.an [.agg [.int .i64 (S.aQ n e).1,.int .i64 (S.aQ n e).2],.int .i64 no,.int .i64 no,.int .i64 (A:Int),.int .i64 (B:Int)] g=.val (.bool true):=fun g=>vo (by decide) k1 k2 k3 k4
 unfold dG
 refine bu (P:=fun t' df g'=>df=[]/\g'=g4/\St t' ((21,.int .i64 ma)::(22,.int .i64 no)::(17,w)::(18,.int .i64 no)::(19,.int .i64 ma)::(20,.int .i64 wh)::L2 q12 q13 c50 i51 c54 p j)) ?_ ?_
 ·obtain ⟨h17,h18,h19,h20,h15,h12,h13,h50,h51,h54,h55,-⟩:=ht
  simp only[sx,sy,SO.run,↓reduceIte,Nat.reduceEqDiff,Nat.reduceAdd,Nat.reduceLeDiff,h15,h17,hg,kJ]
  simp[St,L2,LR,sx,h17,h18,h19,h20,h15,h12,h13,h50,h51,h54,h55]
 clear ht
 rintro t df g5 ⟨rfl,rfl,ht⟩
 obtain ⟨r,hr⟩:∃r,r=g5.nx:=⟨_,rfl⟩
 refine bu (P:=fun t' df g'=>df=[]/\Fr g5 g'/\St t' ((23,.hptr r 0 0 0)::(24,.int .i64 no)::(21,.int .i64 ma)::(22,.int .i64 no)::(17,w)::(18,.int .i64 no)::(19,.int .i64 ma)::(20,.int .i64 wh)::L2 q12 q13 c50 i51 c54 p j)/\r<g'.nx/\g'.h.get r=.cells 2 [[.int .i64 (S.aQ n e).1,.int .i64 (S.aQ n e).2]] 0 false false) ?_ ?_
 ·obtain ⟨h21,h22,h17,h18,h19,h20,h15,h12,h13,h50,h51,h54,h55,-⟩:=ht
  simp only[sx,sy,SO.run,↓reduceIte,Nat.reduceEqDiff,Nat.reduceAdd,Nat.reduceLeDiff,h15,h17,hg,kP]
  refine ⟨CX _ _ _,?_,by simp[hr],by simp[hr]⟩
  simp[St,L2,LR,sx,h21,h22,h17,h18,h19,h20,h15,h12,h13,h50,h51,h54,h55,hr]
 clear ht
 rintro t df g6 ⟨rfl,f6,ht,hr6,kr⟩
 refine cW (P:=fun t' df g'=>df=[]/\g'=g6/\St t' ((17,w)::(18,.int .i64 no)::(19,.int .i64 ma)::L2 q12 q13 c50 i51 c54 p j)) ?_ ?_
 ·obtain ⟨h23,h24,h21,h22,h17,h18,h19,h20,h15,h12,h13,h50,h51,h54,h55,-⟩:=ht
  rw[hA] at h19 h21
  rw[hB] at h20
  simp only[sx,sy,SO.run,↓reduceIte,Nat.reduceEqDiff,Nat.reduceAdd,Nat.reduceLeDiff,h21,h22,h18,h19,h20,h23,h24,kr,kF,decide_true,Bool.not_true]
  simp[St,L2,LR,sx,h17,h18,h19,h15,h12,h13,h50,h51,h54,h55,hA]
 clear ht
 rintro t df g7 ⟨rfl,rfl,ht⟩
 have hg7:g7.h.get p=.cells 2 [[.int .i64 n.grain,b]] 0 false false:=by rw[f6.2 p hp,hg]
 have hq7:g7.h.get q13=.cells 2 [[z1,z2]] 0 false false:=by rw[f6.2 q13 hq',hq]
 have hp7:p<g7.nx:=Nat.lt_of_lt_of_le hp f6.1
 refine bu (P:=fun t' df g'=>df=[]/\g'=g7/\St t' (L3 (LR q12 q13 c50 i51 c54 (.int .i64 (j:Int))) p w no ma (.agg [z1,z2]) 0)) ?_ ?_
 ·obtain ⟨h17,h18,h19,h15,h12,h13,h50,h51,h54,h55,-⟩:=ht
  simp only[sx,sy,SO.run,↓reduceIte,Nat.reduceAdd,Nat.reduceLeDiff,h13,hq7]
  simp[St,L3,LR,sx,h17,h18,h19,h15,h12,h13,h50,h51,h54,h55]
 clear ht
 rintro t df g8 ⟨rfl,rfl,h15,h17,h18,h19,h97,h98,hrest⟩
 simp only[uI,tN,gK,gu]
 refine pT (m:=2) rfl (by omega) (fun i t df g=>df=[]/\Fr g8 g/\St t [(15,.hptr p 0 0 0),(17,w),(18,.int .i64 no),(19,.int .i64 ma),(97,.agg [z1,z2])]/\St t (LR q12 q13 c50 i51 c54 (.int .i64 (j:Int))))
  ⟨rfl,Fr.refl _,⟨h15,h17,h18,h19,h97,trivial⟩,hrest⟩ h98 (by decide) (by rintro i t df g v s (rfl | rfl | rfl)<;>simp[St,LR,sx]) ?_ ?_
 ·clear h15 h17 h18 h19 h97 h98 hrest
  rintro i t df g hi ⟨rfl,hfr,⟨h15,h17,h18,h19,h97,-⟩,hrest⟩ h98
  have h99:∀s v,s=99->St (fj t s v) (L3 (LR q12 q13 c50 i51 c54 (.int .i64 (j:Int))) p w no ma (.agg [z1,z2]) i):=fun s v hs=>by
   subst hs
   obtain ⟨h12,h13,h50,h51,h54,h55,-⟩:=hrest
   simp[St,L3,LR,sx,h15,h17,h18,h19,h97,h98,h12,h13,h50,h51,h54,h55]
  have hgi:g.h.get p=.cells 2 [[.int .i64 n.grain,b]] 0 false false:=by rw[hfr.2 p hp7,hg7]
  have hpi:p<g.nx:=Nat.lt_of_lt_of_le hp7 hfr.1
  have hl3:St t (L3 (LR q12 q13 c50 i51 c54 (.int .i64 (j:Int))) p w no ma (.agg [z1,z2]) i):=⟨h15,h17,h18,h19,h97,h98,hrest⟩
  have fin':∀t g',St t (L3 (LR q12 q13 c50 i51 c54 (.int .i64 (j:Int))) p w no ma (.agg [z1,z2]) i)->Fr g g'->kR (fun t df g=>(df=[]/\Fr g8 g/\St t [(15,.hptr p 0 0 0),(17,w),(18,.int .i64 no),(19,.int .i64 ma),(97,.agg [z1,z2])]/\St t (LR q12 q13 c50 i51 c54 (.int .i64 (j:Int))))/\tat t 98=.int .i64 (i:Int)) 5 (kB 4 Q) .norm t [] g':=by
   rintro t g' ⟨h15,h17,h18,h19,h97,h98,hrest⟩ hf
   exact ⟨⟨rfl,hfr.trans hf,⟨h15,h17,h18,h19,h97,trivial⟩,hrest⟩,h98⟩
  have:i=0\/i=1:=by omega
  rcases this with rfl | rfl
  ·exact MC hm he hf1 hno hma hl3 rfl hgi hpi fin'
  ·exact MC hm he hf2 hno hma hl3 rfl hgi hpi fin'
 ·rintro t df g ⟨rfl,hfr,⟨h15,-⟩,hrest⟩
  simp only[iU,if_true]
  exact fin t g ⟨h15,hrest⟩ (f6.trans hfr)
def L1 (q12 q13:Nat)(c50:AV)(i:Nat):List (Nat×AV):=[(12,.hptr q12 0 0 0),(13,.hptr q13 0 0 0),(50,c50),(51,.int .i64 (i:Int))]
def EA:SC:=.seq (.ops [o 53 (.ix true 2 2 (.t 50) (.t 51)),o 15 (.alloc [.int .i64 0,.nils]),oz (.store 2 (.t 15) (.t 53))]) (.seq (.ops [o 54 (.load true 2 (.t 12)),o 55 (.mv (.k (.int .i64 0)))]) (.blk 2 (.loop dC)))
theorem MJ {n:Net}{e1 e2 f1 f2:List Int}{b w1 w2 z1 z2 c50:AV}{i q12 q13:Nat}{Q:QT}{t:T}{g:G}(hm:∀h,Agg n NoP 0 h (.agg [.int .i64 n.grain,b]))(he1:SlR NoP 0 .nil e1 w1)(he2:SlR NoP 0 .nil e2 w2)(hf1:SlR NoP 0 .nil f1 z1)(hf2:SlR NoP 0 .nil f2 z2)
  (ht:St t (L1 q12 q13 c50 i)) (hix:ixV true 2 2 c50 (.int .i64 (i:Int))=.val (.agg [.int .i64 n.grain,b])) (hq12:g.h.get q12=.cells 2 [[w1,w2]] 0 false false) (hq12':q12<g.nx) (hq:g.h.get q13=.cells 2 [[z1,z2]] 0 false false) (hq':q13<g.nx)
  (fin:∀t g',St t (L1 q12 q13 c50 i)->Fr g g'->Q .norm t [] g'):wp C0 1 none EA Q t [] g:=by
 unfold EA
 obtain ⟨p,hp⟩:∃p,p=g.nx:=⟨_,rfl⟩
 refine bu (P:=fun t' df g'=>df=[]/\Fr g g'/\St t' ((15,.hptr p 0 0 0)::L1 q12 q13 c50 i)/\p<g'.nx/\g'.h.get p=.cells 2 [[.int .i64 n.grain,b]] 0 false false) ?_ ?_
 ·obtain ⟨h12,h13,h50,h51,-⟩:=ht
  simp only[sx,sy,SO.run,↓reduceIte,Nat.reduceEqDiff,Nat.reduceAdd,Nat.reduceLeDiff,h50,h51,hix]
  refine ⟨CX _ _ _,?_,by simp[hp],by simp[hp]⟩
  simp[St,L1,sx,h12,h13,h50,h51,hp]
 clear ht
 rintro t df g1 ⟨rfl,fr1,ht,hp1,hgp⟩
 have k12:g1.h.get q12=.cells 2 [[w1,w2]] 0 false false:=by rw[fr1.2 q12 hq12',hq12]
 have k13:g1.h.get q13=.cells 2 [[z1,z2]] 0 false false:=by rw[fr1.2 q13 hq',hq]
 have n13:q13<g1.nx:=Nat.lt_of_lt_of_le hq' fr1.1
 refine bu (P:=fun t' df g'=>df=[]/\g'=g1/\St t' (L2 q12 q13 c50 (.int .i64 (i:Int)) (.agg [w1,w2]) p 0)) ?_ ?_
 ·obtain ⟨h15,h12,h13,h50,h51,-⟩:=ht
  simp only[sx,sy,SO.run,↓reduceIte,Nat.reduceAdd,Nat.reduceLeDiff,h12,k12]
  simp[St,L2,LR,sx,h15,h12,h13,h50,h51]
 clear ht
 rintro t df g2 ⟨rfl,rfl,h15,h12,h13,h50,h51,h54,h55,-⟩
 simp only[uI,tN,dC,gW]
 refine pT (m:=2) rfl (by omega) (fun j t df g=>df=[]/\Fr g2 g/\St t [(15,.hptr p 0 0 0),(12,.hptr q12 0 0 0),(13,.hptr q13 0 0 0),(50,c50),(51,.int .i64 (i:Int)),(54,.agg [w1,w2])])
  ⟨rfl,Fr.refl _,⟨h15,h12,h13,h50,h51,h54,trivial⟩⟩ h55 (by decide) (by rintro i t df g v s (rfl | rfl | rfl)<;>simp[St,sx]) ?_ ?_
 ·clear h15 h12 h13 h50 h51 h54 h55
  rintro j t df g hj ⟨rfl,hfr,h15,h12,h13,h50,h51,h54,-⟩ h55
  have hl:St t (L2 q12 q13 c50 (.int .i64 (i:Int)) (.agg [w1,w2]) p j):=⟨h15,h12,h13,h50,h51,h54,h55,trivial⟩
  have fin':∀t g',St t (L2 q12 q13 c50 (.int .i64 (i:Int)) (.agg [w1,w2]) p j)->Fr g g'->kR (fun t df g=>(df=[]/\Fr g2 g/\St t [(15,.hptr p 0 0 0),(12,.hptr q12 0 0 0),(13,.hptr q13 0 0 0),(50,c50),(51,.int .i64 (i:Int)),(54,.agg [w1,w2])])/\tat t 55=.int .i64 (j:Int)) 3 (kB 2 Q) .norm t [] g':=by
   rintro t g' ⟨h15,h12,h13,h50,h51,h54,h55,-⟩ hf
   exact ⟨⟨rfl,hfr.trans hf,h15,h12,h13,h50,h51,h54,trivial⟩,h55⟩
  have hgp':g.h.get p=.cells 2 [[.int .i64 n.grain,b]] 0 false false:=by rw[hfr.2 p hp1,hgp]
  have hq'':g.h.get q13=.cells 2 [[z1,z2]] 0 false false:=by rw[hfr.2 q13 n13,k13]
  have:j=0\/j=1:=by omega
  rcases this with rfl | rfl
  ·exact MM hm he1 hf1 hf2 hl rfl hgp' (Nat.lt_of_lt_of_le hp1 hfr.1) hq'' (Nat.lt_of_lt_of_le n13 hfr.1) fin'
  ·exact MM hm he2 hf1 hf2 hl rfl hgp' (Nat.lt_of_lt_of_le hp1 hfr.1) hq'' (Nat.lt_of_lt_of_le n13 hfr.1) fin'
 ·rintro t df g ⟨rfl,hfr,h15,h12,h13,h50,h51,h54,-⟩
  simp only[iU,if_true]
  exact fin t g ⟨h12,h13,h50,h51,trivial⟩ (fr1.trans hfr)
end
end Hx
end
section
namespace Hx
open Go
noncomputable section
theorem BY (g:G):ae C0 1 N.bT [] g=.val (.bool true):=by kernel_rfl
theorem Lf (n sz id:Nat)(h:0<n):Gv n sz (.hptr id 0 0 0) (.int .i64 0)=.val (.hptr id 0 0 0):=by
 have:=E2 n sz id 0 0 0 .i64 h
 simpa using this
theorem JN (h:H)(l:List UInt8):aF h aC (.agg (l.map u8v))=[]:=by
 show (l.map u8v).flatMap (aF h 23)=[]
 induction l with
 | nil=>rfl
 | cons x l ih=>rw[List.map_cons,List.flatMap_cons,ih];rfl
theorem uS {x:se}{y:jE}{u1 u2 w:AV}{raw:List Int}{vs us:List UInt8}(hx:Agg x NoP 0 .nil u1)(hy:Agg y NoP 0 .nil u2)
  (hw:SlR NoP 0 .nil raw w) (hraw:Raw w) (hv:vs.length=9) (hu:us.length=9):∃g',(I C0).call 1 N.bQ [u1,u2,w,.agg (vs.map u8v),.agg (us.map u8v)] G.empty=.ok (.bool true) g':=by
 obtain ⟨xs,rfl,qx⟩:=hx
 obtain ⟨ys,rfl,qy⟩:=hy
 obtain ⟨a1',a2',e1,-⟩:=ut.1 qx
 have hxl:xs.length=3:=by rw[e1];rfl
 have hyl:ys.length=4:=by rw[yf.1 qy];rfl
 clear e1 a1' a2'
 obtain ⟨A,hA⟩:∃A,A=vs.map u8v:=⟨_,rfl⟩
 obtain ⟨B,hB⟩:∃B,B=us.map u8v:=⟨_,rfl⟩
 have hAl:A.length=9:=by rw[hA];simpa using hv
 have hBl:B.length=9:=by rw[hB];simpa using hu
 rw[<-hA,<-hB]
 have key:=oO (C:=C0) (d:=1) (f:=N.bQ) («as»:=[.agg xs,.agg ys,w,.agg A,.agg B]) (g:=G.empty) (K:=fun v g'=>v=.bool true) pE (by simp[fk]) ?_
 ·cases hc:(I C0).call 1 N.bQ [.agg xs,.agg ys,w,.agg A,.agg B] G.empty with
  | fail=>rw[hc] at key;exact key.elim
  | ok v g'=>rw[hc] at key;exact ⟨g',by rw[show v=.bool true from key]⟩
 simp only[fk,CM,sx,sy,SO.run,↓reduceIte,Nat.reduceEqDiff,Nat.reduceAdd]
 obtain ⟨g0,hg0⟩:∃g0,g0=(((G.empty.new (AObj.cells xs.length [xs] 0 false false)).new (AObj.cells ys.length [ys] 0 false false)).new (AObj.cells A.length [A] 0 false false)).new (AObj.cells B.length [B] 0 false false):=⟨_,rfl⟩
 rw[<-hg0]
 have f0:g0.h.get 0=.cells 3 [xs] 0 false false:=by rw[hg0,hxl];simp[sx,H.get_put]
 have f1:g0.h.get 1=.cells 4 [ys] 0 false false:=by rw[hg0,hyl];simp[sx,H.get_put]
 have f2:g0.h.get 2=.cells 9 [A] 0 false false:=by rw[hg0,hAl];simp[sx,H.get_put]
 have f3:g0.h.get 3=.cells 9 [B] 0 false false:=by rw[hg0,hBl];simp[sx]
 have f4:g0.nx=4:=by rw[hg0];simp[sx]
 clear hg0
 have ld0:du (.cells 3 [xs] 0 false false) 0 0 true 3 0=.val (.agg xs):=by
  match xs,hxl with
  | [a,b,c],_=>rfl
 have ld1:du (.cells 4 [ys] 0 false false) 0 0 true 4 0=.val (.agg ys):=by
  match ys,hyl with
  | [a,b,c,d],_=>rfl
 have ld2:du (.cells 9 [A] 0 false false) 0 0 true 9 0=.val (.agg A):=by
  match A,hAl with
  | [a,b,c,d,e,f,g,h,i],_=>rfl
 have ld3:du (.cells 9 [B] 0 false false) 0 0 true 9 0=.val (.agg B):=by
  match B,hBl with
  | [a,b,c,d,e,f,g,h,i],_=>rfl
 simp only[ik]
 refine cW (P:=fun t' df g'=>df=[]/\g'=g0/\St t' [(2,w),(5,.hptr 0 0 0 0),(6,.hptr 1 0 0 0),(8,.hptr 2 0 0 0),(9,.hptr 3 0 0 0)]) ?_ ?_
 ·simp only[sx,sy,SO.run,↓reduceIte,BY,Bool.not_true]
  simp[St,sx]
 rintro t df g1 ⟨rfl,rfl,ht⟩
 obtain ⟨r,er,⟨⟨n,m⟩,ev⟩,⟨hdr,hev⟩,c1,c2,rfl,⟨cn,rfl,n1,n2,rfl,hn1,hn2⟩,⟨cl,rfl,l1,l2,rfl,hl1,hl2⟩⟩:=IC (d:=1) (g:=g1) (by decide) qx qy hw hraw hv
 obtain ⟨b,rfl,-⟩:=cy.1 hn1
 obtain ⟨b2,rfl,-⟩:=cy.1 hn2
 obtain ⟨w1,rfl,hw1⟩:=cK.1 hl1
 obtain ⟨w2,rfl,hw2⟩:=cK.1 hl2
 rw[<-hA] at er
 simp only[List.cons_append,List.nil_append] at er
 have hM:∀h,Agg n NoP 0 h (.agg [.int .i64 n.grain,b]):=fun h=>lR hn1 h
 have hM2:∀h,Agg m NoP 0 h (.agg [.int .i64 m.grain,b2]):=fun h=>lR hn2 h
 refine bu (P:=fun t' df g'=>df=[]/\g'.nx=6/\St t' [(9,.hptr 3 0 0 0),(11,.hptr 4 0 0 0),(12,.hptr 5 0 0 0)]/\g'.h.get 3=.cells 9 [B] 0 false false/\g'.h.get 4=.cells 4 [[.int .i64 n.grain,b,.int .i64 m.grain,b2]] 0 false false/\g'.h.get 5=.cells 2 [[w1,w2]] 0 false false) ?_ ?_
 ·obtain ⟨h2,h5,h6,h8,h9,-⟩:=ht
  simp only[sx,sy,SO.run,↓reduceIte,Nat.reduceEqDiff,Nat.reduceAdd,Nat.reduceLeDiff,h2,h5,h6,h8,f0,f1,f2,ld0,ld1,ld2,er,show ¬g1.nx=g1.nx+1 by omega,show ¬g1.nx+1=g1.nx by omega]
  simp[St,sx,h9,f3,f4]
 clear ht f0 f1 f2 f3 f4 er
 rintro t df g2 ⟨rfl,hn6,⟨h9,h11,h12,-⟩,f3,f4,f5⟩
 have hcard:∀x∈n.nodes,0<x.card:=fun x hx=>by rcases hdr.c x hx with h | h<;>omega
 have idm:∀h,aF h aC (.agg [.int .i64 n.grain,b])=[]:=fun h=>Ka (h:=h) (Rp.tree hn1 (Nat.le_refl _))
 have hn5:1<=n.nodes.length/\n.nodes.length<=5:=hdr.l
 refine cW (P:=fun t' df g'=>df=[]/\∃(z:AV) (f:List Int) (q:Nat),SlR NoP 0 .nil f z/\5<q/\q<g'.nx/\St t' [(11,.hptr 4 0 0 0),(12,.hptr 5 0 0 0),(13,.hptr q 0 0 0)]/\g'.h.get 4=.cells 4 [[.int .i64 n.grain,b,.int .i64 m.grain,b2]] 0 false false/\g'.h.get 5=.cells 2 [[w1,w2]] 0 false false/\g'.h.get q=.cells 2 [[w1,z]] 0 false false) ?_ ?_
 ·have ld4:du (.cells 4 [[.int .i64 n.grain,b,.int .i64 m.grain,b2]] 0 false false) 0 0 true 2 0=.val (.agg [.int .i64 n.grain,b]):=rfl
  have ld5:du (.cells 2 [[w1,w2]] 0 false false) 0 0 false 1 0=.val w1:=rfl
  simp only[sx,sy,sf,SO.run,↓reduceIte,Nat.reduceEqDiff,h9,h11,h12,Lf 2 1 5 (by decide),Lf 2 2 4 (by decide),f3,f4,f5,ld3,ld4,ld5]
  rw[hB]
  refine ba (BM (m:=n) (d:=1) (by decide) hu (hM _) (by omega) hcard) ?_
  rintro z ⟨f,hf,hz⟩
  have hz:SlR NoP 0 .nil f z:=IT.sl (k:=0) hz .nil
  have fw:dz [.nils,.nils] [((0,1),w1),((1,1),z)]=some [w1,z]:=by
   simp[dz,hw1.cell,hz.cell,cL]
   rfl
  simp only[sx,sy,sf,SO.run,↓reduceIte,Nat.reduceEqDiff,Nat.reduceAdd,Nat.reduceLeDiff,fw,jH]
  refine ⟨?_,z,f,g2.nx+1+1+1+1+1+1+1,hz,?_,?_,⟨by simp[sx,h11],by simp[sx,h12],by simp[sx],trivial⟩,?_,?_,?_⟩
  ·simp only[List.reverse_cons,List.reverse_nil,List.nil_append,List.cons_append]
   refine aL [false,false,false,false,false,false,false,true,true] [(0,7),(1,7),(2,7),(3,7),(4,7),(5,7),(6,7)] (by simp[All2,an,ay]) (by decide) ?_
   rintro p hp' x y hx hy
   simp only[List.mem_cons,List.not_mem_nil,or_false] at hp'
   rcases hp' with rfl | rfl | rfl | rfl | rfl | rfl | rfl<;>(simp at hx hy;subst hx;subst hy;refine cq rfl rfl rfl rfl ?_ ?_ ?_<;>simp[an,ay,vC,JN,idm]<;>omega)
  ·simp<;>omega
  ·simp
  ·simp[f4]<;>omega
  ·simp[f5]<;>omega
  ·simp[H.get_put]
 clear h9 h11 h12 f3 f4 f5 hn6
 rintro t df g3 ⟨rfl,z,f,q,hz,hq5,hqn,⟨h11,h12,h13,-⟩,f4,f5,fq⟩
 refine cW (P:=fun t' df g'=>df=[]) ?_ ?_
 ·refine bu (P:=fun t' df g'=>df=[]/\g'=g3/\St t' (L1 5 q (.agg [.int .i64 n.grain,b,.int .i64 m.grain,b2]) 0)) ?_ ?_
  ·simp only[sx,sy,SO.run,↓reduceIte,Nat.reduceAdd,Nat.reduceLeDiff,h11,f4]
   simp[St,L1,sx,h12,h13]
  clear h11 h12 h13
  rintro t df g4 ⟨rfl,rfl,h12,h13,h50,h51,-⟩
  simp only[uI,tN,g9,gH]
  refine pT (m:=2) rfl (by omega) (fun j t df g=>df=[]/\Fr g4 g/\St t [(12,.hptr 5 0 0 0),(13,.hptr q 0 0 0),(50,.agg [.int .i64 n.grain,b,.int .i64 m.grain,b2])])
   ⟨rfl,Fr.refl _,h12,h13,h50,trivial⟩ h51 (by decide) (by rintro j t df g v s (rfl | rfl | rfl)<;>simp[St,sx]) ?_ ?_
  ·clear h12 h13 h50 h51
   rintro j t df g hj ⟨rfl,hfr,h12,h13,h50,-⟩ h51
   have fin':∀t g',St t (L1 5 q (.agg [.int .i64 n.grain,b,.int .i64 m.grain,b2]) j)->Fr g g'->(([]:List ADf)=[]/\Fr g4 g'/\St t [(12,.hptr 5 0 0 0),(13,.hptr q 0 0 0),(50,.agg [.int .i64 n.grain,b,.int .i64 m.grain,b2])])/\tat t 51=.int .i64 (j:Int):=by
    rintro t g' ⟨h12,h13,h50,h51,-⟩ hf
    exact ⟨⟨rfl,hfr.trans hf,h12,h13,h50,trivial⟩,h51⟩
   have q5:g.h.get 5=.cells 2 [[w1,w2]] 0 false false:=by rw[hfr.2 5 (by omega),f5]
   have qq:g.h.get q=.cells 2 [[w1,z]] 0 false false:=by rw[hfr.2 q hqn,fq]
   have n5:5<g.nx:=by have:=hfr.1;omega
   have nq:q<g.nx:=Nat.lt_of_lt_of_le hqn hfr.1
   have:j=0\/j=1:=by omega
   rcases this with rfl | rfl
   ·exact MJ hM hw1 hw2 hw1 hz ⟨h12,h13,h50,h51,trivial⟩ rfl q5 n5 qq nq fin'
   ·exact MJ hM2 hw1 hw2 hw1 hz ⟨h12,h13,h50,h51,trivial⟩ rfl q5 n5 qq nq fin'
  ·rintro t df g ⟨rfl,-⟩
   simp only[iU,if_true]
   exact ⟨trivial,trivial⟩
 rintro t df g rfl
 simp only[gA,sx,SO.run,↓reduceIte]
end
end Hx
end
section
namespace Hx
open Go Go.RowKit Go.ChangeShapes Go.WideShapes
def sH (P:Program):List Field->Nat->Option Nat
 | [],k=>some k
 | f::fs,k=>if f.offset=k then sH P fs (k+P.cellsOf f.type) else none
def sG (P:Program):Nat->TypeId->Bool
 | 0,_=>false
 | n+1,t=>match P.underlying t with
  | some .bool=>true
  | some (.int _)=>true
  | some (.slice e)=>decide (0<P.cellsOf e)&&sG P n e
  | some (.struct fs)=>(sH P fs.toList 0 == some (P.cellsOf t))&&fs.toList.all (fun f=>sG P n f.type)
  | some (.array m e)=>decide (m*P.cellsOf e=P.cellsOf t)&&sG P n e
  | _=>false
def Sh (P:Program):Nat->TypeId->List AV->Prop
 | 0,_,_=>False
 | n+1,t,xs=>match P.underlying t with
  | some .bool=>∃b,xs=[.bool b]
  | some (.int k)=>∃z,xs=[.int k z]/\(Lit.int k z).wf=true
  | some (.slice e)=>xs=[.nils]\/∃rows,xs=[.tsl 0 (P.cellsOf e) rows]/\rows.length<9223372036854775808/\∀row∈rows,Sh P n e row
  | some (.struct fs)=>∃xss,xs=xss.flatten/\All2 (fun (f:Field) ys=>Sh P n f.type ys) fs.toList xss
  | some (.array m e)=>∃xss:List (List AV),xs=xss.flatten/\xss.length=m/\∀ys∈xss,Sh P n e ys
  | _=>False
def CJ (P:Program)(w:World)(n:Nat)(t:TypeId)(xs:List AV)(cs:List Value):Prop :=
 RVs0 w xs cs/\(∀y∈xs,y.one=true/\Closed y)/\Sh P n t xs
theorem RVs0.append {w:World}{xs ys:List AV}{cs ds:List Value}(h:RVs0 w xs cs)(h':RVs0 w ys ds):RVs0 w (xs++ys) (cs++ds):=by
 refine ⟨by rw[List.length_append,List.length_append,h.1,h'.1],fun i x v hx hv=>?_⟩
 rcases Nat.lt_or_ge i xs.length with hi | hi
 ·rw[List.getElem?_append_left hi] at hx
  rw[List.getElem?_append_left (by rw[<-h.1];exact hi)] at hv
  exact h.2 i x v hx hv
 ·rw[List.getElem?_append_right hi] at hx
  rw[List.getElem?_append_right (by rw[<-h.1];exact hi),<-h.1] at hv
  exact h'.2 _ x v hx hv
theorem EK (b o n:Nat):(⟨b,o,none⟩:Addr).add n=adr b (o+n):=by
 unfold Addr.add
 split
 ·rename_i h;subst h;rfl
 ·rfl
variable {H:Type}{enc:TypeId×Value->H}{P:Program}{w:World}
theorem zF:∀{fl:List Field} {k K:Nat},sH P fl k=some K->k<=K
 | [],k,K,h=>by injection h with h;omega
 | f::fl,k,K,h=>by
  unfold sH at h
  split at h
  ·have:=zF h;omega
  ·cases h
theorem IL {n:Nat}{cs:List Value}:∀{fl:List Field} {k K:Nat},sH P fl k=some K ->
  (∀f∈fl,∃xs,CJ P w n f.type xs ((cs.drop f.offset).take (P.cellsOf f.type))) ->
  ∃xss,All2 (fun (f:Field) ys=>Sh P n f.type ys) fl xss/\RVs0 w xss.flatten ((cs.drop k).take (K - k))/\∀y∈xss.flatten,y.one=true/\Closed y
 | [],k,K,h,_=>by
  injection h with h;subst h
  exact ⟨[],trivial,by rw[Nat.sub_self,List.take_zero];exact ⟨rfl,fun i x v hx=>by simp at hx⟩,fun y hy=>by simp at hy⟩
 | f::fl,k,K,h,hg=>by
  unfold sH at h
  split at h
  ·rename_i ho
   subst ho
   obtain ⟨xs,h1,h2,h3⟩:=hg f (by simp)
   obtain ⟨xss,a1,a2,a3⟩:=IL h fun f' hf'=>hg f' (by simp[hf'])
   have hle:=zF h
   refine ⟨xs::xss,⟨h3,a1⟩,?_,fun y hy=>?_⟩
   ·have e:(cs.drop f.offset).take (K - f.offset)=(cs.drop f.offset).take (P.cellsOf f.type)++(cs.drop (f.offset+P.cellsOf f.type)).take (K - (f.offset+P.cellsOf f.type)):=by
     rw[show K - f.offset=P.cellsOf f.type+(K - (f.offset+P.cellsOf f.type)) by omega,List.take_add,List.drop_drop]
    rw[e,List.flatten_cons]
    exact h1.append a2
   ·rw[List.flatten_cons,List.mem_append] at hy
    rcases hy with hy | hy
    ·exact h2 y hy
    ·exact a3 y hy
  ·cases h
theorem EF {n:Nat}{e:TypeId}{cs:List Value}:∀{m k:Nat},
  (∀i,i<m->∃xs,CJ P w n e xs ((cs.drop ((k+i)*P.cellsOf e)).take (P.cellsOf e))) ->
  ∃xss:List (List AV),xss.length=m/\(∀ys∈xss,Sh P n e ys)/\RVs0 w xss.flatten ((cs.drop (k*P.cellsOf e)).take (m*P.cellsOf e))/\∀y∈xss.flatten,y.one=true/\Closed y
 | 0,k,_=>⟨[],rfl,fun y hy=>by simp at hy,by rw[Nat.zero_mul,List.take_zero];exact ⟨rfl,fun i x v hx=>by simp at hx⟩,fun y hy=>by simp at hy⟩
 | m+1,k,hg=>by
  obtain ⟨xs,h1,h2,h3⟩:=hg 0 (by omega)
  rw[Nat.add_zero] at h1
  obtain ⟨xss,a0,a1,a2,a3⟩:=EF (m:=m) (k:=k+1) fun i hi=>by
   have:=hg (i+1) (by omega)
   rwa [show k+(i+1)=k+1+i by omega] at this
  refine ⟨xs::xss,by simp[a0],fun ys hy=>?_,?_,fun y hy=>?_⟩
  ·rcases List.mem_cons.1 hy with rfl | hy
   ·exact h3
   ·exact a1 ys hy
  ·have e:(cs.drop (k*P.cellsOf e)).take ((m+1)*P.cellsOf e)=(cs.drop (k*P.cellsOf e)).take (P.cellsOf e)++(cs.drop ((k+1)*P.cellsOf e)).take (m*P.cellsOf e):=by
    rw[show (m+1)*P.cellsOf e=P.cellsOf e+m*P.cellsOf e by rw[Nat.add_mul];omega,List.take_add,List.drop_drop,Nat.add_mul,Nat.one_mul]
   rw[e,List.flatten_cons]
   exact h1.append a2
  ·rw[List.flatten_cons,List.mem_append] at hy
   rcases hy with hy | hy
   ·exact h2 y hy
   ·exact a3 y hy
theorem Cy:∀(n:Nat) (t:TypeId),sG P n t=true->∀(fuel:Nat) (cs:List Value) (x:DataW H×List MemPlace),DataW.trod enc P w 0 (fun _=>true) true fuel t cs=some x->∃xs,CJ P w n t xs cs:=by
 intro n
 induction n with
 | zero=>intro t h;simp[sG] at h
 | succ n ih =>
  intro t h fuel cs x hx
  unfold sG at h
  split at h
  ·rename_i hu
   obtain ⟨b,rfl,-⟩:=DataW.trod_bool hu hx
   refine ⟨[.bool b],⟨rfl,fun i x v h1 h2=>?_⟩,fun y hy=>?_,?_⟩
   ·cases i with
    | zero=>simp at h1 h2;subst h1;subst h2;exact .bool _ _
    | succ i=>simp at h1
   ·simp at hy;subst hy;exact ⟨rfl,.bool _⟩
   ·unfold Sh;rw[hu];exact ⟨b,rfl⟩
  ·rename_i k hu
   obtain ⟨z,rfl,-,hwf⟩:=DataW.trod_int hu hx
   refine ⟨[.int k z],⟨rfl,fun i x v h1 h2=>?_⟩,fun y hy=>?_,?_⟩
   ·cases i with
    | zero=>simp at h1 h2;subst h1;subst h2;exact .int _ _ _
    | succ i=>simp at h1
   ·simp at hy;subst hy;exact ⟨rfl,.int _ _⟩
   ·unfold Sh;rw[hu];exact ⟨z,rfl,hwf⟩
  ·rename_i e hu
   rw[Bool.and_eq_true,decide_eq_true_eq] at h
   obtain ⟨hpos,hp⟩:=h
   rcases DataW.trod_slice hu hx with ⟨rfl,-⟩ | ⟨a,len,cap,elems,rest,m,-,rfl,-,-,hlc,hcm,hlen,hel,-,-⟩
   ·refine ⟨[.nils],⟨rfl,fun i x v h1 h2=>?_⟩,fun y hy=>?_,?_⟩
    ·cases i with
     | zero=>simp at h1 h2;subst h1;subst h2;exact .nils _
     | succ i=>simp at h1
    ·simp at hy;subst hy;exact ⟨rfl,.nils⟩
    ·unfold Sh;rw[hu];exact .inl rfl
   ·have each:∀i,i<len->∃xs vs,w.cells? 0 (a.add (i*P.cellsOf e)) (P.cellsOf e)=some vs/\CJ P w n e xs vs:=by
     intro i hi
     have:=hel i hi
     rw[List.getElem?_eq_getElem (show i<elems.length by omega),Option.bind_eq_some_iff] at this
     obtain ⟨vs,h1,h2⟩:=this
     obtain ⟨xs,hg⟩:=ih e hp _ _ _ h2
     exact ⟨xs,vs,h1,hg⟩
    let rowf:Nat->List AV:=fun i=>if hi:i<len then Classical.choose (each i hi) else []
    let valf:Nat->List Value:=fun i=>if hi:i<len then Classical.choose (Classical.choose_spec (each i hi)) else []
    have hrow:∀i,i<len->w.cells? 0 (a.add (i*P.cellsOf e)) (P.cellsOf e)=some (valf i)/\CJ P w n e (rowf i) (valf i):=by
     intro i hi
     have:=Classical.choose_spec (Classical.choose_spec (each i hi))
     simpa only[rowf,valf,dif_pos hi] using this
    have hget:∀(i:Nat) (row:List AV),((List.range len).map rowf)[i]?=some row->i<len/\row=rowf i:=by
     intro i row h1
     rw[List.getElem?_map] at h1
     rcases Nat.lt_or_ge i len with hi | hi
     ·rw[List.getElem?_range hi] at h1
      injection h1 with h1
      exact ⟨hi,h1.symm⟩
     ·rw[List.getElem?_eq_none (by simpa using hi)] at h1;cases h1
    refine ⟨[.tsl 0 (P.cellsOf e) ((List.range len).map rowf)],⟨rfl,fun i x v h1 h2=>?_⟩,fun y hy=>?_,?_⟩
    ·cases i with
     | succ i=>simp at h1
     | zero =>
      simp at h1 h2;subst h1;subst h2
      rcases Nat.eq_zero_or_pos len with h0 | h0
      ·subst h0
       exact .tnil 0 0 _ a cap (Nat.le_refl _)
      ·obtain ⟨b,o,spot⟩:=a
       have hc0:=World.cells?_some (hrow 0 h0).1
       have hv0:(valf 0)[0]?=some (valf 0)[0]:=List.getElem?_eq_getElem (by rw[hc0.2.1];exact hpos)
       have h00:=hc0.2.2 0 hpos
       rw[hv0] at h00
       have hspot:spot=none:=by simpa [Addr.add] using World.cell?_spot h00
       subst hspot
       have cellat:∀i j row x,((List.range len).map rowf)[i]?=some row->row[j]?=some x->∃v,(valf i)[j]?=some v/\w.cell? (adr b (o+i*P.cellsOf e+j))=some v/\RV w gm0 av0 0 x v:=by
        intro i j row x hr hxj
        obtain ⟨hi,rfl⟩:=hget i row hr
        obtain ⟨q1,q2⟩:=hrow i hi
        have hj:j<(rowf i).length:=(List.getElem?_eq_some_iff.1 hxj).1
        have hj':j<(valf i).length:=by rw[<-q2.1.1];exact hj
        have hcs:=World.cells?_some q1
        have hcell:=hcs.2.2 j (by rw[<-hcs.2.1];exact hj')
        rw[List.getElem?_eq_getElem hj'] at hcell
        refine ⟨_,List.getElem?_eq_getElem hj',?_,q2.1.2 j x _ hxj (List.getElem?_eq_getElem hj')⟩
        rw[EK,show adr b (o+i*P.cellsOf e)=(⟨b,o+i*P.cellsOf e,none⟩:Addr) from rfl,EK] at hcell
        exact hcell
       have hb:b<w.heap.size:=by
        have:=Ef h00
        simpa [Addr.add] using this
       have hrl:((List.range len).map rowf).length=len:=by simp
       have key:=RV.tsl (w:=w) (γ:=gm0) (A:=av0) 0 0 (P.cellsOf e) ((List.range len).map rowf) b o cap (fun i j=>(valf i)[j]?.getD undef) (Nat.le_refl _) (by rw[hrl];exact hlc) hb (MA b) (fun h=>h)
        (fun i row hr=>by
         obtain ⟨hi,rfl⟩:=hget i row hr
         obtain ⟨q1,q2⟩:=hrow i hi
         rw[q2.1.1,(World.cells?_some q1).2.1])
        (fun i j row x hr hxj=>by
         obtain ⟨hi,rfl⟩:=hget i row hr
         exact ((hrow i hi).2.2.1 x (List.mem_of_getElem? hxj)).1)
        (fun i j row x hr hxj=>by
         obtain ⟨v,v1,v2,v3⟩:=cellat i j row x hr hxj
         rw[v2,v1];rfl)
        (fun i j row x hr hxj=>by
         obtain ⟨v,v1,v2,v3⟩:=cellat i j row x hr hxj
         rw[v1];exact v3)
        (fun row hr x hx=>by
         obtain ⟨i,hi⟩:=List.getElem?_of_mem hr
         obtain ⟨hi2,rfl⟩:=hget i row hi
         exact ((hrow i hi2).2.2.1 x hx).2)
       rw[hrl] at key
       exact key
    ·simp only[List.mem_singleton] at hy;subst hy
     refine ⟨rfl,.tsl _ _ _ fun row hr x hx=>?_⟩
     obtain ⟨i,hi⟩:=List.getElem?_of_mem hr
     obtain ⟨hi2,rfl⟩:=hget i row hi
     exact ((hrow i hi2).2.2.1 x hx).2
    ·unfold Sh;rw[hu]
     refine .inr ⟨_,rfl,?_,fun row hr=>?_⟩
     ·rw[List.length_map,List.length_range]
      have:maxLen<9223372036854775808:=by decide
      omega
     ·obtain ⟨i,hi⟩:=List.getElem?_of_mem hr
      obtain ⟨hi2,rfl⟩:=hget i row hi
      exact (hrow i hi2).2.2.2
  ·rename_i fs hu
   rw[Bool.and_eq_true] at h
   obtain ⟨hc,hp⟩:=h
   have hc:sH P fs.toList 0=some (P.cellsOf t):=eq_of_beq hc
   obtain ⟨ys,m,-,-,hl,hyl,hel⟩:=DataW.trod_struct hu hx
   obtain ⟨xss,a1,a2,a3⟩:=IL (w:=w) (n:=n) (cs:=cs) hc fun f hf=>by
    obtain ⟨i,hi,e⟩:=List.mem_iff_getElem.1 hf
    have hfi:fs[i]?=some f:=by rw[<-Array.getElem?_toList,List.getElem?_eq_getElem hi,e]
    have:=hel i f hfi
    rw[List.getElem?_eq_getElem (show i<ys.length by rw[hyl];simpa using hi)] at this
    exact ih f.type (List.all_eq_true.1 hp f hf) _ _ _ this
   rw[List.drop_zero,Nat.sub_zero,<-hl,List.take_length] at a2
   refine ⟨xss.flatten,a2,a3,?_⟩
   unfold Sh;rw[hu];exact ⟨xss,rfl,a1⟩
  ·rename_i m e hu
   rw[Bool.and_eq_true,decide_eq_true_eq] at h
   obtain ⟨hc,hp⟩:=h
   obtain ⟨ys,q,-,-,hl,hyl,hel⟩:=DataW.trod_array hu hx
   obtain ⟨xss,a0,a1,a2,a3⟩:=EF (w:=w) (n:=n) (e:=e) (cs:=cs) (m:=m) (k:=0) fun i hi=>by
    have:=hel i hi
    rw[List.getElem?_eq_getElem (show i<ys.length by omega)] at this
    rw[Nat.zero_add]
    exact ih e hp _ _ _ this
   rw[Nat.zero_mul,List.drop_zero,hc,<-hl,List.take_length] at a2
   refine ⟨xss.flatten,a2,a3,?_⟩
   unfold Sh;rw[hu];exact ⟨xss,rfl,a0,a1⟩
  ·cases h
theorem Jk {n:Nat}{t:TypeId}{xs:List AV}(hu:P.underlying t=some (.int .i64))(h:Sh P n t xs):∃x:Int,Rp.rp NoP 0 .nil x xs:=by
 cases n with
 | zero=>exact h.elim
 | succ n =>
  unfold Sh at h;rw[hu] at h
  obtain ⟨z,rfl,-⟩:=h
  exact ⟨z,aH.2 rfl⟩
theorem i8 {n:Nat}{t:TypeId}{xs:List AV}(hu:P.underlying t=some (.int .u8))(h:Sh P n t xs):∃x:UInt8,Rp.rp NoP 0 .nil x xs:=by
 cases n with
 | zero=>exact h.elim
 | succ n =>
  unfold Sh at h;rw[hu] at h
  obtain ⟨z,rfl,hw⟩:=h
  simp only[Lit.wf,IntKind.min,IntKind.max,IntKind.signed,IntKind.bits,Bool.and_eq_true] at hw
  refine ⟨UInt8.ofNat z.toNat,dy.2 ?_⟩
  have h1:0<=z:=by simpa using hw.1
  have h2:z<=255:=by simpa using hw.2
  have h3:(UInt8.ofNat z.toNat).toNat=z.toNat:=UInt8.toNat_ofNat_of_lt' (by show z.toNat<256;omega)
  rw[h3,Int.toNat_of_nonneg h1]
theorem wC {α:Type} [Rp α]{n:Nat}{t e:TypeId}{xs:List AV}(hu:P.underlying t=some (.slice e))(hsz:P.cellsOf e=Rp.sz α)(hel:∀ys,Sh P n e ys->∃y:α,Rp.rp NoP 0 .nil y ys)(h:Sh P (n+1) t xs) :
  ∃l:List α,Rp.rp NoP 0 .nil l xs:=by
 unfold Sh at h;rw[hu] at h
 rcases h with rfl | ⟨rows,rfl,hl,hr⟩
 ·exact ⟨[],.nils,rfl,by simp,rfl⟩
 ·have:∀rows:List (List AV),(∀row∈rows,Sh P n e row)->∃l:List α,All2 (Rp.rp NoP 0 .nil) l rows:=by
   intro rows
   induction rows with
   | nil=>intro _;exact ⟨[],trivial⟩
   | cons r rows ih =>
    intro h
    obtain ⟨y,hy⟩:=hel r (h r (by simp))
    obtain ⟨l,hl⟩:=ih fun row hrow=>h row (by simp[hrow])
    exact ⟨y::l,hy,hl⟩
  obtain ⟨l,ha⟩:=this rows hr
  exact ⟨l,_,rfl,by rw[ha.len];exact hl,Nat.le_refl _,.inl hsz,ha⟩
theorem I7 {n m:Nat}{t e:TypeId}{xs:List AV}(hu:P.underlying t=some (.array m e))(h:Sh P (n+1) t xs):∃xss:List (List AV),xs=xss.flatten/\xss.length=m/\∀ys∈xss,Sh P n e ys:=by
 unfold Sh at h;rw[hu] at h;exact h
theorem qO {n:Nat}{t:TypeId}{fs:Array Field}{xs:List AV}(hu:P.underlying t=some (.struct fs))(h:Sh P (n+1) t xs):∃xss,xs=xss.flatten/\All2 (fun (f:Field) ys=>Sh P n f.type ys) fs.toList xss:=by
 unfold Sh at h;rw[hu] at h;exact h
end Hx
end
