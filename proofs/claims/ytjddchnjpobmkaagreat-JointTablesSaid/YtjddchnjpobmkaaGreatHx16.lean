/- A part of the proof: an interpreter over abstract values, shown right against the model, and what the functions of the chapter compute on it. -/
import Derived.KernelRfl
import Derived.Test.YtjddchnjpobmkaaGreatHx15
set_option linter.unusedVariables false
set_option linter.unusedSimpArgs false
set_option linter.unnecessarySimpa false
section
namespace Hx
open Go
noncomputable section
section
variable {d K J:Nat}{L:List Node}{x:Node}{bx:jS}{gr Rw:Int}{t:T}{g:G}{V:Ky->AV}{E:Ky->En}{Q:QT}
theorem bc7 (hS:BS K J L x bx gr Rw t g V E)(fin:uN Q) :
  wp C0 d none (sQ [oM 194 11,o 195 (.bin .geq (.t 194) (qI 0))] (.cond (.t 195) (.feet [0,1,3,7,0,0,32,96,224,0,992,2016,0,8160,16383,32767] [oM 196 10,o 197 (.nilc (.t 196)),oF 198 2 197,oL 199 198,oM 200 11,oM 201 10,o 202 (.nilc (.t 201)),oF 203 2 202,oL 204 203,oM 205 11,oX 206 204 205,oL 207 206,o 208 (.bsl 1 1 [.int .i64 0] [0] [.k (.int .i64 0)]),o 209 (.app 1 8 (.t 207) (.t 208)),oX 210 199 200,oz (.store 1 (.t 210) (.t 209))]) (.skip))) Q t [] g:=by
 obtain ⟨h2,h3,h4,h10,h11,-⟩:=hS.st
 obtain ⟨rows,hB⟩:=hS.bt
 obtain ⟨rws,hW⟩:=hS.bw
 have hK:=hS.hK
 have hl:=hS.hl
 have hnx:=hS.hp.nx
 rcases hS.hR with ⟨rfl,h0⟩ | ⟨r,rfl,hr⟩
 ·simp only[sx,SO.run,↓reduceIte,h11]
  exact ⟨fun h=>by simp at h,fun _=>hS.fin0 fin (by simp[sx,h3]) (by simp[sx,h4])⟩
 ·simp only[sx,SO.run,↓reduceIte,h11]
  refine ⟨fun _=>?_,fun h=>by simp at h⟩
  obtain ⟨y,hy⟩:∃y,x.rows[r]?=some y:=⟨_,List.getElem?_eq_getElem hr⟩
  have hrw:=hW.at_ r y hy
  have hkL:LS L (J+1,2+r):=LS.s hS.hx (by omega)
  have hE2:=hB.nd.rr r y hy
  have hyo:=hS.hp.own hkL hE2
  have hyl:=hB.nd.len.2.2 y (List.mem_of_getElem? hy)
  have hrl:r<rws.length:=by have:=hW.len;omega
  have hryw:jJ (V (J+1,1))=true:=dW hW.own (by omega)
  simp only[sx,sy,sf,SO.run,↓reduceIte,Nat.reduceEqDiff,h10,h11,bu hB.ry,bC hB.ry,hB.own.rows,hB.hlt,hB.row,hW.own.rows,hrl,hrw,Option.isSome_some,Option.getD_some]
  refine (hS.hp.step (g':=_) (by simp<;>omega) (fun i hi hi2=>?_)).app2 (k:=(J+1,2+r)) hkL hE2 (new:=[[.int .i64 0]]) (by simp[sx,sy]) (by simp[aR];omega) fun v1 ga hHa na fra foa lga vca vta=>?_
  ·simp[H.get_put];omega
  simp only[sx,sy] at na fra foa lga
  have e11:ups V (J+1,2+r) v1 (J+1,1)=V (J+1,1):=ac _ _ (by simp<;>omega)
  have hE1:ups E (J+1,2+r) (.sl 1 (y.map ci++[[.int .i64 0]])) (J+1,1)=.sl 1 rws:=by rw[ac _ _ (by simp<;>omega)];exact hW.e1
  have rwa:ah ga.h 1 (V (J+1,1))=some rws:=by rw[<-e11];exact (hHa.own (LS.s hS.hx (by omega)) hE1).rows
  simp only[sx,sy,sf,SO.run,↓reduceIte,Nat.reduceEqDiff,rwa,hrl,Option.isSome_some,Option.getD_some]
  refine (hHa.same (g':=_) (by simp) (by simp<;>omega)).putv (k:=(J+1,1)) (i:=r) (off:=0) (n:=1) (LS.s hS.hx (by omega)) e11 (row':=[v1]) hE1 hrw (by rw[vca];rfl) vta (by rw[vca];rfl) fun gb hHb nb frb fob=>?_
  simp only[sy] at nb frb fob ⊢
  refine ⟨?_,?_⟩
  ·simp only[List.reverse_cons,List.reverse_nil,List.nil_append,List.cons_append]
   refine aI [false,false,false,false,false,false,false,false,false,false,false,false,true,true,false,true] [(0,12),(1,12),(2,12),(3,12),(4,12),(5,12),(6,12),(7,12),(8,12),(9,12),(10,12),(11,12),(0,13),(1,13),(2,13),(3,13),(4,13)] (by simp[All2,ap,ay]) (by decide) ?_
   have ro1:=hB.own.refs_lt
   have ro2:=hW.own.refs_lt
   have lg0:∀i∈ga.lg,i ∉ an (V (0,0)):=fun i hi hm=>by
    obtain ⟨id0,hv0⟩:∃id,eid (V (0,0))=some id/\an (V (0,0))=[id]:=by
     rcases hB.own with ⟨h,-⟩ | ⟨id,ep,lo,-,-,h,-⟩
     ·rw[h] at hm;simp[an] at hm
     ·rw[h];exact ⟨id,rfl,rfl⟩
    rw[hv0.2] at hm
    have hm:=List.mem_singleton.1 hm
    subst hm
    rcases lga i hi with h | h | h
    ·simp at h
    ·exact hS.hp.sep (J+1,2+r) (0,0) hkL LS.z (by simp) i h hv0.1
    ·have:=ro1 i (by rw[hv0.2];simp);omega
   rintro p hp x y hx hy
   simp only[List.mem_cons,List.not_mem_nil,or_false] at hp
   rcases hp with rfl | rfl | rfl | rfl | rfl | rfl | rfl | rfl | rfl | rfl | rfl | rfl | rfl | rfl | rfl | rfl | rfl<;>(simp at hx hy;subst hx;subst hy;refine bT rfl rfl rfl rfl ?_ ?_ ?_<;>simp[ap,ay,jk hB.ry,jk hryw]<;>first | omega | (intro i' hi';have:=ro1 i' hi';omega) | (intro i' hi';have:=ro2 i' hi';omega) | exact lg0 | exact (fun i hi h=>lg0 h hi) | exact (fun i hi h=>lg0 i h hi) | (intro i' hi' hm;exact lg0 _ hi' hm) | exact (fun i hi j hj e=>lg0 i hi (e ▸ hj)) | skip)
  have hnd:=Bf (r:=r) (V':=ups V (J+1,2+r) v1) (E':=ups (ups E (J+1,2+r) (.sl 1 (y.map ci++[[.int .i64 0]]))) (J+1,1) (.sl 1 (rws.set r [v1]))) (y':=y++[0]) (hB.nd.up (show K<=K+1 by omega)) hW.at_ hW.len hr (by rw[ac _ _ (by simp<;>omega),ac _ _ (by simp<;>omega)]) (by rw[ak,ak]) (by rw[ac _ _ (by simp<;>omega),ak];simp[ci]) (fun q hq=>ac _ _ (by simp<;>omega)) (fun q hq=>by rw[ac _ _ (by simp<;>omega),ac _ _ (by simp<;>omega)]) (by simp<;>omega)
  have hrd:=hnd.rd hHb (fun q hq=>LS.s hS.hx (by simpa using hq)) (by omega)
  obtain ⟨nds,hn⟩:=tK (rows:=rows) (J:=J) hHb (fun k hk=>hk) hB.oth.v.e.e (by rw[ac _ _ (by simp<;>omega),ac _ _ (by simp<;>omega),hB.e0];rw[jB,ac _ _ (by simp<;>omega),ac _ _ (by simp<;>omega)];exact congrArg _ (ub hB.row).symm) (ac _ _ (by simp<;>omega)) hrd (by omega) (by omega)
  have g1e:gb.h.get 1=.cells 2 [[.int .i64 gr,V (0,0)]] 0 false false:=by rw[frb 1 (by omega)];(try simp);rw[fra 1 (by omega),if_neg (by omega),hS.f1]
  have g2e:gb.h.get 2=.cells 2 [[.int .i64 0,.nils]] 0 false false:=by rw[frb 2 (by omega)];(try simp);rw[fra 2 (by omega),if_neg (by omega),hS.f2]
  exact fin _ _ gr _ nds (by simp[sx,h3]) (by simp[sx,h4]) (by simpa using g1e) (by simpa using g2e) (hn.heap (by simp))
theorem N1 (hS:BS K J L x bx gr Rw t g V E)(fin:uN Q) :
  wp C0 d none (.ops [oF 312 1 3,oL 313 312,oF 314 0 3,oL 315 314,o 316 (.bsl 1 1 [.int .i64 0] [0] [.t 315]),o 317 (.bsl 1 1 [.nils] [0] [.t 316]),o 318 (.build [.int .i64 0,.nils,.nils] [(0,1),(2,1)] [.k (.int .i64 1),.t 317]),o 319 (.bsl 3 1 [.int .i64 0,.nils,.nils] [0] [.t 318]),o 320 (.app 3 56 (.t 313) (.t 319)),oF 321 1 3,oz (.store 1 (.t 321) (.t 320))]) Q t [] g:=by
 obtain ⟨h2,h3,h4,h10,h11,-⟩:=hS.st
 obtain ⟨rows,hB⟩:=hS.bt
 have hK:=hS.hK
 have hl:=hS.hl
 have hnx:=hS.hp.nx
 have hrl:=hB.oth.len
 simp only[sz,simprocAttr,h3,hS.f1]
 refine (hS.hp.step (g':=_) (by simp<;>omega) (fun i hi hi2=>?_)).app2 (k:=(0,0)) LS.z hB.e0 (new:=[[.int .i64 1,.nils,.hsl (g.nx+1) 0 0 1 none]]) (by simp[sx,sy]) (by simp[aR];omega) fun v1 gb hHb nb frb fob _ vca vta=>?_
 ·simp[H.get_put]
  rw[if_neg (by omega),if_neg (by omega),if_neg (by omega)]
 simp only[sx,sy] at nb frb fob
 have ne:∀i,g.nx<=i->eid (V (0,0))≠some i:=fun i hi e=>by
  rw[bF hB.own] at e
  have:=(hB.own.lt e).2
  omega
 have k1:gb.h.get g.nx=.cells 1 [[.int .i64 gr]] 0 false false:=by
  rw[fob g.nx (by omega) (ne _ (Nat.le_refl _))];simp[H.get_put]<;>omega
 have k2:gb.h.get (g.nx+1)=.cells 1 [[.hsl g.nx 0 0 1 none]] 0 false false:=by
  rw[fob (g.nx+1) (by omega) (ne _ (by omega))];simp[H.get_put]<;>omega
 have hnew:Rp.rp P3 0 gb.h (⟨1,[],[[gr]]⟩:Node) [.int .i64 1,.nils,.hsl (g.nx+1) 0 0 1 none]:=by
  refine bH.2 ⟨_,_,rfl,⟨by show 0<9223372036854775808;decide,rfl⟩,⟨by show 1<9223372036854775808;decide,by show 3<=g.nx+1;omega,[[.hsl g.nx 0 0 1 none]],?_,da.2 ⟨_,rfl,by show 1<9223372036854775808;decide,hnx,[[.int .i64 gr]],?_,aJ.2 rfl,trivial⟩,trivial⟩⟩
  ·show ah gb.h 1 _=_
   simp only[ah,k2];rfl
  ·show ah gb.h 1 _=_
   simp only[ah,k1];rfl
 have ho:=hHb.own LS.z (ak _ _ _)
 rw[ak] at ho
 obtain ⟨nds,-,hn⟩:=CZ ho (by simp<;>omega) fun i row hi=>by
  by_cases e:i<rows.length
  ·rw[List.getElem?_append_left e] at hi
   obtain ⟨z,hz⟩:∃z,L[i]?=some z:=⟨_,List.getElem?_eq_getElem (by omega)⟩
   have hnd:=(hS.bl.nd i z hz).congr (V':=ups V (0,0) v1) (E':=ups E (0,0) (.sl 3 (rows++[[.int .i64 1,.nils,.hsl (g.nx+1) 0 0 1 none]]))) (fun q=>ac _ _ (by simp<;>omega)) (fun q=>ac _ _ (by simp<;>omega))
   have hrd:=hnd.rd hHb (fun q hq=>LS.s hz hq) (by omega)
   have hrow:rows[i]?=some (jB V i z.card):=by
    by_cases e2:i=J
    ·subst e2
     rw[hS.hx] at hz;injection hz with hz;subst hz
     exact hB.row
    ·exact hB.oth.ns i z e2 hz
   rw[hrow] at hi
   injection hi with hi;subst hi
   rw[jB,ac _ _ (by simp<;>omega),ac _ _ (by simp<;>omega)] at hrd
   exact ⟨z,hrd⟩
  ·have hil:=(List.getElem?_eq_some_iff.1 hi).1
   simp at hil
   have e:i=rows.length:=by omega
   subst e
   rw[List.getElem?_concat_length] at hi
   injection hi with hi;subst hi
   exact ⟨_,hnew⟩
 have g1e:gb.h.get 1=.cells 2 [[.int .i64 gr,V (0,0)]] 0 false false:=by rw[frb 1 (by omega),if_neg (by omega),if_neg (by omega),if_neg (by omega),hS.f1]
 have g2e:gb.h.get 2=.cells 2 [[.int .i64 0,.nils]] 0 false false:=by rw[frb 2 (by omega),if_neg (by omega),if_neg (by omega),if_neg (by omega),hS.f2]
 simp only[sz,simprocAttr,h3,g1e,vca,vta]
 exact fin _ _ gr _ nds (by simp[sx,h3]) (by simp[sx,h4]) (by simp[H.get_put]) (by simp[H.get_put,g2e]) (hn.far fun i hi=>by simp[H.get_put,M5 hi])
theorem N2 (hS:BS K J L x bx gr Rw t g V E)(fin:uN Q) :
  wp C0 d none (.ops [oF 102 1 3,oL 103 102,oF 104 1 3,oL 105 104,oN 106 105,o 107 (.bin .sub (.t 106) (qI 1)),o 108 (.slc 3 (.t 103) [] [.t 107]),oF 109 1 3,oz (.store 1 (.t 109) (.t 108))]) Q t [] g:=by
 obtain ⟨h2,h3,h4,h10,h11,-⟩:=hS.st
 obtain ⟨rows,hB⟩:=hS.bt
 have hK:=hS.hK
 have hl:=hS.hl
 have hrl:=hB.oth.len
 have hlt:=hB.hlt
 have len1:=bN hB.own.rows
 have e1:((rows.length:Int) - 1)=((rows.length - 1:Nat):Int):=by omega
 obtain ⟨y,q1,q2,q3⟩:=Gl (α:=Node) hB.own (n:=rows.length - 1) (by intro h;rw[h] at hlt;simp at hlt) (by omega)
 have w9:IntKind.wrap .i64 ((rows.length - 1:Nat):Int)=((rows.length - 1:Nat):Int):=aq (by omega) (by omega)
 have q1:sn 3 (V (0,0)) none (some (.int .i64 ((rows.length - 1:Nat):Int))) g=.val y:=q1
 simp only[sz,simprocAttr,h3,hS.f1,len1,List.head?_nil,List.head?_cons,e1,w9,q1,q2.1,q2.2]
 have hn:=q3 P3 0 _ g.h (fun _ _=>rfl) hS.sl
 exact fin _ _ gr _ _ (by simp[sx,h3]) (by simp[sx,h4]) (by simp[H.get_put]) (by simp[H.get_put,hS.f2]) (hn.far fun i hi=>by simp[H.get_put,M5 hi])
end
end
end Hx
end
section
namespace Hx
open Go
noncomputable section
theorem LS.upd {L:List Node}{J:Nat}{x x':Node}(hx:L[J]?=some x)(hl:x'.rows.length=x.rows.length){k:Ky}(h:LS (L.set J x') k):LS L k:=by
 rcases h with h | ⟨i,q,z,h,hz,hq⟩
 ·exact .inl h
 ·rw[List.getElem?_set] at hz
  by_cases e:J=i
  ·subst e
   rw[if_pos rfl] at hz
   split at hz
   ·injection hz with hz;subst hz
    exact .inr ⟨J,q,x,h,hx,by omega⟩
   ·cases hz
  ·rw[if_neg e] at hz
   exact .inr ⟨i,q,z,h,hz,hq⟩
theorem BLs.upd {K J:Nat}{L:List Node}{V:Ky->AV}{E:Ky->En}{rows:List (List AV)}{x':Node}(hO:Oth K L J V E rows)(e0:E (0,0)=.sl 3 rows)(hrow:rows[J]?=some (jB V J x'.card))(hnd:NdOk K V E J x'):BLs K V E (L.set J x'):=by
 refine ⟨⟨rows,e0,by simp[hO.len],fun i z hz=>?_⟩,fun i z hz=>?_⟩
 ·rw[List.getElem?_set] at hz
  by_cases e:J=i
  ·subst e
   rw[if_pos rfl] at hz
   split at hz
   ·injection hz with hz;subst hz;exact hrow
   ·cases hz
  ·rw[if_neg e] at hz
   exact hO.ns i z (Ne.symm e) hz
 ·rw[List.getElem?_set] at hz
  by_cases e:J=i
  ·subst e
   rw[if_pos rfl] at hz
   split at hz
   ·injection hz with hz;subst hz;exact hnd
   ·cases hz
  ·rw[if_neg e] at hz
   exact hO.nd i z (Ne.symm e) hz
def Node.wr (x:Node)(r:Nat)(y:List Int):Node:=⟨x.card,x.parents,x.rows.set r y⟩
abbrev LBS (W:AV)(J:Nat)(Rw:Int):List (Nat×AV):=[(2,.hptr 0 0 0 0),(3,.hptr 1 0 0 0),(4,.hptr 2 0 0 0),(10,jE 3 W J 0),(11,.int .i64 Rw)]
section
variable {d K J r:Nat}{L:List Node}{x:Node}{bx:jS}{gr Rw:Int}{t t':T}{g gb:G}{V:Ky->AV}{E:Ky->En}{Q:QT}{y y':List Int}
theorem BS.put (hS:BS K J L x bx gr (r:Int) t g V E)(hy:x.rows[r]?=some y)(hHb:Hp gb 3 (LS L) V (ups E (J+1,2+r) (.sl 1 (y'.map ci))))(frb:∀i,i<3->gb.h.get i=g.h.get i)(hyl:y'.length<=K)(st:St t' (LBS (V (0,0)) J (r:Int))) :
  BS K J (L.set J (x.wr r y')) (x.wr r y') bx gr (r:Int) t' gb V (ups E (J+1,2+r) (.sl 1 (y'.map ci))):=by
 obtain ⟨rows,hB⟩:=hS.bt
 obtain ⟨rws,hW⟩:=hS.bw
 have hr:=(List.getElem?_eq_some_iff.1 hy).1
 have hrw:=hW.at_ r y hy
 have hJ:=(List.getElem?_eq_some_iff.1 hS.hx).1
 have hnd:=Bf (r:=r) (V':=V) (E':=ups E (J+1,2+r) (.sl 1 (y'.map ci))) (y':=y') hB.nd hW.at_ hW.len hr (ac _ _ (by simp<;>omega)) (by rw[ac _ _ (by simp<;>omega),hW.e1,ub hrw]) (ak _ _ _) (fun _ _=>rfl) (fun q hq=>ac _ _ (by simp<;>omega)) hyl
 have hl:(x.wr r y').rows.length=x.rows.length:=by simp[Node.wr]
 refine ⟨st,hHb.sub fun k hk=>LS.upd hS.hx hl hk,by rw[frb 0 (by omega)];exact hS.f0,by rw[frb 1 (by omega)];exact hS.f1,by rw[frb 2 (by omega)];exact hS.f2,BLs.upd hB.oth.e (by rw[ac _ _ (by simp<;>omega)];exact hB.e0) hB.row hnd,by rw[List.getElem?_set_self hJ],.inr ⟨r,rfl,by omega⟩,hS.hK,by simpa using hS.hl⟩
theorem BS.mv (hS:BS K J L x bx gr Rw t g V E)(hh:gb.h=g.h)(hn:g.nx<=gb.nx)(st:St t' (LBS (V (0,0)) J Rw)):BS K J L x bx gr Rw t' gb V E :=
 ⟨st,hS.hp.same hh hn,by rw[hh];exact hS.f0,by rw[hh];exact hS.f1,by rw[hh];exact hS.f2,hS.bl,hS.hx,hS.hR,hS.hK,hS.hl⟩
structure BR (x:Node) (J r:Nat) (y:List Int) (g:G) (V:Ky->AV) (E:Ky->En) (rws:List (List AV)):Prop where
 wr:ah g.h 1 (V (J+1,1))=some rws
 rl:r<rws.length
 rw_:rws[r]?=some [V (J+1,2+r)]
 ry:jJ (V (J+1,1))=true
 yr:ah g.h 1 (V (J+1,2+r))=some (y.map ci)
 ye:E (J+1,2+r)=.sl 1 (y.map ci)
 yl:y.length<=K
theorem BS.br (hS:BS K J L x bx gr (r:Int) t g V E)(hy:x.rows[r]?=some y):∃rws,BR (K:=K) x J r y g V E rws:=by
 obtain ⟨rows,hB⟩:=hS.bt
 obtain ⟨rws,hW⟩:=hS.bw
 have hr:=(List.getElem?_eq_some_iff.1 hy).1
 have hrl:r<rws.length:=by have:=hW.len;omega
 have hye:=hB.nd.rr r y hy
 exact ⟨rws,hW.own.rows,hrl,hW.at_ r y hy,dW hW.own (by omega),(hS.hp.own (LS.s hS.hx (by omega)) hye).rows,hye,hB.nd.len.2.2 y (List.mem_of_getElem? hy)⟩
theorem bc8 (hS:BS K J L x bx gr Rw t g V E)(fin:uN Q) :
  wp C0 d none (sQ [oM 213 11,o 214 (.bin .geq (.t 213) (qI 0)),oM 215 214,og 216 215 true (.mv (.t 10)),og 217 215 true (.nilc (.t 216)),og 218 215 true (.fad 2 (.t 217)),og 219 215 true (.load false 1 (.t 218)),og 220 215 true (.mv (.t 11)),og 221 215 true (.ixs 1 (.t 219) (.t 220)),og 222 215 true (.load false 1 (.t 221)),og 223 215 true (.len .slice (.t 222)),og 224 215 true (.bin .gtr (.t 223) (qI 0)),o 225 (.pick (.t 215) (.t 224) (.k (.bool false)))] (.cond (.t 225) (.seq (.feet [0,1,3,7,0,0,32,96,224,0,992,2016,4064,8160,16383,32767] [oM 226 10,o 227 (.nilc (.t 226)),oF 228 2 227,oL 229 228,oM 230 11,oM 231 10,o 232 (.nilc (.t 231)),oF 233 2 232,oL 234 233,oM 235 11,oX 236 234 235,oL 237 236,oN 238 237,o 239 (.mks 1 8 [.int .i64 0] (.t 238) (.t 238)),oX 240 229 230,oz (.store 1 (.t 240) (.t 239))]) (.feet [0,1,3,7,0,31,63,0,128,511,1023] [oM 241 10,o 242 (.nilc (.t 241)),oF 243 2 242,oL 244 243,oM 245 11,oX 246 244 245,oL 247 246,oF 248 0 3,oL 249 248,o 250 (.ixs 1 (.t 247) (qI 0)),oz (.store 1 (.t 250) (.t 249))])) (.skip))) Q t [] g:=by
 obtain ⟨h2,h3,h4,h10,h11,-⟩:=hS.st
 obtain ⟨rows,hB⟩:=hS.bt
 obtain ⟨rws,hW⟩:=hS.bw
 have hK:=hS.hK
 have hl:=hS.hl
 have hnx:=hS.hp.nx
 rcases hS.hR with ⟨rfl,h0⟩ | ⟨r,rfl,hr⟩
 ·simp only[sz,simprocAttr,h11,show decide ((-1:Int) >= 0)=false from rfl]
  exact hS.fin0 fin (by simp[sx,h3]) (by simp[sx,h4])
 ·obtain ⟨y,hy⟩:∃y,x.rows[r]?=some y:=⟨_,List.getElem?_eq_getElem hr⟩
  have hrw:=hW.at_ r y hy
  have hkL:LS L (J+1,2+r):=LS.s hS.hx (by omega)
  have hyo:=hS.hp.own hkL (hB.nd.rr r y hy)
  have hyl:=hB.nd.len.2.2 y (List.mem_of_getElem? hy)
  have ly:=bN hyo.rows
  rw[List.length_map] at ly
  have hrl:r<rws.length:=by have:=hW.len;omega
  have hryw:jJ (V (J+1,1))=true:=dW hW.own (by omega)
  simp only[sz,simprocAttr,h10,h11,show decide ((r:Int) >= 0)=true from by simp,bu hB.ry,bC hB.ry,hB.own.rows,hB.hlt,hB.row,hW.own.rows,hrl,hrw,ly]
  refine aO (fun hb=>?_) (fun hb=>?_)
  ·have hpos:0<y.length:=by simpa using hb
   obtain ⟨A,hA⟩:∃A,A=SC.feet [0,1,3,7,0,31,63,0,128,511,1023] [oM 241 10,o 242 (.nilc (.t 241)),oF 243 2 242,oL 244 243,oM 245 11,oX 246 244 245,oL 247 246,oF 248 0 3,oL 249 248,o 250 (.ixs 1 (.t 247) (qI 0)),oz (.store 1 (.t 250) (.t 249))]:=⟨_,rfl⟩
   rw[<-hA]
   refine dC (P:=fun t' df g'=>df=[]/\∃L' x' V' E',BS K J L' x' bx gr (r:Int) t' g' V' E'/\x'.rows[r]?=some (List.replicate y.length 0)) ?_ ?_
   ·simp only[sz,simprocAttr,sf,h10,h11,bu hB.ry,bC hB.ry,hB.own.rows,hB.hlt,hB.row,hW.own.rows,hrl,hrw,ly]
    refine lj (b:=3) (n:=y.length) (by unfold aR;omega) (by unfold aR;omega) (by first | (simp;done) | (simp;omega)) fun W ga hWo na fra vW lga=>?_
    simp only[sy] at na fra vW lga
    have hHa:=(hS.hp.step (g':=G.mk g.h g.nx []) (Nat.le_refl _) (fun _ _ _=>rfl)).set (g':=ga) (k:=(J+1,2+r)) (v':=W) (e':=.sl 1 ((List.replicate y.length (0:Int)).map ci)) hkL (by rw[List.map_replicate];exact hWo) (by show g.nx<=ga.nx;omega) (fun i _ hi _=>fra i (by have hi:i<g.nx:=hi;omega)) (.inr ⟨_,by rw[bF hWo];exact vW,by show g.nx<=_;omega⟩)
    have e11:ups V (J+1,2+r) W (J+1,1)=V (J+1,1):=ac _ _ (by simp<;>omega)
    have hE1:ups E (J+1,2+r) (.sl 1 ((List.replicate y.length (0:Int)).map ci)) (J+1,1)=.sl 1 rws:=by rw[ac _ _ (by simp<;>omega)];exact hW.e1
    have rwa:ah ga.h 1 (V (J+1,1))=some rws:=by rw[<-e11];exact (hHa.own (LS.s hS.hx (by omega)) hE1).rows
    simp only[sz,simprocAttr,sf,rwa,hrl]
    refine (hHa.same (g':=_) (by simp) (by simp<;>omega)).putv (k:=(J+1,1)) (i:=r) (off:=0) (n:=1) (LS.s hS.hx (by omega)) e11 (row':=[W]) hE1 hrw (by rw[hWo.cell.1];rfl) hWo.cell.2 (by rw[hWo.cell.1];rfl) fun gb hHb nb frb fob=>?_
    simp only[sy] at nb frb fob ⊢
    refine ⟨?_,L.set J (x.wr r (List.replicate y.length 0)),x.wr r (List.replicate y.length 0),_,_,⟨?_,(hHb.same (g':=_) (by simp) (by simp<;>omega)).sub fun k hk=>LS.upd hS.hx (by simp[Node.wr]) hk,?_,?_,?_,BLs.upd hB.oth.v.e.e ?_ ?_ ?_,by rw[List.getElem?_set_self (List.getElem?_eq_some_iff.1 hS.hx).1],.inr ⟨r,rfl,by simpa [Node.wr] using hr⟩,hK,by simpa using hl⟩,by simp[Node.wr,hr]⟩
    ·simp only[List.reverse_cons,List.reverse_nil,List.nil_append,List.cons_append]
     refine aI [false,false,false,false,false,false,false,false,false,false,false,false,false,true,false,true] [(0,13),(1,13),(2,13),(3,13),(4,13)] (by simp[All2,ap,ay]) (by decide) ?_
     have ro1:=hB.own.refs_lt
     rintro p hp x y hx hy
     simp only[List.mem_cons,List.not_mem_nil,or_false] at hp
     rcases hp with rfl | rfl | rfl | rfl | rfl<;>(simp at hx hy;subst hx;subst hy;refine bT rfl rfl rfl rfl ?_ ?_ ?_<;>simp[ap,ay,jk hB.ry,lga]<;>first | omega | (intro h;have:=ro1 _ h;omega) | (intro i' hi' e;have:=ro1 i' hi';omega) | (intro i' hi';have:=ro1 i' hi';omega) | skip)
    ·simp[St,sx,h2,h3,h4,h10,h11,ac]
    ·simp only[bumpG_h];rw[frb 0 (by omega)];(try simp);rw[fra 0 (by omega),hS.f0]
    ·simp only[bumpG_h];rw[frb 1 (by omega),ac _ _ (by simp<;>omega)];(try simp);rw[fra 1 (by omega),hS.f1]
    ·simp only[bumpG_h];rw[frb 2 (by omega)];(try simp);rw[fra 2 (by omega),hS.f2]
    ·rw[ac _ _ (by simp<;>omega),ac _ _ (by simp<;>omega),hB.e0]
    ·rw[jB,ac _ _ (by simp<;>omega),ac _ _ (by simp<;>omega)];exact hB.row
    ·exact Bf (r:=r) (y':=List.replicate y.length 0) hB.nd hW.at_ hW.len hr (by rw[ac _ _ (by simp<;>omega),ac _ _ (by simp<;>omega)]) (by rw[ak,ak]) (by rw[ac _ _ (by simp<;>omega),ak]) (fun q hq=>ac _ _ (by simp<;>omega)) (fun q hq=>by rw[ac _ _ (by simp<;>omega),ac _ _ (by simp<;>omega)]) (by simpa using hyl)
   clear h2 h3 h4 h10 h11 hB hW hkL hyo hS hrw hrl hryw
   rintro t df g2 ⟨rfl,L',x',V',E',hS,hy'⟩
   rw[hA]
   obtain ⟨h2,h3,h4,h10,h11,-⟩:=hS.st
   obtain ⟨rows,hB⟩:=hS.bt
   obtain ⟨rws,hR⟩:=hS.br hy'
   have u1:0<((List.replicate y.length (0:Int)).map ci).length:=by simpa using hpos
   have u2:((List.replicate y.length (0:Int)).map ci)[0]?=some (ci 0):=by simp[hpos]
   have u3:=hR.yr
   have u4:=hR.rl
   simp only[sz,simprocAttr,sf,h3,h10,h11,hS.f1,bu hB.ry,bC hB.ry,hB.own.rows,hB.hlt,hB.row,hR.wr,u4,hR.rw_,CK u3 u1]
   refine (hS.hp.same (g':=_) (by simp) (by simp<;>omega)).put (k:=(J+1,2+r)) (i:=0) (off:=0) (n:=1) (row:=ci 0) (row':=ci gr) (LS.s hS.hx (by have:=(List.getElem?_eq_some_iff.1 hy').1;omega)) hR.ye u2 rfl rfl rfl fun gb hHb nb frb fob=>?_
   simp only[sy] at nb frb fob ⊢
   refine ⟨?_,?_⟩
   ·simp only[List.reverse_cons,List.reverse_nil,List.nil_append,List.cons_append]
    exact aI [false,false,false,false,false,false,false,false,false,false,true] [] (by simp[All2,ap,ay]) (by decide) (by simp)
   rw[<-List.map_set] at hHb
   have hS2:=hS.put (t':=t) hy' (hHb.same (g':=G.mk gb.h gb.nx []) rfl (Nat.le_refl _)) (fun i hi=>by have:=frb i hi;simpa using this) (by simpa using hR.yl) (by simp[St,h2,h3,h4,h10,h11])
   exact fin _ _ gr _ _ (by simp[sx,h3]) (by simp[sx,h4]) (by simpa using hS2.f1) (by simpa using hS2.f2) (hS2.sl.heap (by simp))
  ·simp only[sx]
   exact hS.fin0 fin (by simp[sx,h3]) (by simp[sx,h4])
theorem LH {n:Nat}(hn:n<=1000000)(hy0:y.length=n)(hyr:x.rows[r]?=some y)(hS:BS K J L x bx gr (r:Int) t g V E)(h12:tat t 12=.int .i64 0)(h13:tat t 13=.int .i64 ((n:Int) - 1))
  (fin:∀t g L x E,BS K J L x bx gr (r:Int) t g V E->Q (.exit 5) t [] g):wpL (wp C0 d none dT) Q t [] g:=by
 obtain ⟨FR,hFR⟩:∃FR,FR=SC.feet [0,1,3,7,0,31,63,0,0,256,768,1792,0,7936,16128,0,65280,130816,262143,524287] [oM 279 10,o 280 (.nilc (.t 279)),oF 281 2 280,oL 282 281,oM 283 11,oX 284 282 283,oL 285 284,oM 286 12,oM 287 10,o 288 (.nilc (.t 287)),oF 289 2 288,oL 290 289,oM 291 11,oX 292 290 291,oL 293 292,oM 294 13,oX 295 293 294,oL 296 295,oX 297 285 286,oz (.store 1 (.t 297) (.t 296))]:=⟨_,rfl⟩
 simp only[dT]
 rw[<-hFR]
 refine bA (n / 2) (by omega) (fun j t df g=>df=[]/\∃L x y E,BS K J L x bx gr (r:Int) t g V E/\x.rows[r]?=some y/\y.length=n/\tat t 13=.int .i64 ((n:Int) - 1 - (j:Int)))
  ⟨rfl,L,x,y,E,hS,hyr,hy0,by simp[h13]⟩ h12 (by decide) ?_ ?_ ?_ ?_
 ·rintro j t df g v s (rfl | rfl | rfl) ⟨rfl,L,x,y,E,hS,h⟩<;>exact ⟨rfl,L,x,y,E,⟨by have:=hS.st;simpa [St,sx] using this,hS.hp,hS.f0,hS.f1,hS.f2,hS.bl,hS.hx,hS.hR,hS.hK,hS.hl⟩,by simpa [sx] using h⟩
 ·rintro j t df g hj ⟨rfl,L,x,y,E,hS,hyr,hyn,h13⟩ h12
  simp only[sz,simprocAttr,h12,h13]
  refine ⟨by congr 1;exact decide_eq_decide.2 (by omega),⟨L,x,y,E,⟨by have:=hS.st;simpa [St,sx] using this,hS.hp,hS.f0,hS.f1,hS.f2,hS.bl,hS.hx,hS.hR,hS.hK,hS.hl⟩,hyr,hyn⟩⟩
 ·rintro j t df g hj ⟨rfl,L,x,y,E,hS,hyr,hyn,h13⟩ h12
  have hk:((n:Int) - 1 - (j:Int))=((n - 1 - j:Nat):Int):=by omega
  rw[hk] at h13
  obtain ⟨z,hz⟩:∃z,y[j]?=some z:=⟨_,List.getElem?_eq_getElem (by omega)⟩
  obtain ⟨z',hz'⟩:∃z,y[n - 1 - j]?=some z:=⟨_,List.getElem?_eq_getElem (by omega)⟩
  refine dC (P:=fun t' df g'=>df=[]/\g'=g/\BS K J L x bx gr (r:Int) t' g V E/\St t' [(12,.int .i64 (j:Int)),(13,.int .i64 ((n - 1 - j:Nat):Int)),(14,.int .i64 z)]) ?_ ?_
  ·obtain ⟨h2,h3,h4,h10,h11,-⟩:=hS.st
   obtain ⟨rows,hB⟩:=hS.bt
   obtain ⟨rws,hR⟩:=hS.br hyr
   have u1:j<(y.map ci).length:=by simp;omega
   have u2:(y.map ci)[j]?=some (ci z):=by rw[List.getElem?_map,hz];rfl
   have hryy:=rT hR.yr u1
   simp only[sz,simprocAttr,h10,h11,h12,bu hB.ry,bC hB.ry,hB.own.rows,hB.hlt,hB.row,hR.wr,hR.rl,hR.rw_,hR.yr,u1,u2,ci]
   exact ⟨⟨by simp[St,sx,h2,h3,h4,h10,h11],hS.hp,hS.f0,hS.f1,hS.f2,hS.bl,hS.hx,hS.hR,hS.hK,hS.hl⟩,by simp[St,sx,h12,h13]⟩
  clear hS h12 h13
  rintro t df g1 ⟨rfl,rfl,hS,h12,h13,h14,-⟩
  rw[hFR]
  refine dC (P:=fun t' df g'=>df=[]/\∃L x E,BS K J L x bx gr (r:Int) t' g' V E/\x.rows[r]?=some (y.set j z')/\St t' [(12,.int .i64 (j:Int)),(13,.int .i64 ((n - 1 - j:Nat):Int)),(14,.int .i64 z)]) ?_ ?_
  ·obtain ⟨h2,h3,h4,h10,h11,-⟩:=hS.st
   obtain ⟨rows,hB⟩:=hS.bt
   obtain ⟨rws,hR⟩:=hS.br hyr
   have u1:j<(y.map ci).length:=by simp;omega
   have u2:(y.map ci)[j]?=some (ci z):=by rw[List.getElem?_map,hz];rfl
   have u3:n - 1 - j<(y.map ci).length:=by simp;omega
   have u4:(y.map ci)[n - 1 - j]?=some (ci z'):=by rw[List.getElem?_map,hz'];rfl
   have hryy:=rT hR.yr u1
   have hrl:=hR.rl
   simp only[sz,simprocAttr,sf,h10,h11,h12,h13,bu hB.ry,bC hB.ry,hB.own.rows,hB.hlt,hB.row,hR.wr,hrl,hR.rw_,hR.yr,u1,u3,u4,ci]
   refine (hS.hp.same (g':=_) (by simp) (by simp;omega)).put (k:=(J+1,2+r)) (i:=j) (off:=0) (n:=1) (row:=ci z) (row':=ci z') (LS.s hS.hx (by have:=(List.getElem?_eq_some_iff.1 hyr).1;omega)) hR.ye u2 rfl rfl rfl fun gb hHb nb frb fob=>?_
   simp only[sy] at nb frb fob ⊢
   rw[<-List.map_set] at hHb
   have hS2:=hS.put (t':=t) hyr (hHb.same (g':=G.mk gb.h gb.nx []) rfl (Nat.le_refl _)) (fun i hi=>by have:=frb i hi;simpa using this) (by simpa using hR.yl) (by simp[St,h2,h3,h4,h10,h11])
   refine ⟨?_,_,_,_,hS2.mv (by simp) (by simp) (by simp[St,sx,h2,h3,h4,h10,h11]),by simp[Node.wr,(List.getElem?_eq_some_iff.1 hyr).1],by simp[St,sx,h12,h13,h14]⟩
   simp only[List.reverse_cons,List.reverse_nil,List.nil_append,List.cons_append]
   exact aI [false,false,false,false,false,false,false,false,false,false,false,false,false,false,false,false,false,false,false,true] [] (by simp[All2,ap,ay]) (by decide) (by simp)
  clear hS h12 h13 h14 hyr
  rintro t df g2 ⟨rfl,L,x,E,hS,hyr,h12,h13,h14,-⟩
  refine dC (P:=fun t' df g'=>df=[]/\∃L x E,BS K J L x bx gr (r:Int) t' g' V E/\x.rows[r]?=some ((y.set j z').set (n - 1 - j) z)/\St t' [(12,.int .i64 (j:Int)),(13,.int .i64 ((n - 1 - j:Nat):Int))]) ?_ ?_
  ·obtain ⟨h2,h3,h4,h10,h11,-⟩:=hS.st
   obtain ⟨rows,hB⟩:=hS.bt
   obtain ⟨rws,hR⟩:=hS.br hyr
   have u3:n - 1 - j<((y.set j z').map ci).length:=by simp;omega
   obtain ⟨w,hw⟩:∃w,(y.set j z')[n - 1 - j]?=some w:=⟨_,List.getElem?_eq_getElem (by simp;omega)⟩
   have u4:((y.set j z').map ci)[n - 1 - j]?=some (ci w):=by rw[List.getElem?_map,hw];rfl
   have hryy:=rT hR.yr u3
   have hrl:=hR.rl
   have hyr':=hR.yr
   simp only[sz,simprocAttr,h10,h11,h13,h14,bu hB.ry,bC hB.ry,hB.own.rows,hB.hlt,hB.row,hR.wr,hrl,hR.rw_,hyr',u3]
   refine hS.hp.put (k:=(J+1,2+r)) (i:=n - 1 - j) (off:=0) (n:=1) (row:=ci w) (row':=ci z) (LS.s hS.hx (by have:=(List.getElem?_eq_some_iff.1 hyr).1;omega)) hR.ye u4 rfl rfl rfl fun gb hHb nb frb fob=>?_
   simp only[sx,sy]
   rw[<-List.map_set] at hHb
   have hS2:=hS.put (t':=t) hyr hHb frb (by simpa using hR.yl) (by simp[St,h2,h3,h4,h10,h11])
   exact ⟨_,_,_,⟨by simp[St,sx,h2,h3,h4,h10,h11],hS2.hp,hS2.f0,hS2.f1,hS2.f2,hS2.bl,hS2.hx,hS2.hR,hS2.hK,hS2.hl⟩,by simp[Node.wr,(List.getElem?_eq_some_iff.1 hyr).1],by simp[St,sx,h12,h13]⟩
  clear hS h12 h13 h14 hyr
  rintro t df g3 ⟨rfl,L,x,E,hS,hyr,h12,h13,-⟩
  simp only[sz,simprocAttr,h12,h13]
  refine ⟨L,x,(y.set j z').set (n - 1 - j) z,E,hS.mv rfl (Nat.le_refl _) (by have:=hS.st;simpa [St,sx] using this),hyr,by simp[hyn],?_⟩
  rw[aq (by omega) (by omega)]
  congr 1
  omega
 ·rintro t df g ⟨rfl,L,x,y,E,hS,-⟩
  exact fin t g L x E hS
theorem bc9 (hS:BS K J L x bx gr Rw t g V E)(fin:uN fun e t df g=>Q e t df g) :
  wp C0 d none (sQ [oM 253 11,o 254 (.bin .geq (.t 253) (qI 0))] (.cond (.t 254) (.seq (.quiet [oM 255 10,o 256 (.nilc (.t 255)),oF 257 2 256,oL 258 257,oM 259 11,oX 260 258 259,oL 261 260,oN 262 261,o 263 (.bin .sub (.t 262) (qI 1)),oK 12 0,oM 13 263]) (.blk 5 (.loop dT))) (.skip))) Q t [] g:=by
 obtain ⟨h2,h3,h4,h10,h11,-⟩:=hS.st
 obtain ⟨rows,hB⟩:=hS.bt
 rcases hS.hR with ⟨rfl,h0⟩ | ⟨r,rfl,hr⟩
 ·simp only[sx,SO.run,↓reduceIte,h11]
  exact ⟨fun h=>by simp at h,fun _=>hS.fin0 fin (by simp[sx,h3]) (by simp[sx,h4])⟩
 ·simp only[sx,SO.run,↓reduceIte,h11]
  refine ⟨fun _=>?_,fun h=>by simp at h⟩
  obtain ⟨y,hy⟩:∃y,x.rows[r]?=some y:=⟨_,List.getElem?_eq_getElem hr⟩
  obtain ⟨rws,hR⟩:=hS.br hy
  have ly:=bN hR.yr
  rw[List.length_map] at ly
  have hyl:=hR.yl
  have hK:=hS.hK
  have w9:IntKind.wrap .i64 ((y.length:Int) - 1)=(y.length:Int) - 1:=aq (by omega) (by omega)
  simp only[sx,sy,SO.run,↓reduceIte,Nat.reduceEqDiff,h10,h11,bu hB.ry,bC hB.ry,hB.own.rows,hB.hlt,hB.row,hR.wr,hR.rl,hR.rw_,ly,w9,Option.isSome_some,Option.getD_some]
  refine LH (n:=y.length) (L:=L) (x:=x) (y:=y) (E:=E) (by omega) rfl hy ⟨by simp[St,sx,h2,h3,h4,h10,h11],hS.hp,hS.f0,hS.f1,hS.f2,hS.bl,hS.hx,hS.hR,hS.hK,hS.hl⟩ (by simp[sx]) (by simp[sx]) ?_
  intro t g L x E hS
  obtain ⟨h2,h3,h4,h10,h11,-⟩:=hS.st
  simp only[sx,↓reduceIte]
  exact hS.fin0 fin h3 h4
end
end
end Hx
end
section
namespace Hx
open Go
noncomputable section
def Lh:VS:=fun P k h v=>∃m:Net,True/\Agg m P k h v
theorem Lf:Snb Lh 1:=iZ fun m=>bh _
theorem bk5 {d:Nat}{t:T}{g:G}{gr:Int}{nv:AV}{nds:List Node}(h3:tat t 3=.hptr 1 0 0 0)(h4:tat t 4=.hptr 2 0 0 0)(e1:g.h.get 1=.cells 2 [[.int .i64 gr,nv]] 0 false false)(e2:g.h.get 2=.cells 2 [[.int .i64 0,.nils]] 0 false false)
  (hn:SlR P3 0 g.h nds nv):wp C0 d none dN (fnQ C0 d [SR.cell true 2 4] fun v g'=>∃P,Lh P 0 g'.h v) t [] g:=by
 simp only[sz,simprocAttr,dN,h3,h4,e1,e2]
 refine ⟨P3,⟨gr,nds⟩,trivial,_,rfl,?_⟩
 exact Rp.mono (P:=P3) (h:=g.h) (cW.2 ⟨nv,rfl,hn⟩) (fun i hi=>⟨hi,by rw[aE _ _ _ (by have:3<=i:=hi;omega)]⟩) (Nat.le_refl _)
theorem bk6 {d K J:Nat}{L:List Node}{x:Node}{bx:jS}{gr Rw:Int}{t:T}{g:G}{V:Ky->AV}{E:Ky->En}{Q:QT}(hS:BS K J L x bx gr Rw t g V E)
  (last:uN (kB 4 (kS (wp C0 d none dN Q) Q))):wp C0 d none gg Q t [] g:=by
 have w8:bx.1.toNat<256:=bx.1.toNat_lt
 obtain ⟨h2,h3,h4,h10,h11,-⟩:=hS.st
 have mv:∀{t':T},St t' (LBS (V (0,0)) J Rw)->BS K J L x bx gr Rw t' g V E:=fun h=>hS.mv rfl (Nat.le_refl _) h
 simp only[sz,simprocAttr,gg,h2,hS.f0,u8v,fQ .u8 (show (0:Int)<=(bx.1.toNat:Int) by omega) (show (0:Int)<12 by decide)]
 refine aO (fun hb=>?_) (fun hb=>?_)
 ·exact bc0 (mv (by simp[St,sx,h2,h3,h4,h10,h11])) last
 simp only[sz,simprocAttr]
 refine aO (fun hb=>?_) (fun hb=>?_)
 ·exact bc1 (mv (by simp[St,sx,h2,h3,h4,h10,h11])) last
 simp only[sz,simprocAttr]
 refine aO (fun hb=>?_) (fun hb=>?_)
 ·exact bc2 (mv (by simp[St,sx,h2,h3,h4,h10,h11])) last
 simp only[sz,simprocAttr]
 refine aO (fun hb=>?_) (fun hb=>?_)
 ·exact bc3 (mv (by simp[St,sx,h2,h3,h4,h10,h11])) last
 simp only[sz,simprocAttr]
 refine aO (fun hb=>?_) (fun hb=>?_)
 ·exact bc4 (mv (by simp[St,sx,h2,h3,h4,h10,h11])) last
 simp only[sz,simprocAttr]
 refine aO (fun hb=>?_) (fun hb=>?_)
 ·exact bc5 (mv (by simp[St,sx,h2,h3,h4,h10,h11])) last
 simp only[sz,simprocAttr]
 refine aO (fun hb=>?_) (fun hb=>?_)
 ·exact bc6 (mv (by simp[St,sx,h2,h3,h4,h10,h11])) last
 simp only[sz,simprocAttr]
 refine aO (fun hb=>?_) (fun hb=>?_)
 ·exact bc7 (mv (by simp[St,sx,h2,h3,h4,h10,h11])) last
 simp only[sz,simprocAttr]
 refine aO (fun hb=>?_) (fun hb=>?_)
 ·exact bc8 (mv (by simp[St,sx,h2,h3,h4,h10,h11])) last
 simp only[sz,simprocAttr]
 refine aO (fun hb=>?_) (fun hb=>?_)
 ·exact bc9 (mv (by simp[St,sx,h2,h3,h4,h10,h11])) last
 simp only[sz,simprocAttr]
 refine aO (fun hb=>?_) (fun hb=>?_)
 ·exact N1 (mv (by simp[St,sx,h2,h3,h4,h10,h11])) last
 exact N2 (mv (by simp[St,sx,h2,h3,h4,h10,h11])) last
theorem bk7 {d K:Nat}{bx:jS}{gr:Int}{b:AV}{L:List Node}{t:T}{g:G}{V:Ky->AV}{E:Ky->En}(hK:K<=1000000)(hl:L.length<=K)
  (ht:St t [(2,.hptr 0 0 0 0),(3,.hptr 1 0 0 0),(4,.hptr 2 0 0 0)]) (h5:tat t 5=V (0,0)) (hH:Hp g 3 (LS L) V E) (hB:BBn g [u8v bx.1,u8v bx.2.1,u8v bx.2.2.1,.int .i64 bx.2.2.2] gr b) (hD:BLs K V E L) :
  wp C0 d none fS (fnQ C0 d [SR.cell true 2 4] fun v g'=>∃P,Lh P 0 g'.h v) t [] g:=by
 obtain ⟨h2,h3,h4,-⟩:=ht
 obtain ⟨b0,b1,b2⟩:=hB
 obtain ⟨rows,e1,e2,e3⟩:=hD.ns
 have o1:=hH.own LS.z e1
 have len1:=bN o1.rows
 rw[e2] at len1
 have hnx:=hH.nx
 unfold fS
 refine aW (P:=fun t df g'=>df=[]/\Hp g' 3 (LS L) V E/\St t [(2,.hptr 0 0 0 0),(3,.hptr 1 0 0 0),(4,.hptr 2 0 0 0),(5,V (0,0))]/\g'.h.get 0=.cells 4 [[u8v bx.1,u8v bx.2.1,u8v bx.2.2.1,.int .i64 bx.2.2.2]] 0 false false/\g'.h.get 1=.cells 2 [[.int .i64 gr,V (0,0)]] 0 false false/\g'.h.get 2=.cells 2 [[.int .i64 0,.nils]] 0 false false) ?_ ?_
 ·simp only[sz,simprocAttr,h3,h5,b1,o1.cell.1,o1.cell.2]
  exact ⟨hH.step (by simp) fun i hi _=>by simp[H.get_put];omega,by simp[St,sx,h2,h3,h4,h5],by simp[b0],by simp[b2]⟩
 clear b0 b1 b2 h2 h3 h4 h5 hH o1 hnx
 rintro t df g1 hg
 obtain ⟨rfl,hH,⟨h2,h3,h4,h5,-⟩,f0,f1,f2⟩:=hg
 have o1:=hH.own LS.z e1
 have hsl:=hD.sl hH (by omega) (by omega)
 simp only[sz,simprocAttr,h5,len1]
 refine aO (fun hb=>?_) (fun hb=>?_)
 ·simp only[sz,simprocAttr,h3,h4,f1,f2]
  refine ⟨P3,⟨gr,L⟩,trivial,_,rfl,?_⟩
  exact Rp.mono (P:=P3) (h:=g1.h) (cW.2 ⟨_,rfl,hsl⟩) (fun i hi=>⟨hi,by rw[aE _ _ _ (by have:3<=i:=hi;omega)]⟩) (Nat.le_refl _)
 have hn0:0<L.length:=by have:=of_decide_eq_false hb;omega
 have at8:bx.2.1.toNat<256:=bx.2.1.toNat_lt
 have em:((bx.2.1.toNat:Int) % (L.length:Int))=((bx.2.1.toNat % L.length:Nat):Int):=by omega
 have hJ:bx.2.1.toNat % L.length<L.length:=Nat.mod_lt _ hn0
 obtain ⟨J,hJe⟩:∃J,J=bx.2.1.toNat % L.length:=⟨_,rfl⟩
 rw[<-hJe] at em hJ
 obtain ⟨x,hx⟩:∃x,L[J]?=some x:=⟨_,List.getElem?_eq_getElem hJ⟩
 have hJr:J<rows.length:=by omega
 have hrow:rows[J]?=some [.int .i64 x.card,V (J+1,0),V (J+1,1)]:=e3 J x hx
 have hry:jJ (V (0,0))=true:=dW o1 (by omega)
 obtain ⟨rws,q1,q2,q3⟩:=(hD.nd J x hx).rs
 have hlen:=(hD.nd J x hx).len
 have o2:=hH.own (LS.s hx (by omega)) q1
 have len2:=bN o2.rows
 rw[q2] at len2
 rw[Br,tW]
 refine aW (P:=fun t df g'=>df=[]/\g'=g1/\St t [(2,.hptr 0 0 0 0),(3,.hptr 1 0 0 0),(4,.hptr 2 0 0 0),(10,jE 3 (V (0,0)) J 0)]) ?_ ?_
 ·simp only[sz,simprocAttr,h2,h3,h4,h5,f0,len1,u8v,aq (show -9223372036854775808<=(bx.2.1.toNat:Int) by omega) (show (bx.2.1.toNat:Int)<9223372036854775808 by omega),fQ .i64 (show (0:Int)<=(bx.2.1.toNat:Int) by omega) (show 0<(L.length:Int) by omega),em,o1.rows,hJr,St]
 clear h2 h3 h4 h5
 rintro t df g' ⟨rfl,rfl,h2,h3,h4,h10,-⟩
 have r8:bx.2.2.1.toNat<256:=bx.2.2.1.toNat_lt
 refine aW (P:=fun t df g''=>df=[]/\g''=g'/\St t (LBS (V (0,0)) J (-1))) ?_ ?_
 ·simp only[sz,simprocAttr,h2,h3,h4,h10,St]
 clear h2 h3 h4 h10
 rintro t df g'' ⟨rfl,rfl,h2,h3,h4,h10,h11,-⟩
 refine dC (P:=fun t df g3=>df=[]/\g3=g''/\∃Rw:Int,((Rw = -1/\x.rows.length=0)\/∃r:Nat,Rw=(r:Int)/\r<x.rows.length)/\St t (LBS (V (0,0)) J Rw)) ?_ ?_
 ·simp only[sz,simprocAttr,h10,bu hry,bC hry,o1.rows,hJr,hrow,len2]
  refine aO (fun hb=>?_) (fun hb=>?_)
  ·have hpos:0<x.rows.length:=by simpa using hb
   have em2:((bx.2.2.1.toNat:Int) % (x.rows.length:Int))=((bx.2.2.1.toNat % x.rows.length:Nat):Int):=by omega
   have hm:=Nat.mod_lt bx.2.2.1.toNat hpos
   simp only[sz,simprocAttr,h2,h10,f0,u8v,aq (show -9223372036854775808<=(bx.2.2.1.toNat:Int) by omega) (show (bx.2.2.1.toNat:Int)<9223372036854775808 by omega),bu hry,bC hry,o1.rows,hJr,hrow,len2,fQ .i64 (show (0:Int)<=(bx.2.2.1.toNat:Int) by omega) (show 0<(x.rows.length:Int) by omega),em2]
   exact ⟨_,.inr ⟨_,rfl,hm⟩,by simp[St,sx,h2,h3,h4,h10]⟩
  ·have h0:x.rows.length=0:=by have:=of_decide_eq_false hb;omega
   simp only[sx,sy]
   exact ⟨-1,.inl ⟨rfl,h0⟩,by simp[St,sx,h2,h3,h4,h10,h11]⟩
 clear h2 h3 h4 h10 h11
 rintro t df g3 ⟨rfl,rfl,Rw,hR,ht⟩
 refine bk6 (K:=K) (L:=L) (x:=x) (bx:=bx) (gr:=gr) ⟨ht,hH,f0,f1,f2,hD,hx,hR,hK,hl⟩ ?_
 intro t g gr nv nds h3 h4 e1 e2 s1
 rw[Bt,tW]
 exact bk5 h3 h4 e1 e2 s1
theorem K6 {d K:Nat}{g:G}{x:jS}{m:Net}{v w:AV}(hd:0<d)(hx:Agg x NoP 0 g.h v)(hm:Agg m NoP 0 g.h w)(hK:K<=1000000)(hl:m.nodes.length<=K)
  (hb:∀y∈m.nodes,y.parents.length<=K/\y.rows.length<=K/\∀r∈y.rows,r.length<=K):∃r,ae C0 d N.be [v,w] g=.val r/\Lh NoP 0 .nil r:=by
 have e0:=eQ d hx
 have e1:=eQ d hm
 obtain ⟨cs,rfl,hc⟩:=hx
 have hc:=xF.1 hc
 subst hc
 obtain ⟨cs,rfl,hc⟩:=hm
 obtain ⟨b,rfl,hN⟩:=cW.1 hc
 rw[tP]
 refine aP vH (xs:=[.agg [u8v x.1,u8v x.2.1,u8v x.2.2.1,.int .i64 x.2.2.2],.agg [.int .i64 m.grain,b]]) (by simp only[aB,e0,e1]) (by simp[jH]) Lf (by decide) hd ?_
 clear e0 e1 hc
 have hN:=hN.tree (h':=.nil) (Nat.le_refl _)
 simp only[sz,simprocAttr,jH]
 obtain ⟨g0,hg0⟩:∃g0,g0=((G.empty.new (.cells 4 [[u8v x.1,u8v x.2.1,u8v x.2.2.1,.int .i64 x.2.2.2]] 0 false false)).new (.cells 2 [[.int .i64 m.grain,b]] 0 false false)).new (.cells 2 [[.int .i64 0,.nils]] 0 false false):=⟨_,rfl⟩
 rw[<-hg0]
 have f0:BBn g0 [u8v x.1,u8v x.2.1,u8v x.2.2.1,.int .i64 x.2.2.2] m.grain b:=by rw[hg0];exact ⟨by simp[sx,H.get_put],by simp[sx,H.get_put],by simp[sx]⟩
 have f3:g0.nx=3:=by rw[hg0];simp[sx]
 clear hg0
 have hH:Hp g0 3 (LS []) (fun _=>.nils) (fun k=>.sl 3 []):=⟨fun k _=>.inl ⟨rfl,rfl⟩,fun k l _ _ _ id h=>(by cases h),by omega⟩
 simp only[sz,simprocAttr,mz]
 refine NP (V:=fun _=>.nils) hK hN hl hb (by simp[St,sx]) (by simp[sx]) (by simp[sx]) hH f0 ⟨⟨[],rfl,rfl,fun i y hy=>by simp at hy⟩,fun i y hy=>by simp at hy⟩ ?_
 clear hH
 intro t g V E ht h5 hH hB hD
 simp only[sx,↓reduceIte]
 exact bk7 hK hl ht h5 hH hB hD
theorem Ei {d:Nat}{g:G}{v w:AV}{n:Net}{e:List Int}(hd:0<d)(hm:Agg n NoP 0 g.h v)(he:SlR NoP 0 .nil e w):ae C0 d N.ay [v,w] g=.val (.int .i64 (S.aw n e)):=by
 obtain ⟨b,rows,rfl,e1,hm',hN,r1,r2,r3,r4⟩:=cE d hm
 have e2:=dQ (h:=g.h) d (he.tree (Nat.le_refl 0))
 rw[tg]
 refine eA vT (xs:=[.agg [.int .i64 n.grain,b],w]) (by simp only[aB,e1,e2]) (by simp[jp]) hd ?_
 simp only[sz,simprocAttr,jp,mo]
 rw[Hg (Nat.succ_pos d) (hm' _)]
 rw[S.aw]
 cases hr:S.aC n with
 | false=>simp only[sz,simprocAttr,Bool.false_eq_true]
 | true =>
  simp only[sz,simprocAttr]
  rw[IZ (n:=n) (e:=e) (Nat.succ_pos d) (hm' _) (he.tree (k':=0) (Nat.le_refl 0):SlR NoP 0 _ e w)]
  cases S.ay n e<;>simp only[sz,simprocAttr,Bool.false_eq_true]
def S.bF (no:Int)(n:Net)(e:List Int):Int:=if no=0/\S.aJ n e=0 then 7 else no
theorem Ci {d:Nat}{g:G}{v w:AV}{n:Net}{e:List Int}{no:Int}(hd:0<d)(hm:Agg n NoP 0 g.h v)(he:SlR NoP 0 .nil e w)(h0:no=0->S.aC n=true/\S.ay n e=true):ae C0 d N.aH [.int .i64 no,v,w] g=.val (.int .i64 (S.bF no n e)):=by
 obtain ⟨b,rows,rfl,e1,hm',hN,r1,r2,r3,r4⟩:=cE d hm
 have e2:=dQ (h:=g.h) d (he.tree (Nat.le_refl 0))
 rw[sw]
 refine eA uH (xs:=[.int .i64 no,.agg [.int .i64 n.grain,b],w]) (by simp only[aB,e1,e2,bM]) (by simp[iS]) hd ?_
 simp only[sz,simprocAttr,iS,kJ]
 by_cases hc:no=0
 ·obtain ⟨a1,a2⟩:=h0 hc
  subst hc
  simp only[sz,simprocAttr]
  rw[De (n:=n) (e:=e) (Nat.succ_pos d) (hm' _) (cV.1 a1) (he.tree (k':=0) (Nat.le_refl 0):SlR NoP 0 _ e w) (q8 a2).1]
  by_cases hz:S.aJ n e=0
  ·simp only[sz,simprocAttr,hz,S.bF,and_self]
  ·simp only[sz,simprocAttr,hz,S.bF,and_false]
 ·simp only[sz,simprocAttr,hc,S.bF,false_and]
def NG (raw:List Int):VS:=fun P k h v=>∃x:(Net×Net)×List Int,(Drafted x.1.1/\S.ay x.1.1 x.2=true)/\tA (Agg x.1) (Agg (raw.take 9,x.2)) P k h v
theorem gK {α:Type} [Rp α]{x:α}{P:Nat->Prop}{cs:List AV}(h:Rp.rp NoP 0 .nil x cs)(h':H):Agg x P 0 h' (.agg cs):=⟨_,rfl,Rp.tree h (Nat.le_refl _)⟩
theorem J0 {d:Nat}{g:G}{x:tj}{y:jS}{raw:List Int}{vs:List UInt8}{w:AV}{xs ys:List AV}(hd:0<d)(hx:Rp.rp NoP 0 .nil x xs)(hy:Rp.rp NoP 0 .nil y ys)(hw:SlR NoP 0 .nil raw w)(hraw:Raw w)(hv:vs.length=9) :
  ∃r,ae C0 d N.bF [.agg xs,.agg ys,w,.agg (vs.map u8v)] g=.val r/\NG raw NoP 0 .nil r:=by
 have e1:=eQ d (gK (P:=NoP) hx g.h)
 have e2:=eQ d (gK (P:=NoP) hy g.h)
 have e3:=dQ (h:=g.h) d (hw.tree (Nat.le_refl 0))
 obtain ⟨a1,a2,ex,-⟩:=vD.1 hx
 have hxl:xs.length=3:=by rw[ex];rfl
 have hyl:ys.length=4:=by rw[xF.1 hy];rfl
 clear ex a1 a2
 obtain ⟨A,hA⟩:∃A,A=vs.map u8v:=⟨_,rfl⟩
 have hAl:A.length=9:=by rw[hA,List.length_map,hv]
 have e4:Hx.snap g.h d aF (.agg A)=some (.agg A):=by rw[hA];exact DC _ _ _
 rw[vV,<-hA]
 refine aP xC (xs:=[.agg xs,.agg ys,w,.agg A]) (by simp only[aB,e1,e2,e3,e4]) (by simp[nh]) (iZ fun o=>cQ (m:=2) (bh _) (bh _) (by decide) (by decide)) (by decide) hd ?_
 simp only[sz,simprocAttr,nh]
 obtain ⟨g0,hg0⟩:∃g0,g0=((((G.empty.new (AObj.cells xs.length [xs] 0 false false)).new (AObj.cells ys.length [ys] 0 false false)).new (AObj.cells A.length [A] 0 false false)).new (.cells 4 [[.int .i64 0,.nils,.int .i64 0,.nils]] 0 false false)).new (.cells 2 [[.nils,.nils]] 0 false false):=⟨_,rfl⟩
 rw[<-hg0]
 have f0:g0.h.get 0=.cells 3 [xs] 0 false false:=by rw[hg0,hxl];simp[sx,H.get_put]
 have f1:g0.h.get 1=.cells 4 [ys] 0 false false:=by rw[hg0,hyl];simp[sx,H.get_put]
 have f2:g0.h.get 2=.cells 9 [A] 0 false false:=by rw[hg0,hAl];simp[sx,H.get_put]
 have f3:g0.h.get 3=.cells 4 [[.int .i64 0,.nils,.int .i64 0,.nils]] 0 false false:=by rw[hg0];simp[sx,H.get_put]
 have f4:g0.h.get 4=.cells 2 [[.nils,.nils]] 0 false false:=by rw[hg0];simp[sx]
 have f5:g0.nx=5:=by rw[hg0];simp[sx]
 clear hg0
 have ld0:eC (.cells 3 [xs] 0 false false) 0 0 true 3 0=.val (.agg xs):=by
  match xs,hxl with
  | [a,b,c],_=>rfl
 have ld1:eC (.cells 4 [ys] 0 false false) 0 0 true 4 0=.val (.agg ys):=by
  match ys,hyl with
  | [a,b,c,d],_=>rfl
 have ld2:eC (.cells 9 [A] 0 false false) 0 0 true 9 0=.val (.agg A):=by
  match A,hAl with
  | [a,b,c,d,e,f,g,h,i],_=>rfl
 obtain ⟨rn,en,n,hdr,cn,rfl,hcn⟩:=K0 (g:=g0) (d:=d+1) (Nat.succ_pos d) (gK (P:=NoP) hx g0.h)
 obtain ⟨b,rfl,hNb⟩:=cW.1 hcn
 unfold pS
 refine aW (P:=fun t' df g'=>df=[]/\St t' [(2,w),(5,.hptr 1 0 0 0),(7,.hptr 2 0 0 0),(8,.hptr 3 0 0 0),(9,.hptr 4 0 0 0),(10,.hptr 5 0 0 0)]/\g'.nx=6/\g'.h.get 1=.cells 4 [ys] 0 false false/\g'.h.get 2=.cells 9 [A] 0 false false/\g'.h.get 3=.cells 4 [[.int .i64 0,.nils,.int .i64 0,.nils]] 0 false false/\g'.h.get 4=.cells 2 [[.nils,.nils]] 0 false false/\g'.h.get 5=.cells 2 [[.int .i64 n.grain,b]] 0 false false) ?_ ?_
 ·simp only[sz,simprocAttr,f0,ld0,en]
  simp[St,sx,f1,f2,f3,f4,f5]
 clear f0 f1 f2 f3 f4 f5 en ld0
 rintro t df g1 ⟨rfl,⟨h2,h5,h7,h8,h9,h10,-⟩,n1,f1,f2,f3,f4,f5⟩
 obtain ⟨w',hw1,hw2⟩:=JL hw hraw 9
 have lw:=hw.len
 have hbd:∀y∈n.nodes,y.parents.length<=1000/\y.rows.length<=1000/\∀r∈y.rows,r.length<=1000:=hdr.b
 have hn5:=hdr.l
 have hcard:∀x∈n.nodes,0<x.card:=fun x hx=>by rcases hdr.c x hx with h | h<;>omega
 have mn9:min (raw.length:Int) 9=min (raw.length:Int) ((9:Nat):Int):=rfl
 simp only[sz,simprocAttr,sf,h5,h10,f1,f5,ld1,sW]
 refine ba (K6 (K:=1000) (Nat.succ_pos d) (gK (P:=NoP) hy _) (gK (P:=NoP) hcn _) (by decide) (by omega) hbd) ?_
 rintro r ⟨m,-,cm,rfl,hcm⟩
 obtain ⟨b2,rfl,hNm⟩:=cW.1 hcm
 have hw1':∀g,sn 1 w none (some (.int .i64 (min (raw.length:Int) 9))) g=.val w':=hw1
 simp only[sz,simprocAttr,sf,h2,h7,h10,f2,f5,ld2,lw,List.head?_nil,List.head?_cons,hw1']
 rw[hA]
 refine ba (I8 (m:=n) (Nat.succ_pos d) hv (gK (P:=NoP) hcn _) (by omega) hcard) ?_
 rintro z ⟨ev,hev,hz⟩
 have hz:SlR NoP 0 .nil ev z:=IT.sl (k:=0) hz .nil
 have fw:dK [.nils,.nils] [((0,1),w'),((1,1),z)]=some [w',z]:=by
  simp[dK,hw2.cell,hz.cell,cP]
  rfl
 simp only[sz,simprocAttr,sf,h8,h9,f3,f4,fw,sg]
 refine ⟨?_,?_⟩
 ·simp only[List.reverse_cons,List.reverse_nil,List.nil_append,List.cons_append]
  refine aI [false,false,false,false,false,false,false,false,false,false,false,false,false,false,true,true] [(5,14),(6,14),(7,14),(8,14),(9,14),(13,14)] (by simp[All2,ap,ay]) (by decide) ?_
  rintro p hp' x y hx hy
  simp only[List.mem_cons,List.not_mem_nil,or_false] at hp'
  have rw0:=hw.refs
  rcases hp' with rfl | rfl | rfl | rfl | rfl | rfl<;>(simp at hx hy;subst hx;subst hy;refine bT rfl rfl rfl rfl ?_ ?_ ?_<;>simp[ap,ay,Ce,D8,rw0])
 refine ⟨NoP,((n,m),ev),⟨hdr,hev⟩,_,_,rfl,⟨_,rfl,_,_,rfl,Rp.tree hcn (Nat.le_refl _),Rp.tree hcm (Nat.le_refl _)⟩,⟨_,rfl,[w'],[z],rfl,da.2 ⟨_,rfl,hw2.tree (Nat.le_refl 0)⟩,da.2 ⟨_,rfl,hz.tree (Nat.le_refl 0)⟩⟩⟩
def K3:Nat->Prop:=fun k=>k<=2
def LT1 (w z:AV)(p:Nat):List (Nat×AV):=[(1,w),(2,z),(6,.hptr 1 0 0 0),(8,.hptr 3 0 0 0),(11,.hptr 4 0 0 0),(14,.hptr p 0 0 0)]
structure TbH (l cl:List Int) (p:Nat) (V:Nat->AV) (E:Nat->En) (g:G):Prop where
 hp:Hp g 5 K3 V E
 v0:V 0=.hptr p 0 0 0
 e0:E 0=.bx [V 1,V 2,.nils]
 e1:E 1=.sl 1 (l.map ci)
 e2:E 2=.sl 1 (cl.map ci)
theorem TbH.box {l cl:List Int}{p:Nat}{V:Nat->AV}{E:Nat->En}{g:G}(h:TbH l cl p V E g):g.h.get p=.cells 3 [[V 1,V 2,.nils]] 0 false false/\5<=p/\p<g.nx:=by
 obtain ⟨id,h1,h2,h3,h4⟩:=h.hp.box (k:=0) (by simp[K3]) h.e0
 rw[h.v0] at h3;injection h3 with h3;subst h3
 exact ⟨h4,h1,h2⟩
structure TbB (g0:G) (cs vars:List Int) (w z:AV) (p j:Nat) (t:T) (g:G):Prop where
 st:St t (LT1 w z p)
 h15:tat t 15=.int .i64 (S.ae (S.ac cs (vars.take j)))
 h57:tat t 57=z
 hd:∃V E,TbH (vars.take j) (S.ac cs (vars.take j)) p V E g
 fr:∀i,i<5->g.h.get i=g0.h.get i
theorem KH (c:Int):S.ae [c]=c:=by simp[S.ae]
theorem MU {d:Nat}{n:Net}{vars:List Int}{b fl S_ w z:AV}{p:Nat}{Q:QT}{t:T}{g g0:G}(hr:NR n)(hN:SlR NoP 0 .nil n.nodes b)(hz:SlR NoP 0 .nil vars z)(hpl:S.aA vars n.nodes.length=true)
  (k3:g0.h.get 3=.cells 4 [[.int .i64 n.grain,b,fl,S_]] 0 false false)
  (h0:TbB g0 (S.aa n) vars w z p 0 t g) (h58:tat t 58=.int .i64 (vars.length:Int)) (h59:tat t 59=.int .i64 0)
  (fin:∀t g,TbB g0 (S.aa n) vars w z p vars.length t g->Q (.exit 2) t [] g):wpL (wp C0 d none iH) Q t [] g:=by
 have rz:=fun h=>(hz.tree (h':=h) (Nat.le_refl 0):SlR NoP 0 h vars z).ints
 have hvl:=dV hpl (by omega)
 have hl8:=hr.l2
 have hin:=bI hpl
 obtain ⟨rows,r1,r2,r3,r4⟩:=hN.all
 have r1:∀h',ah h' 3 b=some rows:=r1
 simp only[iH]
 refine bj (m:=vars.length) (by omega) (fun j t df g=>df=[]/\TbB g0 (S.aa n) vars w z p j t g) ⟨rfl,h0⟩ h59 h58 (by decide)
  (by
   rintro j t df g v s (rfl | rfl | rfl) ⟨a1,⟨a2,a3,a4,a5,a6⟩⟩<;>(obtain ⟨b1,b2,b3,b4,b5,b6,-⟩:=a2;exact ⟨a1,by simp[St,LT1,sx,b1,b2,b3,b4,b5,b6],by simp[sx,a3],by simp[sx,a4],a5,a6⟩)) ?_ ?_
 ·rintro j t df g hj ⟨rfl,⟨⟨h1,h2,h6,h8,h11,h14,-⟩,h15,h57,⟨V,E,hT⟩,hfr⟩⟩ h59 h58
  obtain ⟨v,hv,htk,hm⟩:=af hj
  have hvi:=hin v hm
  obtain ⟨vn,hvn⟩:∃vn:Nat,v=(vn:Int):=Int.eq_ofNat_of_zero_le hvi.1
  obtain ⟨x,hx,-,-⟩:=af (l:=n.nodes) (j:=vn) (by omega)
  obtain ⟨row,q1,q2⟩:=r3 vn x hx
  obtain ⟨fa,fb,rfl,-⟩:=bH.1 q2
  have hlt:vn<rows.length:=by omega
  have hryb:=r4 (by omega)
  have u1:j<(vars.map ci).length:=by simpa using hj
  have u2:(vars.map ci)[j]?=some (ci v):=by rw[List.getElem?_map,hv];rfl
  have hry:jJ z=true:=rT (rz .nil) u1
  have hcx:S.ac (S.aa n) (vars.take (j+1))=S.ac (S.aa n) (vars.take j)++[x.card]:=by
   rw[htk,bZ]
   congr 1
   simp[S.ac,hvn,S.aa,hx]
  have hcard:=hr.card x (List.mem_of_getElem? hx)
  have hcb:∀k,∀c∈S.ac (S.aa n) (vars.take k),1<=c/\c<=4:=fun k=>aU hr.cs fun y hy=>by rw[aC];exact hin y (List.mem_of_mem_take hy)
  have hp1:=bo (hcb (j+1))
  have hp2:=bV (a:=(S.ac (S.aa n) (vars.take (j+1))).length) (b:=8) (by rw[cg,List.length_take];omega)
  have hp3:(4:Int) ^ 8=65536:=by decide
  have hprod:S.ae (S.ac (S.aa n) (vars.take j))*x.card=S.ae (S.ac (S.aa n) (vars.take (j+1))):=by rw[hcx,kY,KH]
  have w1:IntKind.wrap .i64 (S.ae (S.ac (S.aa n) (vars.take j))*x.card)=S.ae (S.ac (S.aa n) (vars.take (j+1))):=by rw[hprod,aq (by omega) (by omega)]
  refine aW (P:=fun t' df g'=>df=[]/\g'=g/\St t' ((17,.int .i64 v)::(15,.int .i64 (S.ae (S.ac (S.aa n) (vars.take j))))::(57,z)::(58,.int .i64 (vars.length:Int))::(59,.int .i64 (j:Int))::LT1 w z p)) ?_ ?_
  ·simp only[sz,simprocAttr,h57,h59,rz,u1,u2,ci]
   simp[St,LT1,sx,h1,h2,h6,h8,h11,h14,h15,h57,h58,h59]
  clear h1 h2 h6 h8 h11 h14 h15 h57 h58 h59
  rintro t df g' ⟨rfl,rfl,ht⟩
  refine aW (P:=fun t' df g''=>df=[]/\St t' ((17,.int .i64 v)::(15,.int .i64 (S.ae (S.ac (S.aa n) (vars.take j))))::(57,z)::(58,.int .i64 (vars.length:Int))::(59,.int .i64 (j:Int))::LT1 w z p)/\(∃V E,TbH (vars.take (j+1)) (S.ac (S.aa n) (vars.take j)) p V E g'')/\∀i,i<5->g''.h.get i=g0.h.get i) ?_ ?_
  ·obtain ⟨h17,h15,h57,h58,h59,h1,h2,h6,h8,h11,h14,-⟩:=ht
   obtain ⟨kb,hp5,hpn⟩:=hT.box
   have hnx:=hT.hp.nx
   simp only[sz,simprocAttr,h14,h17,kb]
   refine (hT.hp.step (g':=_) (by simp) (fun i hi hi2=>?_)).app (k:=1) (by simp[K3]) hT.e1 (new:=[ci v]) (by simp[sx,sy,ci]) (by simp[aR];omega) fun v1 g1 hH1 n1 fb1 fo1 _ vc vt=>?_
   ·simp[H.get_put];omega
   simp only[sx,sy] at n1 fb1 fo1
   obtain ⟨id,b1,b2,b3,b4⟩:=hH1.box (k:=0) (by simp[K3]) (by rw[ac _ _ (by simp)];exact hT.e0)
   rw[ac _ _ (by simp),hT.v0] at b3;injection b3 with b3;subst b3
   have b4:g1.h.get p=.cells 3 [[V 1,V 2,.nils]] 0 false false:=b4
   simp only[sz,simprocAttr,h14,b4,vc,vt]
   have hHb:=hH1.putb (k:=0) (by simp[K3]) (row:=[V 1,V 2,.nils]) (row':=[v1,V 2,.nils]) (by rw[ac _ _ (by simp)];exact hT.e0) (by rw[ac _ _ (by simp)];exact hT.v0) rfl
   refine ⟨by simp[St,LT1,sx,h17,h15,h57,h58,h59,h1,h2,h6,h8,h11,h14],⟨_,_,hHb,by rw[ac _ _ (by simp)];exact hT.v0,by rw[ak,ak,ac _ _ (by simp)],?_,by rw[ac _ _ (by simp),ac _ _ (by simp)];exact hT.e2⟩,fun i hi=>?_⟩
   ·rw[ac _ _ (by simp),ak,htk];simp
   ·simp[show ¬i=p by omega]
    rw[fb1 i (by omega),if_neg (by omega),hfr i hi]
  clear ht hT hfr
  rintro t df g1 ⟨rfl,ht,⟨V,E,hT⟩,hfr⟩
  refine dC (P:=fun t' df g''=>df=[]/\St t' ((17,.int .i64 v)::(15,.int .i64 (S.ae (S.ac (S.aa n) (vars.take j))))::(57,z)::(58,.int .i64 (vars.length:Int))::(59,.int .i64 (j:Int))::LT1 w z p)/\(∃V E,TbH (vars.take (j+1)) (S.ac (S.aa n) (vars.take (j+1))) p V E g'')/\∀i,i<5->g''.h.get i=g0.h.get i) ?_ ?_
  ·obtain ⟨h17,h15,h57,h58,h59,h1,h2,h6,h8,h11,h14,-⟩:=ht
   obtain ⟨kb,hp5,hpn⟩:=hT.box
   have hnx:=hT.hp.nx
   have kq:g1.h.get 3=.cells 4 [[.int .i64 n.grain,b,fl,S_]] 0 false false:=by rw[hfr 3 (by omega),k3]
   rw[hvn] at h17
   simp only[sz,simprocAttr,sf,h8,h14,h17,kb,kq,r1,hlt,q1,hryb]
   refine (hT.hp.step (g':=_) (by simp;omega) (fun i hi hi2=>?_)).app2 (k:=2) (by simp[K3]) hT.e2 (new:=[ci x.card]) (by simp[sx,sy,ci]) (by simp[aR,cg];omega) fun v1 g2 hH1 n1 fb1 fo1 lg1 vc vt=>?_
   ·simp[H.get_put];omega
   simp only[sx,sy] at n1 fb1 fo1 lg1
   obtain ⟨id,b1,b2,b3,b4⟩:=hH1.box (k:=0) (by simp[K3]) (by rw[ac _ _ (by simp)];exact hT.e0)
   rw[ac _ _ (by simp),hT.v0] at b3;injection b3 with b3;subst b3
   have b4:g2.h.get p=.cells 3 [[V 1,V 2,.nils]] 0 false false:=b4
   simp only[sz,simprocAttr,sf,h14,b4,vc,vt]
   have hHb:=(hH1.same (g':=aL (ic (aL (ic g2 []) []) []) []) (by simp) (by simp;omega)).putb (k:=0) (by simp[K3]) (row:=[V 1,V 2,.nils]) (row':=[V 1,v1,.nils]) (by rw[ac _ _ (by simp)];exact hT.e0) (by rw[ac _ _ (by simp)];exact hT.v0) rfl
   refine ⟨?_,by rw[<-hvn] at h17;simp[St,LT1,sx,h17,h15,h57,h58,h59,h1,h2,h6,h8,h11,h14],⟨_,_,hHb.same (by simp) (by simp),by rw[ac _ _ (by simp)];exact hT.v0,by rw[ak,ak,ac _ _ (by simp)],by rw[ac _ _ (by simp),ac _ _ (by simp)];exact hT.e1,?_⟩,fun i hi=>?_⟩
   ·simp only[List.reverse_cons,List.reverse_nil,List.nil_append,List.cons_append]
    refine aI [false,false,false,false,false,false,false,false,false,true,true,false,true] [(0,9),(1,9)] (by simp[All2,ap,ay]) (by decide) ?_
    rintro q hp' x y hx hy
    simp only[List.mem_cons,List.not_mem_nil,or_false] at hp'
    rcases hp' with rfl | rfl<;>(simp at hx hy;subst hx;subst hy;refine bT rfl rfl rfl rfl ?_ ?_ ?_<;>simp[ap,ay,an]<;>omega)
   ·rw[ac _ _ (by simp),ak,hcx];simp
   ·simp[show ¬i=p by omega]
    rw[fb1 i (by omega),if_neg (by omega),hfr i hi]
  clear ht hT hfr
  rintro t df g2 ⟨rfl,⟨h17,h15,h57,h58,h59,h1,h2,h6,h8,h11,h14,-⟩,hT,hfr⟩
  have kq:g2.h.get 3=.cells 4 [[.int .i64 n.grain,b,fl,S_]] 0 false false:=by rw[hfr 3 (by omega),k3]
  rw[hvn] at h17
  simp only[sz,simprocAttr,h8,h15,h17,kq,r1,hlt,q1,hryb,w1]
  exact ⟨⟨by simp[St,LT1,sx,h1,h2,h6,h8,h11,h14],by simp[sx],by simp[sx,h57],hT,hfr⟩,h59,h58⟩
 ·rintro t df g ⟨rfl,h⟩
  exact fin t g h
def PC (h:H):Nat->Prop:=fun i=>5<=i/\∃sz rows ep lo fz,h.get i=.cells sz rows ep lo fz
theorem Own.pc {g:G}{v:AV}{l:List Int}(h:Own g 5 v 1 (l.map ci))(hl:l.length<9223372036854775808):SlR (PC g.h) 0 g.h l v:=by
 refine Own.sl (α:=Int) h hl (All2.of_map (fun a=>aJ.2 rfl) _) fun i hi=>⟨(h.lt hi).1,?_⟩
 rcases h with ⟨rfl,-⟩ | ⟨id,ep,lo,-,-,rfl,h3⟩
 ·cases hi
 ·injection hi with hi;subst hi;exact ⟨_,_,_,_,_,h3⟩
def K4:Nat->Prop:=fun k=>k<=3
structure TbW (g0:G) (l cl W:List Int) (p r m:Nat) (V:Nat->AV) (E:Nat->En) (g:G):Prop where
 hp:Hp g 5 K4 V E
 v0:V 0=.hptr p 0 0 0
 e0:E 0=.bx [V 1,V 2,V 3]
 e1:E 1=.sl 1 (l.map ci)
 e2:E 2=.sl 1 (cl.map ci)
 e3:E 3=.sl 1 (W.map ci)
 nw:∀i,eid (V 3)=some i->g0.nx<=i
 fr:∀i,i<g0.nx->i≠p->g.h.get i=g0.h.get i
theorem TbW.box {g0:G}{l cl W:List Int}{p r m:Nat}{V:Nat->AV}{E:Nat->En}{g:G}(h:TbW g0 l cl W p r m V E g):g.h.get p=.cells 3 [[V 1,V 2,V 3]] 0 false false/\5<=p/\p<g.nx:=by
 obtain ⟨id,h1,h2,h3,h4⟩:=h.hp.box (k:=0) (by simp[K4]) h.e0
 rw[h.v0] at h3;injection h3 with h3;subst h3
 exact ⟨h4,h1,h2⟩
theorem Ny {d:Nat}{l cl:List Int}{w z:AV}{p r m sz:Nat}{Q:QT}{t:T}{g0:G}{dl:List ADf}{V:Nat->AV}{E:Nat->En}{L:List (Int×Int)}{W:List Int}(hl:l.length<=1000)(hcl:cl.length<=1000)(hsz:sz<=65536)
  (ht:St t ((18,.hptr r 0 0 0)::(15,.int .i64 (sz:Int))::LT1 w z p)) (hT:TbH l cl p V E g0) (hr:g0.h.get r=.cells 1 [[.hmap m]] 0 false false) (hm:g0.h.get m=.map (mcl ik L)) (hrp:r≠p/\r<g0.nx) (hmp:m≠p/\m<g0.nx)
  (hW:W.length=sz) (hWg:∀i,i<sz->W[i]?.getD 0=mgt L (i:Int)) (h1:g0.h.get 1=.cells 3 [[.nils,.nils,.nils]] 0 false false)
  (fin:∀t g a1 a2 a3,tat t 6=.hptr 1 0 0 0->tat t 7=.int .i64 0->g.h.get 1=.cells 3 [[a1,a2,a3]] 0 false false->SlR (PC g.h) 0 g.h l a1->SlR (PC g.h) 0 g.h cl a2->SlR (PC g.h) 0 g.h W a3->(∀i,i<g0.nx->i≠1->i≠p->g.h.get i=g0.h.get i)->Q .ret t dl g) :
  wp C0 d none iG Q t dl g0:=by
 unfold iG
 obtain ⟨kb,hp5,hpn⟩:=hT.box
 have hnx:=hT.hp.nx
 refine aW (P:=fun t' df g'=>dl=df/\St t' ((18,.hptr r 0 0 0)::LT1 w z p)/\∃V E,TbW g0 l cl (List.replicate sz 0) p r m V E g') ?_ ?_
 ·obtain ⟨h18,h15,h1',h2,h6,h8,h11,h14,-⟩:=ht
  simp only[sx,SO.run,↓reduceIte,h15]
  refine jV (b:=5) (n:=sz) (by unfold aR;omega) (by unfold aR;omega) hnx fun U g1 hU n1 f1 vU=>?_
  have hH:=hT.hp.add (g':=g1) (k:=3) (L':=K4) (v':=U) (e':=.sl 1 ((List.replicate sz (0:Int)).map ci)) (by simp[K3]) (by rw[List.map_replicate];exact hU) (by omega) (fun i _ hi=>f1 i (by omega)) (fun i hi=>by rw[bF hU] at hi;have:=dO vU hi;omega) (fun k hk=>by
   have hk:k<=3:=hk
   by_cases e:k=3
   ·exact .inr e
   ·exact .inl (by show k<=2;omega))
  have kb1:g1.h.get p=.cells 3 [[V 1,V 2,.nils]] 0 false false:=by rw[f1 p (by omega),kb]
  simp only[sx,sy,SO.run,↓reduceIte,Nat.reduceEqDiff,Nat.reduceAdd,Nat.reduceLeDiff,h14,kb1,hU.cell.1,hU.cell.2]
  have hHb:=hH.putb (k:=0) (by simp[K4]) (row:=[V 1,V 2,.nils]) (row':=[V 1,V 2,U]) (by rw[ac _ _ (by simp)];exact hT.e0) (by rw[ac _ _ (by simp)];exact hT.v0) rfl
  refine ⟨by simp[St,LT1,sx,h18,h1',h2,h6,h8,h11,h14],_,_,hHb,by rw[ac _ _ (by simp)];exact hT.v0,by rw[ak,ak,ac _ _ (by simp),ac _ _ (by simp)],by rw[ac _ _ (by simp),ac _ _ (by simp)];exact hT.e1,by rw[ac _ _ (by simp),ac _ _ (by simp)];exact hT.e2,by rw[ac _ _ (by simp),ak],fun i hi=>?_,fun i hi hip=>?_⟩
  ·rw[ak,bF hU] at hi
   have:=dO vU hi;omega
  ·simp[H.get_put,hip];exact f1 i hi
 clear ht
 rintro t df g1 ⟨rfl,⟨h18,h1',h2,h6,h8,h11,h14,-⟩,V,E,hT⟩
 obtain ⟨FR,hFR⟩:∃FR,FR=iN:=⟨_,rfl⟩
 rw[<-hFR]
 refine dC (P:=fun t' df g'=>dl=df/\St t' ((18,.hptr r 0 0 0)::LT1 w z p)/\∃V E,TbW g0 l cl W p r m V E g') ?_ ?_
 ·obtain ⟨kb1,-,-⟩:=hT.box
  have o3:=hT.hp.own (k:=3) (by simp[K4]) hT.e3
  have l3:=bN o3.rows
  rw[List.length_map,List.length_replicate] at l3
  simp only[sx,sy,SO.run,↓reduceIte,h14,kb1,l3]
  simp only[oG]
  refine bj (m:=sz) (by omega) (fun j t df g=>dl=df/\St t ((18,.hptr r 0 0 0)::LT1 w z p)/\∃V E,TbW g0 l cl (W.take j++List.replicate (sz - j) 0) p r m V E g) ⟨rfl,by simp[St,LT1,sx,h18,h1',h2,h6,h8,h11,h14],V,E,by simpa using hT⟩ (by simp[sx]) (by simp[sx]) (by decide)
   (by rintro j t df g v s (rfl | rfl | rfl) ⟨a1,⟨b0,b1,b2,b3,b4,b5,b6,-⟩,a3⟩<;>exact ⟨a1,by simp[St,LT1,sx,b0,b1,b2,b3,b4,b5,b6],a3⟩) ?_ ?_
  ·clear h18 h1' h2 h6 h8 h11 h14 hT kb1 o3 l3
   rintro j t df g hj ⟨rfl,⟨h18,h1',h2,h6,h8,h11,h14,-⟩,V,E,hT⟩ h112 h111
   obtain ⟨kb1,-,-⟩:=hT.box
   have o3:=hT.hp.own (k:=3) (by simp[K4]) hT.e3
   have kr:g.h.get r=.cells 1 [[.hmap m]] 0 false false:=by rw[hT.fr r hrp.2 hrp.1,hr]
   have km:g.h.get m=.map (mcl ik L):=by rw[hT.fr m hmp.2 hmp.1,hm]
   have hlen:(W.take j++List.replicate (sz - j) (0:Int)).length=sz:=by simp;omega
   have u1:j<((W.take j++List.replicate (sz - j) (0:Int)).map ci).length:=by rw[List.length_map,hlen];exact hj
   obtain ⟨y,hy⟩:∃y,(W.take j++List.replicate (sz - j) (0:Int))[j]?=some y:=⟨_,List.getElem?_eq_getElem (by omega)⟩
   have u2:((W.take j++List.replicate (sz - j) (0:Int)).map ci)[j]?=some (ci y):=by rw[List.getElem?_map,hy];rfl
   have hset:(W.take j++List.replicate (sz - j) (0:Int)).set j (mgt L (j:Int))=W.take (j+1)++List.replicate (sz - (j+1)) 0:=by
    have hWj:W[j]?=some (mgt L (j:Int)):=by
     have:=hWg j hj
     rw[List.getElem?_eq_getElem (by omega),Option.getD_some] at this
     rw[List.getElem?_eq_getElem (by omega),this]
    rw[List.set_append_right _ _ (by simp;omega)]
    have e1:j - (W.take j).length=0:=by simp;omega
    have e2:List.replicate (sz - j) (0:Int)=0::List.replicate (sz - (j+1)) 0:=by rw[<-List.replicate_succ];congr 1;omega
    rw[e1,e2,List.set_cons_zero,List.take_add_one,hWj]
    simp
   refine aW (P:=fun t' df g'=>dl=df/\g'=g/\St t' ((20,.int .i64 (j:Int))::(111,.int .i64 (sz:Int))::(112,.int .i64 (j:Int))::(18,.hptr r 0 0 0)::LT1 w z p)) ?_ ?_
   ·simp only[sx,sy,SO.run,↓reduceIte,h112]
    simp[St,LT1,sx,h18,h1',h2,h6,h8,h11,h14,h111,h112]
   clear h18 h1' h2 h6 h8 h11 h14 h111 h112
   rintro t df g' ⟨rfl,rfl,h20,h111,h112,h18,h1',h2,h6,h8,h11,h14,-⟩
   have lk:∀(t:T) (g:G),tat t 118=.hmap m->tat t 119=.int .i64 (j:Int)->g.h.get m=.map (mcl ik L)->(ck C0 (.lookup 123 (.tmp 118) (.tmp 119) false)).run (I C0) d none t g=.val (.int .i64 (mgt L (j:Int))):=fun t g a b c=>F2 a b c
   simp only[sx,sy,SO.run,↓reduceIte,Nat.reduceEqDiff,h14,h20,h18,kb1,kr,km,lk,o3.rows,u1,Option.isSome_some,Option.getD_some]
   refine hT.hp.put (k:=3) (i:=j) (off:=0) (n:=1) (row:=ci y) (row':=ci (mgt L (j:Int))) (by simp[K4]) hT.e3 u2 rfl rfl rfl fun g3 hH n3 f3 fo=>?_
   simp only[sx,sy,↓reduceIte,Nat.reduceEqDiff]
   rw[<-List.map_set,hset] at hH
   have hp5':=hT.nw
   refine ⟨⟨by simp[St,LT1,sx,h18,h1',h2,h6,h8,h11,h14],V,_,hH,hT.v0,by rw[ac _ _ (by simp)];exact hT.e0,by rw[ac _ _ (by simp)];exact hT.e1,by rw[ac _ _ (by simp)];exact hT.e2,ak _ _ _,hT.nw,fun i hi hip=>?_⟩,h112,h111⟩
   rw[fo i fun e=>by have:=hT.nw i e;omega]
   exact hT.fr i hi hip
  ·rintro t df g ⟨rfl,ht,V,E,hT⟩
   rw[List.take_of_length_le (by omega),Nat.sub_self,List.replicate_zero,List.append_nil] at hT
   simp only[gW,if_true]
   exact ⟨trivial,trivial,ht,V,E,hT⟩
 rintro t df g2 ⟨rfl,⟨h18,h1',h2,h6,h8,h11,h14,-⟩,V,E,hT⟩
 rw[hFR]
 obtain ⟨kb2,-,-⟩:=hT.box
 have g1e:g2.h.get 1=.cells 3 [[.nils,.nils,.nils]] 0 false false:=by rw[hT.fr 1 (by omega) (by omega),h1]
 simp only[iN,sx,sy,SO.run,↓reduceIte,Nat.reduceEqDiff,Nat.reduceAdd,Nat.reduceLeDiff,h14,h6,kb2,g1e]
 have far:∀{l:List Int} {k:Nat} (g':G),(∀i,i≠1->g'.h.get i=g2.h.get i)->k<=3->E k=.sl 1 (l.map ci)->l.length<=100000->SlR (PC g'.h) 0 g'.h l (V k):=fun {l k} g' hg hk he hl =>
  ((hT.hp.own (k:=k) hk he).pc (by omega)).wd fun i hi=>by
    obtain ⟨h5,h6⟩:=hi
    have e:=hg i (by omega)
    exact ⟨⟨h5,by rw[e];exact h6⟩,e⟩
 have hf:∀i,i≠1->(g2.put 1 (.cells 3 [[V 1,V 2,V 3]] 0 false false)).h.get i=g2.h.get i:=fun i hi=>by simp[H.get_put,hi]
 refine fin _ _ (V 1) (V 2) (V 3) (by simp[sx,h6]) (by simp[sx]) (by simp[H.get_put]) (far _ hf (by omega) hT.e1 (by omega)) (far _ hf (by omega) hT.e2 (by omega)) (far _ hf (by omega) hT.e3 (by omega)) fun i hi h1 h2=>?_
 simp[H.get_put,h1]
 exact hT.fr i hi h2
def S.pk (n:Net)(e vars:List Int)(i:Int)(w:Nat):Bool:=S.pe n e w&&decide (S.ah (S.ac (S.aa n) vars) (S.ac (S.am (S.aa n) (w:Int)) vars)=i)
def S.aI (n:Net)(e vars:List Int)(j:Nat):List Int:=(List.range (S.ae (S.ac (S.aa n) vars)).toNat).map fun i:Nat=>S.an n (S.pk n e vars (i:Int)) j
def S.aK (n:Net)(e vars:List Int):Int:=if S.aw n e=0 then (if S.aA vars n.nodes.length then 0 else 2) else S.aw n e
def S.bf (n:Net)(e vars:List Int):Factor:=if S.aK n e vars=0 then ⟨vars,S.ac (S.aa n) vars,S.aI n e vars (S.ap n)⟩ else ⟨[],[],[]⟩
theorem xV (P:Nat->Prop)(h:H):Agg (⟨[],[],[]⟩:Factor) P 0 h (.agg [.nils,.nils,.nils]):=⟨_,rfl,dy.2 ⟨.nils,.nils,.nils,rfl,⟨by show 0<9223372036854775808;decide,rfl⟩,⟨by show 0<9223372036854775808;decide,rfl⟩,⟨by show 0<9223372036854775808;decide,rfl⟩⟩⟩
structure TbJ (g0:G) (n:Net) (e vars:List Int) (m j:Nat) (h:H):Prop where
 fr:∀i,i<g0.nx->i≠m->h.get i=g0.h.get i
 hm:∃L:List (Int×Int),h.get m=.map (mcl ik L)/\∀k,mgt L k=S.an n (S.pk n e vars k) j
set_option maxRecDepth 20000 in
theorem GS {d:Nat}{g:G}{v w z:AV}{n:Net}{e vars:List Int}(hd:0<d)(hm:Agg n NoP 0 g.h v)(he:SlR NoP 0 g.h e w)(hvs:SlR NoP 0 g.h vars z) :
  ∃r,ae C0 d N.aZ [v,w,z] g=.val r/\tA (Agg (S.bf n e vars)) (One (S.aK n e vars)) NoP 0 .nil r:=by
 obtain ⟨b,rows,rfl,e1,hm',hN,r1,r2,r3,r4⟩:=cE d hm
 have ew:=dQ d he
 have ez:=dQ d hvs
 have hw:SlR NoP 0 .nil e w:=he.tree (Nat.le_refl 0)
 have hz:SlR NoP 0 .nil vars z:=hvs.tree (Nat.le_refl 0)
 have hbd:o6 [.nils,.nils,.nils] [] []=.val (.agg [.nils,.nils,.nils]):=rfl
 rw[vY]
 refine aP yI (xs:=[.agg [.int .i64 n.grain,b],w,z]) (by simp only[aB,e1,ew,ez]) (by simp[mT]) (cQ (m:=2) (bh _) (aM _) (by decide) (by decide)) (by decide) hd ?_
 simp only[mT,sx,sy,SO.run,↓reduceIte,Nat.reduceEqDiff,Nat.reduceAdd]
 obtain ⟨g0,hg0⟩:∃g0,g0=(G.empty.new (.cells 2 [[.int .i64 n.grain,b]] 0 false false)).new (.cells 3 [[.nils,.nils,.nils]] 0 false false):=⟨_,rfl⟩
 rw[<-hg0]
 have f0:g0.h.get 0=.cells 2 [[.int .i64 n.grain,b]] 0 false false:=by rw[hg0];simp[sx,H.get_put]
 have f1:g0.h.get 1=.cells 3 [[.nils,.nils,.nils]] 0 false false:=by rw[hg0];simp[sx]
 have f3:g0.nx=2:=by rw[hg0];simp[sx]
 clear hg0
 unfold pK
 simp only[sx,sy,SO.run,↓reduceIte,Nat.reduceEqDiff,Nat.reduceAdd,Nat.reduceLeDiff,f0,hw.cell.1,hw.cell.2]
 refine ba (Ir (n:=n) (ls:=[e]) (Nat.succ_pos d) (hm' _) (NL hw (by simp[H.get_put]))) fun v hv=>?_
 obtain ⟨y,cs,rfl,hy,hc,a1,a2,a3,a4,rfl⟩:=yO hv
 rw[wA] at hy ⊢
 by_cases h0:S.aw n e=0
 ·have hyo:=hy h0
  obtain ⟨h1,h2⟩:=i6.1 h0
  have hr:=cV.1 h1
  obtain ⟨el,ege⟩:=q8 h2
  obtain ⟨W1,W2,W3⟩:=hr.wl
  have lz:=hz.len
  obtain ⟨b',b2,b3,ecs,hb',hb2,hb3⟩:=uf.1 hc
  injection ecs with ec1 ecs
  injection ecs with ec2 ecs
  rw[hyo.net] at ec1 hb'
  subst ec1 ec2
  have hN':SlR NoP 0 .nil n.nodes a2:=hb'.tree (Nat.le_refl 0)
  simp only[sx,sy,SO.run,↓reduceIte,Nat.reduceEqDiff,Nat.reduceAdd,Nat.reduceLeDiff,f3,h0,decide_true,Bool.not_true,lz]
  refine Ba (fun t g=>∃g1:G,g=g1/\g1.nx=5/\g1.h.get 1=.cells 3 [[.nils,.nils,.nils]] 0 false false/\g1.h.get 3=.cells 4 [[.int .i64 n.grain,a2,a3,a4]] 0 false false/\g1.h.get 4=.cells 1 [[.int .u64 0]] 0 false false/\St t ((10,.int .i64 (-1))::(32,z)::(33,.int .i64 (vars.length:Int))::(34,.int .i64 0)::LT0 w z)) ?_ ?_
  ·refine ⟨_,rfl,by simp[f3],by simp[H.get_put,f3,f1],by simp[H.get_put,f3],by simp[H.get_put,f3],by simp[St,LT0,sx]⟩
  rintro t g1 ⟨_,rfl,n1,k1,k3,k4,h10,h32,h33,h34,ht0⟩
  refine M1 (n:=n) (gr:=n.grain) (b:=a2) (fl:=a3) (S_:=a4) (g0:=g1) hr.l2 hN' hz (by omega) k3 k1 ⟨ht0,by rw[h10];rfl,h32,⟨fun j p hj=>by omega,fun j p q hj=>by omega⟩,Nat.le_refl _,fun _ _ _=>rfl,by rw[k4];rfl⟩ h33 h34 ?_ ?_
  ·intro t g hpl h6 h7 kg
   have hE:S.aK n e vars=2:=by rw[S.aK,if_pos h0,hpl];rfl
   have hj:S.bf n e vars=⟨[],[],[]⟩:=by rw[S.bf,hE,if_neg (by decide)]
   simp only[sx,sy,h6,h7,kg]
   rw[hE,hj]
   exact ⟨fun _=>True,_,_,rfl,xV _ _,aJ.2 rfl⟩
  clear ht0 h10 h32 h33 h34
  rintro t g2 hpl ⟨⟨h1,h2',h3,h6,h7,h8,h11,-⟩,-,-,-,hnx2,hfr2,hk4⟩
  rw[List.take_length] at hk4
  have hE:S.aK n e vars=0:=by rw[S.aK,if_pos h0,hpl];rfl
  have hj:S.bf n e vars=⟨vars,S.ac (S.aa n) vars,S.aI n e vars (S.ap n)⟩:=by rw[S.bf,hE,if_pos rfl]
  have hbits:=ES hpl (by have:=hr.l2;omega)
  have hvl:=dV hpl (by omega)
  have hl8:=hr.l2
  have hin:=bI hpl
  have hcb:∀c∈S.ac (S.aa n) vars,1<=c/\c<=4:=aU hr.cs fun y hy=>by rw[aC];exact hin y hy
  have hp1:=bo hcb
  have hp2:=bV (a:=(S.ac (S.aa n) vars).length) (b:=8) (by rw[cg];omega)
  have hp3:(4:Int) ^ 8=65536:=by decide
  obtain ⟨sz,hsz⟩:=Int.eq_ofNat_of_zero_le (show 0<=S.ae (S.ac (S.aa n) vars) by omega)
  simp only[n_,sx,sy,SO.run,↓reduceIte,Nat.reduceEqDiff,Nat.reduceAdd,Nat.reduceLeDiff,h2',lz]
  obtain ⟨p,hp⟩:∃p,p=g2.nx:=⟨_,rfl⟩
  refine Ba (fun t g=>∃g3:G,g=g3/\TbB g2 (S.aa n) vars w z p 0 t g3/\tat t 58=.int .i64 (vars.length:Int)/\tat t 59=.int .i64 0) ?_ ?_
  ·have hH:Hp ((g2.new (.cells 3 [[.nils,.nils,.nils]] 0 false false)).put g2.nx (.cells 3 [[.nils,.nils,.nils]] 0 false false)) 5 K3 (fun k=>if k=0 then .hptr p 0 0 0 else .nils) (fun k=>if k=0 then .bx [.nils,.nils,.nils] else .sl 1 []):=by
    refine ⟨fun k hk=>?_,fun k l hk hl hne id h h'=>?_,by simp;omega⟩
    ·by_cases e:k=0
     ·simp only[if_pos e]
      exact ⟨p,by omega,by simp;omega,rfl,by rw[hp];simp[H.get_put]⟩
     ·simp only[if_neg e];exact .inl ⟨rfl,rfl⟩
    ·by_cases e:k=0
     ·by_cases e':l=0
      ·omega
      ·simp only[if_neg e'] at h';cases h'
     ·simp only[if_neg e] at h;cases h
   refine ⟨_,rfl,⟨by simp[St,LT1,sx,h1,h2',h6,h8,h11,hp],by simp[sx,S.ac,S.ae],by simp[sx],⟨_,_,hH,rfl,rfl,rfl,rfl⟩,fun i hi=>by simp[H.get_put,show ¬i=g2.nx by omega]⟩,by simp[sx],by simp[sx]⟩
  clear h1 h2' h3 h6 h7 h8 h11
  rintro t g3 ⟨_,rfl,hB,h58,h59⟩
  have k3':g2.h.get 3=.cells 4 [[.int .i64 n.grain,a2,a3,a4]] 0 false false:=by rw[hfr2 3 (by omega) (by omega),k3]
  have k1':g2.h.get 1=.cells 3 [[.nils,.nils,.nils]] 0 false false:=by rw[hfr2 1 (by omega) (by omega),k1]
  refine MU hr hN' hz hpl k3' hB h58 h59 ?_
  clear hB h58 h59
  rintro t g4 ⟨⟨h1,h2',h6,h8,h11,h14,-⟩,h15,-,⟨V,E,hT⟩,hfr4⟩
  rw[List.take_length] at h15 hT
  obtain ⟨kb,hp5,hpn⟩:=hT.box
  have q3:g4.h.get 3=.cells 4 [[.int .i64 n.grain,a2,a3,a4]] 0 false false:=by rw[hfr4 3 (by omega),k3']
  have q1:g4.h.get 1=.cells 3 [[.nils,.nils,.nils]] 0 false false:=by rw[hfr4 1 (by omega),k1']
  have q4:g4.h.get 4=.cells 1 [[.int .u64 (S.aq vars:Int)]] 0 false false:=by rw[hfr4 4 (by omega),hk4]
  have hrm:∀(d:Nat) (rd:Option Nat) (t:T) (g:G),(ck C0 (.makeMap 123 none)).run (I C0) d rd t g=.upd (.hmap g.nx) (g.new (.map [])):=fun d rd t g=>IJ d rd t g
  have hst:∀(g:G) (i m:Nat),nJ (.cells 1 [[.nilm]] 0 false false) g i 0 0 1 0 (.hmap m)=.upd .undef (g.put i (.cells 1 [[.hmap m]] 0 false false)):=fun g i m=>rfl
  simp only[nV,sx,sy,SO.run,↓reduceIte,Nat.reduceEqDiff,Nat.reduceAdd,Nat.reduceLeDiff,h8,h1,hrm,hst,q3,show ¬3=g4.nx by omega,show ¬3=g4.nx+1 by omega]
  refine ba (Q:=fun r=>∃cs z,r=.clo N.aa [] [.tptr 0 4 [cs] 0 0,.tptr 0 1 [[z]] 0 0]/\Rp.rp NoP 0 .nil y cs/\SlR NoP 0 .nil e z) ?_ ?_
  ·obtain ⟨cs',z',ez,h1,h2⟩:=wo (d:=d+1) (y:=y) (e:=e) (v:=.agg [.int .i64 n.grain,a2,a3,a4]) (w:=w) (Nat.succ_pos d) ⟨_,rfl,Rp.tree hc (Nat.le_refl 0)⟩ (hw.tree (Nat.le_refl 0))
   exact ⟨_,ez,cs',z',rfl,h1,h2⟩
  rintro _ ⟨cs',z',rfl,hcs',hz'⟩
  simp only[sx]
  refine Ba (fun t g=>∃g5:G,g=g5/\g5.nx=g4.nx+2/\g5.h.get g4.nx=.map []/\g5.h.get (g4.nx+1)=.cells 1 [[.hmap g4.nx]] 0 false false/\(∀i,i<g4.nx->g5.h.get i=g4.h.get i)/\St t ((94,.clo N.aa [] [.tptr 0 4 [cs'] 0 0,.tptr 0 1 [[z']] 0 0])::(18,.hptr (g4.nx+1) 0 0 0)::(15,.int .i64 (sz:Int))::LT1 w z p)) ?_ ?_
  ·refine ⟨_,rfl,by simp,by simp[H.get_put],by simp[H.get_put],fun i hi=>by simp[H.get_put,show ¬i=g4.nx by omega,show ¬i=g4.nx+1 by omega],by simp[St,LT1,sx,h1,h2',h6,h8,h11,h14,h15,hsz]⟩
  clear h1 h2' h6 h8 h11 h14 h15
  rintro t g5 ⟨_,rfl,n5,m0,m1,f5,h94,ht⟩
  obtain ⟨h18,h15,h1,h2',h6,h8,h11,h14,-⟩:=ht
  refine Ak (n:=n) (y:=y) (e:=e) (cs:=cs') (w:=z') (Nat.succ_pos d) hr hyo hcs' hz' (by omega) h94 (by decide)
   (fun j h=>TbJ g5 n e vars g4.nx j h) (fun _=>False) (fun j h h' hh hg=>⟨fun i h1 h2=>by rw[hh i h1,hg.fr i h1 h2],by obtain ⟨L,l1,l2⟩:=hg.hm;exact ⟨L,by rw[hh _ (by omega),l1],l2⟩⟩) (fun _ _ _ h=>h) ⟨fun _ _ _=>rfl,[],m0,fun k=>rfl⟩ ?_ ?_ ?_ (fun _ h=>h.elim)
  ·intro j h hj hmt hg
   have hp:∀k,S.pk n e vars k j=false:=fun k=>by rw[S.pk,S.pe,<-GI ege,hmt];rfl
   obtain ⟨L,l1,l2⟩:=hg.hm
   exact ⟨hg.fr,L,l1,fun k=>by rw[S.an,hp];simp[l2]⟩
  ·intro j u g6 hj hmt hg hn hu
   obtain ⟨L,l1,l2⟩:=hg.hm
   have hpe:S.pe n e j=true:=by rw[S.pe,<-GI ege,hmt]
   have hinC:=lB (fun c hc=>(hr.cs c hc).1) (j:Int)
   simp only[oh,sx,sy,SO.run,↓reduceIte,Nat.reduceEqDiff,Nat.reduceAdd,Nat.reduceLeDiff]
   refine ⟨AT _ _ _,?_⟩
   intro g7 n7 f7
   have j12:g7.h.get g6.nx=.cells 3 [[.int .i64 (j:Int),.int .i64 (S.wt n j),u]] 0 false false:=by rw[f7 _ (by omega),if_pos rfl];rfl
   have jo:∀i,i<g5.nx->g7.h.get i=g6.h.get i:=fun i hi=>by rw[f7 i (by omega),if_neg (by omega),if_neg (by omega)]
   have j18:g7.h.get (g4.nx+1)=.cells 1 [[.hmap g4.nx]] 0 false false:=by rw[jo _ (by omega),hg.fr _ (by omega) (by omega),m1]
   have jm:g7.h.get g4.nx=.map (mcl ik L):=by rw[jo _ (by omega),l1]
   have j3:g7.h.get 3=.cells 4 [[.int .i64 n.grain,a2,a3,a4]] 0 false false:=by rw[jo 3 (by omega),hg.fr 3 (by omega) (by omega),f5 3 (by omega),q3]
   have j4:g7.h.get 4=.cells 1 [[.int .u64 (S.aq vars:Int)]] 0 false false:=by rw[jo 4 (by omega),hg.fr 4 (by omega) (by omega),f5 4 (by omega),q4]
   have hu3:SlR (fun _=>True) 0 g7.h (S.am (S.aa n) (j:Int)) u:=hu.wd fun i hi=>⟨trivial,by rw[f7 i (by omega),if_neg (by omega),if_neg (by omega)]⟩
   obtain ⟨K,hK⟩:∃K,K=S.ah (S.ac (S.aa n) vars) (S.ac (S.am (S.aa n) (j:Int)) vars):=⟨_,rfl⟩
   have kn:∀g:G,g.h=g7.h->ae C0 (d+1) N.aS [.agg [.int .i64 n.grain,a2,a3,a4],u,.int .u64 (S.aq vars:Int)] g=.val (.int .i64 K):=fun g hgh=>by
    have:=GU (d:=d+1) (g:=g) (v:=.agg [.int .i64 n.grain,a2,a3,a4]) (w:=u) (s:=S.aq vars) (Nat.succ_pos d) hr ⟨_,rfl,Rp.tree hc (Nat.le_refl 0)⟩ hyo (hgh ▸ hu3) hinC (mE vars)
    rw[this,S.aP,hbits,hK]
   have hb:=BB hr (p:=S.pk n e vars K) (j:=j+1) (by omega)
   have hpkK:S.pk n e vars K j=true:=by rw[S.pk,hpe,hK];simp
   have hs:S.an n (S.pk n e vars K) (j+1)=mgt L K+S.wt n j:=by rw[S.an,hpkK,l2];simp[S.wt]
   have w1:IntKind.wrap .i64 (mgt L K+S.wt n j)=mgt L K+S.wt n j:=by rw[<-hs,aq (by omega) (by omega)]
   have lk:∀(t:T) (g:G),tat t 96=.hmap g4.nx->tat t 101=.int .i64 K->g.h.get g4.nx=.map (mcl ik L)->(ck C0 (.lookup 123 (.tmp 96) (.tmp 101) false)).run (I C0) (d+1) (some (g5.nx+1)) t g=.val (.int .i64 (mgt L K)):=fun t g a b c=>F2 a b c
   have up:∀(t:T) (g:G),tat t 96=.hmap g4.nx->tat t 101=.int .i64 K->tat t 105=.int .i64 (mgt L K+S.wt n j)->g.h.get g4.nx=.map (mcl ik L)->(ck C0 (.mapUpdate 123 (.tmp 96) (.tmp 101) (.tmp 105))).run (I C0) (d+1) (some (g5.nx+1)) t g=.upd .undef (g.put g4.nx (.map (mcl ik (mst K (mgt L K+S.wt n j) L)))):=fun t g a b c e=>Nd a b c e
   simp only[ol,sx,sy,sf,SO.run,↓reduceIte,Nat.reduceEqDiff,Nat.reduceAdd,Nat.reduceLeDiff,h18,h8,h11,j12,j18,j3,j4,kn,jm,lk,up,w1,Hu,HK,kA]
   refine ⟨?_,by simp<;>omega,fun i h1 h2=>by simp[H.get_put,show ¬i=g4.nx by omega],.inl ⟨rfl,fun i h1 h2=>?_,mst K (mgt L K+S.wt n j) L,by simp[H.get_put],fun k=>?_⟩⟩
   ·simp only[List.reverse_cons,List.reverse_nil,List.nil_append,List.cons_append]
    exact Co [(false,false),(false,false),(false,false),(false,false),(false,false),(false,false),(false,true),(false,false),(false,false),(false,false),(true,false)] [] (by simp[All2,ap,ay]) (by decide) (by decide) (by simp)
   ·simp[H.get_put,h2]
    rw[jo i h1,hg.fr i h1 h2]
   ·rw[Gd]
    by_cases hk:k=K
    ·subst hk
     rw[if_pos rfl,hs]
    ·rw[if_neg hk,l2,S.an,if_neg,Int.add_zero]
     rw[S.pk,hpe,<-hK]
     simp[Ne.symm hk]
  ·intro g' hg hn hdf
   obtain ⟨L,l1,l2⟩:=hg.hm
   refine Ny (p:=p) (r:=g4.nx+1) (m:=g4.nx) (sz:=sz) (l:=vars) (cl:=S.ac (S.aa n) vars) (w:=w) (z:=z) (V:=V) (E:=E) (L:=L) (W:=S.aI n e vars (S.ap n)) (by omega) (by rw[cg];omega) (by omega) ⟨h18,h15,h1,h2',h6,h8,h11,h14,trivial⟩ ⟨hT.hp.step (by omega) fun i h5 hi=>by rw[hg.fr i (by omega) (by omega),f5 i hi],hT.v0,hT.e0,hT.e1,hT.e2⟩ (by rw[hg.fr _ (by omega) (by omega),m1]) l1 ⟨by omega,by omega⟩ ⟨by omega,by omega⟩ (by simp[S.aI,hsz]) (fun i hi=>?_) (by rw[hg.fr 1 (by omega) (by omega),f5 1 (by omega),q1]) ?_
   ·simp[S.aI,hsz,hi,l2]
   ·intro t g8 a1 a2 a3 h6 h7 k8 s1 s2 s3 fr8
    have hd8:g8.h.get g5.nx=.dfr true:=by rw[fr8 _ (by omega) (by omega) (by omega),hdf]
    rw[Bp]
    refine kh hd8 ?_
    simp only[sx,sy,↓reduceIte,h6,h7,k8,show ¬1=g5.nx by omega,Nat.reduceAdd,Nat.reduceLeDiff]
    rw[hE,hj]
    have far:∀{l:List Int} {v:AV},SlR (PC g8.h) 0 g8.h l v->SlR (fun _=>True) 0 (g8.put g5.nx (.dfr false)).h l v:=fun h=>h.wd fun i hi=>⟨trivial,by
     obtain ⟨-,a,b,c,e,f,hi⟩:=hi
     have:i≠g5.nx:=fun e'=>by rw[e',hd8] at hi;cases hi
     simp[H.get_put,this]⟩
    exact ⟨fun _=>True,_,_,rfl,⟨_,rfl,dy.2 ⟨a1,a2,a3,rfl,far s1,far s2,far s3⟩⟩,aJ.2 rfl⟩
 ·have hE:S.aK n e vars=S.aw n e:=by rw[S.aK,if_neg h0]
  have hj:S.bf n e vars=⟨[],[],[]⟩:=by rw[S.bf,hE,if_neg h0]
  simp only[sx,sy,SO.run,↓reduceIte,Nat.reduceEqDiff,Nat.reduceAdd,Nat.reduceLeDiff,f3,h0,decide_false,Bool.not_false,f1]
  rw[hj,hE]
  exact ⟨fun _=>True,_,_,rfl,xV _ _,aJ.2 rfl⟩
theorem Cq {d k k2:Nat}{g:G}{P P2:Nat->Prop}{v w:AV}{x y:Factor}(hd:0<d)(hv:Agg x P k g.h v)(hw:Agg y P2 k2 g.h w)(he:x=y) :
  ae C0 d N.aB [v,w] g=.val (.bool true):=by
 subst he
 obtain ⟨v',e,cs,rfl,hc⟩:=gD (bh x) (by decide) d hv
 obtain ⟨w',e2,cs2,rfl,hc2⟩:=gD (bh x) (by decide) d hw
 obtain ⟨a1,a2,a3,rfl,h1,h2,h3⟩:=dy.1 hc
 obtain ⟨b1,b2,b3,rfl,q1,q2,q3⟩:=dy.1 hc2
 rw[wN]
 refine dI zE (xs:=[.agg [a1,a2,a3],.agg [b1,b2,b3]]) (by simp only[aB,e,e2]) (by simp[pd]) hd ?_
 have s1:∀g,ae C0 (d+1) N.ah [a1,b1] g=.val (.bool true):=fun g=>by rw[BG (P:=NoP) (P2:=NoP) (k:=max k d) (k2:=max k2 d) (l:=x.vars) (p:=x.vars) (Nat.succ_pos d) (h1.tree (Nat.le_refl _)) (q1.tree (Nat.le_refl _))];simp
 have s2:∀g,ae C0 (d+1) N.ah [a2,b2] g=.val (.bool true):=fun g=>by rw[BG (P:=NoP) (P2:=NoP) (k:=max k d) (k2:=max k2 d) (l:=x.cards) (p:=x.cards) (Nat.succ_pos d) (h2.tree (Nat.le_refl _)) (q2.tree (Nat.le_refl _))];simp
 have s3:∀g,ae C0 (d+1) N.ah [a3,b3] g=.val (.bool true):=fun g=>by rw[BG (P:=NoP) (P2:=NoP) (k:=max k d) (k2:=max k2 d) (l:=x.w) (p:=x.w) (Nat.succ_pos d) (h3.tree (Nat.le_refl _)) (q3.tree (Nat.le_refl _))];simp
 simp only[sz,simprocAttr,pd,rF,s1,s2,s3]
def Mh (K:Nat):VS:=fun P k h v=>∃l:List Int,l.length<=K/\One l P k h v
theorem I9 (K:Nat):Snb (Mh K) 0:=by
 refine ⟨fun {P k h v n} d r hn=>?_,fun {k h v n} r hn=>?_⟩
 ·obtain ⟨m,hm,r⟩:=r
  obtain ⟨v',e,r'⟩:=(aM m).snap d r hn
  exact ⟨v',e,m,hm,r'⟩
 ·obtain ⟨m,hm,r⟩:=r
  exact (aM m).tag r hn
theorem D2 {d s:Nat}{g:G}(hd:0<d)(hs:s<18446744073709551616):∃r,ae C0 d N.bk [.int .u64 (s:Int)] g=.val r/\Mh 64 NoP 0 .nil r:=by
 rw[s_]
 refine aP vg (xs:=[.int .u64 (s:Int)]) (by simp only[aB,bM]) (by simp[jv]) (I9 64) (by decide) hd ?_
 simp only[jv,sx,SO.run]
 refine bA 64 (by omega) (fun j t df g=>df=[]/\tat t 0=.int .u64 (s:Int)/\∃(u:AV) (L:List Int),tat t 3=u/\L.length<=j/\Own g 0 u 1 (L.map ci)) ⟨rfl,by simp[sx],.nils,[],by simp[sx],by simp,.inl ⟨rfl,rfl⟩⟩ (by simp[sx]) (by decide) (by rintro j t df g v s' (rfl | rfl | rfl)<;>simp[sx]) ?_ ?_ ?_
 ·rintro j t df g hj ⟨rfl,h0,u,L,h3,hL,hu⟩ h4
  simp only[sx,sy,SO.run,↓reduceIte,Nat.reduceEqDiff,h0,h3,h4]
  exact ⟨rfl,u,L,rfl,hL,hu⟩
 ·rintro j t df g hj ⟨rfl,h0,u,L,h3,hL,hu⟩ h4
  have ki:∀g,ae C0 (d+1) N.au [.int .u64 (s:Int),.int .i64 (j:Int)] g=.val (.bool (S.bj s j)):=fun g=>IW (Nat.succ_pos d) hs (by omega)
  simp only[sx,SO.run,↓reduceIte,Nat.reduceEqDiff,h0,h4,ki]
  cases S.bj s j with
  | true =>
   simp only[sx,sy,SO.run,↓reduceIte,Nat.reduceEqDiff,h3,h4]
   refine bm (new:=[ci (j:Int)]) (hu.step (Fr.new _ _)) (by simp[sx,sy,ci]) (by simp) (by simp[aR];omega) fun v2 g2 hv2 n2 f2 _ l2=>?_
   simp only[sx,sy,SO.run,↓reduceIte,Nat.reduceEqDiff,h0,h4]
   exact ⟨_,L++[(j:Int)],rfl,by simp;omega,by simpa using hv2⟩
  | false =>
   simp only[sx,sy,↓reduceIte,Nat.reduceEqDiff,h0,h3,h4]
   exact ⟨_,L,rfl,by omega,hu⟩
 ·rintro t df g ⟨rfl,h0,u,L,h3,hL,hu⟩
  simp only[lC,sx,SO.run,↓reduceIte,h3]
  exact ⟨_,L,hL,hu.ints (by omega)⟩
theorem Ib {d:Nat}{g:G}{v w:AV}{n:Net}{e:List Int}(hd:0<d)(hm:Agg n NoP 0 g.h v)(hr:NR n)(he:SlR NoP 0 .nil e w)(hev:S.ay n e=true)(hpos:S.aJ n e≠0) :
  ae C0 d N.aD [v,w] g=.val (.tup [.int .i64 (S.ak n e (-1) (S.ap n)).1,.agg [.int .i64 (S.aE (S.ak n e (-1) (S.ap n)).2.toNat (S.aJ n e).toNat).1,.int .i64 (S.aE (S.ak n e (-1) (S.ap n)).2.toNat (S.aJ n e).toNat).2]]):=by
 obtain ⟨b,rows,rfl,e1,hm',hN,r1,r2,r3,r4⟩:=cE d hm
 have ew:=dQ (h:=g.h) d (he.tree (Nat.le_refl 0))
 have he':∀h,SlR NoP 0 h e w:=fun h=>he.tree (Nat.le_refl 0)
 obtain ⟨el,ege⟩:=q8 hev
 obtain ⟨W1,W2,W3⟩:=hr.wl
 have key:∃r,ae C0 d N.aD [.agg [.int .i64 n.grain,b],w] g=.val r/\tA (One (S.ak n e (-1) (S.ap n)).1) (Agg (S.aE (S.ak n e (-1) (S.ap n)).2.toNat (S.aJ n e).toNat)) NoP 0 .nil r:=by
  rw[xe]
  refine aP zQ (xs:=[.agg [.int .i64 n.grain,b],w]) (by simp only[aB,e1,ew]) (by simp[pi]) (cQ (m:=2) (aM _) (bh _) (by decide) (by decide)) (by decide) hd ?_
  simp only[sz,simprocAttr,pi]
  obtain ⟨g0,hg0⟩:∃g0,g0=(G.empty.new (.cells 2 [[.int .i64 n.grain,b]] 0 false false)).new (.cells 2 [[.int .i64 0,.int .i64 0]] 0 false false):=⟨_,rfl⟩
  rw[<-hg0]
  have f0:g0.h.get 0=.cells 2 [[.int .i64 n.grain,b]] 0 false false:=by rw[hg0];simp[sx,H.get_put]
  have f1:g0.h.get 1=.cells 2 [[.int .i64 0,.int .i64 0]] 0 false false:=by rw[hg0];simp[sx]
  clear hg0
  have kW:∀g,ae C0 (d+1) N.an [.agg [.int .i64 n.grain,b]] g=.val (.int .i64 (S.ap n:Int)):=fun g=>sZ (Nat.succ_pos d) (hm' g.h) hr
  simp only[sz,simprocAttr,qq]
  refine bA (S.ap n) (by omega) (fun j t df g=>df=[]/\g.h.get 0=.cells 2 [[.int .i64 n.grain,b]] 0 false false/\g.h.get 1=.cells 2 [[.int .i64 0,.int .i64 0]] 0 false false/\St t [(1,w),(2,.hptr 0 0 0 0),(5,.hptr 1 0 0 0),(6,.int .i64 (S.ak n e (-1) j).1),(7,.int .i64 (S.ak n e (-1) j).2)]) ⟨rfl,f0,f1,by simp[St,sx,S.ak]⟩ (by simp[sx]) (by decide) (by
    rintro j t df g v s (rfl | rfl | rfl)<;>simp[St,sx]) ?_ ?_ ?_
  ·rintro j t df g hj ⟨rfl,g0,g1,h1,h2,h5,h6,h7,-⟩ h8
   simp only[sz,simprocAttr,h2,h8,g0,kW]
   simp[St,sx,h1,h2,h5,h6,h7,g1]
  ·rintro j t df g hj ⟨rfl,g0,g1,h1,h2,h5,h6,h7,-⟩ h8
   have kw:∀g,ae C0 (d+1) N.ae [.agg [.int .i64 n.grain,b],.int .i64 (j:Int)] g=.val (.int .i64 (S.wt n j)):=fun g=>te (Nat.succ_pos d) (hm' g.h) hr (by omega)
   have hvl:(S.am (S.aa n) (j:Int)).length=n.nodes.length:=by simp[S.am,aC]
   simp only[sz,simprocAttr,h2,h8,g0]
   refine ba (o4 (w:=j) (Nat.succ_pos d) (hm' _) hr (by omega)) fun z hz=>?_
   have km:∀g,ae C0 (d+1) N.aq [z,w] g=.val (.bool (S.pe n e j)):=fun g=>q9 (Nat.succ_pos d) (hz.sl g.h) (he' g.h) (by omega)
   simp only[sz,simprocAttr,h1,km]
   cases hp:S.pe n e j with
   | false =>
    have hb:S.ak n e (-1) (j+1)=S.ak n e (-1) j:=by rw[S.ak,if_neg (by rw[hp];simp)]
    simp only[sz,simprocAttr]
    simp[St,sx,h1,h2,h5,h6,h7,h8,g0,g1,hb]
   | true =>
    by_cases hlt:(S.ak n e (-1) j).2<S.wt n j
    ·have hb:S.ak n e (-1) (j+1)=((j:Int),S.wt n j):=by rw[S.ak,if_pos ⟨hp,hlt⟩]
     simp only[sz,simprocAttr,h2,h7,h8,g0,kw,hlt]
     simp[St,sx,h1,h2,h5,g1,hb]
    ·have hb:S.ak n e (-1) (j+1)=S.ak n e (-1) j:=by rw[S.ak,if_neg fun h=>hlt h.2]
     simp only[sz,simprocAttr,h2,h7,h8,g0,kw,hlt]
     simp[St,sx,h1,h2,h5,h6,h7,g1,hb]
  ·rintro t df g ⟨rfl,g0,g1,h1,h2,h5,h6,h7,-⟩
   have hb:=rZ hr e (-1) (S.ap n)
   have hb1:=wc hr e
   have kM:∀g,ae C0 (d+1) N.aT [.agg [.int .i64 n.grain,b],w] g=.val (.int .i64 (S.aJ n e)):=fun g=>De (Nat.succ_pos d) (hm' _) hr (he' g.h) el
   obtain ⟨B,hB⟩:∃B,B=S.ak n e (-1) (S.ap n):=⟨_,rfl⟩
   rw[<-hB] at hb h6 h7 ⊢
   obtain ⟨a,ha⟩:=Int.eq_ofNat_of_zero_le hb.1
   obtain ⟨c,hc⟩:=Int.eq_ofNat_of_zero_le hb1.1
   rw[hc] at kM hpos ⊢
   rw[ha] at h7 ⊢
   have kO:∀g,ae C0 (d+1) N.aJ [.int .i64 (a:Int),.int .i64 (c:Int)] g=.val (.agg [.int .i64 (S.aE a c).1,.int .i64 (S.aE a c).2]):=fun g=>M_ (Nat.succ_pos d) (by omega) (by omega) (by omega)
   simp only[sz,simprocAttr,pH,h1,h2,h5,h6,h7,g0,g1,kM,kO]
   exact ⟨fun _=>True,_,_,rfl,aJ.2 rfl,io.2 (by simp)⟩
 obtain ⟨r,hr,a,c,rfl,ha,hc⟩:=key
 have ha:=aJ.1 ha
 injection ha with ha
 rw[hr,io.1 hc,ha]
theorem Hn {n:Net}{e vars:List Int}{j:Nat}(h:S.pe n e j=false):S.aI n e vars (j+1)=S.aI n e vars j :=
 List.map_congr_left fun i _=>by rw[S.an,S.pk,h];simp
theorem nZ (n:Net)(e vars:List Int)(j:Nat):(S.aI n e vars j).length=(S.ae (S.ac (S.aa n) vars)).toNat:=by simp[S.aI]
theorem A6 {n:Net}{e vars:List Int}{j i:Nat}(hi:i<(S.ae (S.ac (S.aa n) vars)).toNat):(S.aI n e vars j)[i]?=some (S.an n (S.pk n e vars (i:Int)) j):=by simp[S.aI,hi]
theorem Hb {n:Net}{e vars:List Int}{j i:Nat}(h:S.pe n e j=true)(hi:i<(S.ae (S.ac (S.aa n) vars)).toNat)(hK:S.ah (S.ac (S.aa n) vars) (S.ac (S.am (S.aa n) (j:Int)) vars)=(i:Int)) :
  (S.aI n e vars j).set i (S.an n (S.pk n e vars (i:Int)) j+S.wt n j)=S.aI n e vars (j+1):=by
 refine List.ext_getElem? fun q=>?_
 by_cases hq:q<(S.ae (S.ac (S.aa n) vars)).toNat
 ·rw[A6 hq,List.getElem?_set]
  by_cases e1:i=q
  ·subst e1
   rw[if_pos rfl,if_pos (by rw[nZ];exact hi),S.an,S.pk,h,hK]
   simp[S.wt]
  ·rw[if_neg e1,A6 hq,S.an,S.pk,h,hK]
   have:¬((i:Int)=(q:Int)):=by omega
   simp[this]
 ·rw[List.getElem?_eq_none (by rw[List.length_set,nZ];omega),List.getElem?_eq_none (by rw[nZ];omega)]
structure RtH (l W:List Int) (C:AV) (V:Nat->AV) (E:Nat->En) (g:G):Prop where
 hp:Hp g 2 K4 V E
 v0:V 0=.hptr 2 0 0 0
 e0:E 0=.bx [V 1,C,V 3]
 e1:E 1=.sl 1 (l.map ci)
 e3:E 3=.sl 1 (W.map ci)
theorem RtH.box {l W:List Int}{C:AV}{V:Nat->AV}{E:Nat->En}{g:G}(h:RtH l W C V E g):g.h.get 2=.cells 3 [[V 1,C,V 3]] 0 false false:=by
 obtain ⟨id,h1,h2,h3,h4⟩:=h.hp.box (k:=0) (by simp[K4]) h.e0
 rw[h.v0] at h3;injection h3 with h3;subst h3
 exact h4
theorem GX {d:Nat}{g:G}{v w z:AV}{n:Net}{e vars:List Int}(hd:0<d)(hm:Agg n NoP 0 g.h v)(hr:NR n)(he:SlR NoP 0 .nil e w)(hev:S.ay n e=true)(hz:SlR NoP 0 .nil vars z)(hpl:S.aA vars n.nodes.length=true) :
  ∃r,ae C0 d N.bJ [v,w,z] g=.val r/\Agg (⟨vars,S.ac (S.aa n) vars,S.aI n e vars (S.ap n)⟩:Factor) NoP 0 .nil r:=by
 obtain ⟨b,rows,rfl,e1,hm',hN,r1,r2,r3,r4⟩:=cE d hm
 have ew:=dQ (h:=g.h) d (he.tree (Nat.le_refl 0))
 have ez:=dQ (h:=g.h) d (hz.tree (Nat.le_refl 0))
 have he':∀h,SlR NoP 0 h e w:=fun h=>he.tree (Nat.le_refl 0)
 have hz':∀h,SlR NoP 0 h vars z:=fun h=>hz.tree (Nat.le_refl 0)
 obtain ⟨el,ege⟩:=q8 hev
 obtain ⟨W1,W2,W3⟩:=hr.wl
 have hvl:=dV hpl (by omega)
 have hl8:=hr.l2
 have hin:=bI hpl
 have hcb:∀c∈S.ac (S.aa n) vars,1<=c/\c<=4:=aU hr.cs fun y hy=>by rw[aC];exact hin y hy
 have hp1:=bo hcb
 have hp2:=bV (a:=(S.ac (S.aa n) vars).length) (b:=8) (by rw[cg];omega)
 have hp3:(4:Int) ^ 8=65536:=by decide
 obtain ⟨sz,hsz⟩:=Int.eq_ofNat_of_zero_le (show 0<=S.ae (S.ac (S.aa n) vars) by omega)
 have hszn:(S.ae (S.ac (S.aa n) vars)).toNat=sz:=by rw[hsz];rfl
 rw[vd]
 refine aP yC (xs:=[.agg [.int .i64 n.grain,b],w,z]) (by simp only[aB,e1,ew,ez]) (by simp[mK]) (bh _) (by decide) hd ?_
 simp only[mK,sx,sy,SO.run,↓reduceIte,Nat.reduceEqDiff,Nat.reduceAdd]
 obtain ⟨g0,hg0⟩:∃g0,g0=(G.empty.new (.cells 2 [[.int .i64 n.grain,b]] 0 false false)).new (.cells 3 [[.nils,.nils,.nils]] 0 false false):=⟨_,rfl⟩
 rw[<-hg0]
 have f0:g0.h.get 0=.cells 2 [[.int .i64 n.grain,b]] 0 false false:=by rw[hg0];simp[sx,H.get_put]
 have f1:g0.h.get 1=.cells 3 [[.nils,.nils,.nils]] 0 false false:=by rw[hg0];simp[sx]
 have f3:g0.nx=2:=by rw[hg0];simp[sx]
 clear hg0
 unfold pJ
 have kC:=nX (d:=d+1) (n:=n) (Nat.succ_pos d) (hm' g0.h) (by omega)
 refine aW (P:=fun t' df g'=>df=[]/\g'=g0.new (.cells 3 [[.nils,.nils,.nils]] 0 false false)/\St t' [(1,w),(2,z),(3,.hptr 0 0 0 0),(6,.hptr 1 0 0 0),(7,.hptr 2 0 0 0)]) ?_ ?_
 ·simp only[sx,sy,SO.run,Nat.reduceAdd]
  simp[St,sx,f3]
 rintro t df g1 ⟨rfl,hg1,ht⟩
 have n1:g1.nx=3:=by rw[hg1];simp[f3]
 have k0:g1.h.get 0=.cells 2 [[.int .i64 n.grain,b]] 0 false false:=by rw[hg1];simp[H.get_put,f3,f0]
 have k1:g1.h.get 1=.cells 3 [[.nils,.nils,.nils]] 0 false false:=by rw[hg1];simp[H.get_put,f3,f1]
 have k2:g1.h.get 2=.cells 3 [[.nils,.nils,.nils]] 0 false false:=by rw[hg1];simp[H.get_put,f3]
 clear hg1
 refine aW (P:=fun t' df g'=>df=[]/\St t' [(1,w),(2,z),(3,.hptr 0 0 0 0),(6,.hptr 1 0 0 0),(7,.hptr 2 0 0 0)]/\g'.h.get 0=.cells 2 [[.int .i64 n.grain,b]] 0 false false/\g'.h.get 1=.cells 3 [[.nils,.nils,.nils]] 0 false false/\∃V E,Hp g' 2 K4 V E/\V 0=.hptr 2 0 0 0/\E 0=.bx [V 1,.nils,.nils]/\E 1=.sl 1 (vars.map ci)/\V 3=.nils) ?_ ?_
 ·obtain ⟨h1,h2,h3,h6,h7,-⟩:=ht
  have hH:Hp g1 2 K4 (fun k=>if k=0 then .hptr 2 0 0 0 else .nils) (fun k=>if k=0 then .bx [.nils,.nils,.nils] else .sl 1 []):=by
   refine ⟨fun k hk=>?_,fun k l hk hl hne id h h'=>?_,by omega⟩
   ·by_cases e:k=0
    ·simp only[if_pos e];exact ⟨2,by omega,by omega,rfl,k2⟩
    ·simp only[if_neg e];exact .inl ⟨rfl,rfl⟩
   ·by_cases e:k=0
    ·by_cases e':l=0
     ·omega
     ·simp only[if_neg e'] at h';cases h'
    ·simp only[if_neg e] at h;cases h
  simp only[sx,sy,SO.run,↓reduceIte,Nat.reduceEqDiff,h2,h7,k2]
  refine hH.app (k:=1) (by simp[K4]) (by simp;rfl) (new:=vars.map ci) (hz' _).ints (by simp[aR];omega) fun v1 g2 hH1 m1 fb1 fo1 _ vc vt=>?_
  obtain ⟨id,b1,b2,b3,b4⟩:=hH1.box (k:=0) (row:=[.nils,.nils,.nils]) (by simp[K4]) (by rw[ac _ _ (by simp)];rfl)
  rw[ac _ _ (by simp)] at b3
  have b3:AV.hptr 2 0 0 0=.hptr id 0 0 0:=b3
  injection b3 with b3;subst b3
  have b4:g2.h.get 2=.cells 3 [[.nils,.nils,.nils]] 0 false false:=b4
  simp only[sx,sy,SO.run,↓reduceIte,Nat.reduceEqDiff,Nat.reduceAdd,Nat.reduceLeDiff,h7,b4,vc,vt]
  have hHb:=hH1.putb (k:=0) (id:=2) (by simp[K4]) (row:=[.nils,.nils,.nils]) (row':=[v1,.nils,.nils]) (by rw[ac _ _ (by simp)];rfl) (by rw[ac _ _ (by simp)];rfl) rfl
  refine ⟨by simp[St,sx,h1,h2,h3,h6,h7],by (try simp[H.get_put]);rw[fb1 0 (by omega),k0],by (try simp[H.get_put]);rw[fb1 1 (by omega),k1],_,_,hHb,by rw[ac _ _ (by simp)];rfl,by rw[ak,ak],by rw[ac _ _ (by simp),ak];simp,by rw[ac _ _ (by simp)];rfl⟩
 clear ht k0 k1 k2 n1
 rintro t df g2 ⟨rfl,ht,k0,k1,V,E,hH,v0,e0,e1',v3⟩
 refine aW (P:=fun t' df g'=>df=[]/\St t' [(1,w),(2,z),(3,.hptr 0 0 0 0),(6,.hptr 1 0 0 0),(7,.hptr 2 0 0 0)]/\g'.h.get 0=.cells 2 [[.int .i64 n.grain,b]] 0 false false/\g'.h.get 1=.cells 3 [[.nils,.nils,.nils]] 0 false false/\∃C V E,IT 0 (S.ac (S.aa n) vars) C/\Hp g' 2 K4 V E/\V 0=.hptr 2 0 0 0/\E 0=.bx [V 1,C,.nils]/\E 1=.sl 1 (vars.map ci)/\V 3=.nils) ?_ ?_
 ·obtain ⟨h1,h2,h3,h6,h7,-⟩:=ht
  obtain ⟨id,b1,b2,b3,b4⟩:=hH.box (k:=0) (by simp[K4]) e0
  rw[v0] at b3;injection b3 with b3;subst b3
  have b4:g2.h.get 2=.cells 3 [[V 1,.nils,.nils]] 0 false false:=b4
  simp only[sx,sy,SO.run,↓reduceIte,Nat.reduceAdd,Nat.reduceLeDiff,h3,k0]
  refine ba (nX (n:=n) (Nat.succ_pos d) (hm' _) (by omega)) fun c hc=>?_
  simp only[sx,SO.run,↓reduceIte,Nat.reduceEqDiff,h2]
  refine ba (Bv (l:=S.aa n) (p:=vars) (Nat.succ_pos d) (hc.sl _) (hz' _) (by omega) (fun x hx=>by rw[aC];exact hin x hx)) fun C hC=>?_
  simp only[sx,sy,SO.run,↓reduceIte,Nat.reduceEqDiff,Nat.reduceAdd,Nat.reduceLeDiff,h7,b4,hC.cells,hC.tup]
  have hHb:=hH.putb (k:=0) (by simp[K4]) (row:=[V 1,.nils,.nils]) (row':=[V 1,C,.nils]) e0 v0 rfl
  exact ⟨by simp[St,sx,h1,h2,h3,h6,h7],by simp[k0],by simp[k1],C,_,_,hC,hHb,v0,ak _ _ _,by rw[ac _ _ (by simp)];exact e1',v3⟩
 clear ht k0 k1 hH v0 e0 e1' v3
 rintro t df g3 ⟨rfl,ht,k0,k1,C,V,E,hC,hH,v0,e0,e1',v3⟩
 have hCs:=fun h=>hC.sl h
 have kS:∀g,ae C0 (d+1) N.af [C] g=.val (.int .i64 (sz:Int)):=fun g=>by
  rw[t_ (Nat.succ_pos d) (hCs g.h),rO hcb (by rw[cg];omega),hsz]
 refine aW (P:=fun t' df g'=>df=[]/\St t' [(1,w),(2,z),(3,.hptr 0 0 0 0),(6,.hptr 1 0 0 0),(7,.hptr 2 0 0 0)]/\g'.h.get 0=.cells 2 [[.int .i64 n.grain,b]] 0 false false/\g'.h.get 1=.cells 3 [[.nils,.nils,.nils]] 0 false false/\∃V E,RtH vars (S.aI n e vars 0) C V E g') ?_ ?_
 ·obtain ⟨h1,h2,h3,h6,h7,-⟩:=ht
  obtain ⟨id,b1,b2,b3,b4⟩:=hH.box (k:=0) (by simp[K4]) e0
  rw[v0] at b3;injection b3 with b3;subst b3
  have b4:g3.h.get 2=.cells 3 [[V 1,C,.nils]] 0 false false:=b4
  simp only[sx,sy,SO.run,↓reduceIte,h7,b4,kS]
  refine jV (b:=2) (n:=sz) (by unfold aR;omega) (by unfold aR;omega) hH.nx fun U g4 hU n4 f4 vU=>?_
  have hz0:(S.aI n e vars 0).map ci=List.replicate sz [AV.int .i64 0]:=by
   rw[List.eq_replicate_iff]
   refine ⟨by rw[List.length_map,nZ,hszn],fun x hx=>?_⟩
   obtain ⟨y,hy,rfl⟩:=List.mem_map.1 hx
   obtain ⟨i,-,rfl⟩:=List.mem_map.1 hy
   rfl
  have hH2:=hH.set (g':=g4) (k:=3) (v':=U) (e':=.sl 1 ((S.aI n e vars 0).map ci)) (by simp[K4]) (by rw[hz0];exact hU) (by omega) (fun i _ hi _=>f4 i (by omega)) (.inr ⟨g3.nx,by rw[bF hU];exact vU,Nat.le_refl _⟩)
  have b4':g4.h.get 2=.cells 3 [[V 1,C,.nils]] 0 false false:=by rw[f4 2 (by omega),b4]
  simp only[sx,sy,SO.run,↓reduceIte,Nat.reduceEqDiff,Nat.reduceAdd,Nat.reduceLeDiff,h7,b4',hU.cell.1,hU.cell.2]
  have hHb:=hH2.putb (k:=0) (by simp[K4]) (row:=[V 1,C,.nils]) (row':=[V 1,C,U]) (by rw[ac _ _ (by simp)];exact e0) (by rw[ac _ _ (by simp)];exact v0) rfl
  refine ⟨by simp[St,sx,h1,h2,h3,h6,h7],by (try simp[H.get_put]);rw[f4 0 (by have:=hH.nx;omega),k0],by (try simp[H.get_put]);rw[f4 1 (by have:=hH.nx;omega),k1],_,_,hHb,by rw[ac _ _ (by simp)];exact v0,by rw[ak,ak,ac _ _ (by simp)],by rw[ac _ _ (by simp),ac _ _ (by simp)];exact e1',by rw[ac _ _ (by simp),ak]⟩
 clear ht k0 k1 hH v0 e0 e1' v3
 rintro t df g4 ⟨rfl,⟨h1,h2,h3,h6,h7,-⟩,k0,k1,V,E,hT⟩
 have kW:∀g,ae C0 (d+1) N.an [.agg [.int .i64 n.grain,b]] g=.val (.int .i64 (S.ap n:Int)):=fun g=>sZ (Nat.succ_pos d) (hm' g.h) hr
 simp only[sx,SO.run]
 simp only[oH,oo]
 refine bA (S.ap n) (by omega) (fun j t df g=>df=[]/\St t [(1,w),(2,z),(3,.hptr 0 0 0 0),(6,.hptr 1 0 0 0),(7,.hptr 2 0 0 0)]/\g.h.get 0=.cells 2 [[.int .i64 n.grain,b]] 0 false false/\g.h.get 1=.cells 3 [[.nils,.nils,.nils]] 0 false false/\∃V E,RtH vars (S.aI n e vars j) C V E g) ⟨rfl,by simp[St,sx,h1,h2,h3,h6,h7],k0,k1,V,E,hT⟩ (by simp[sx]) (by decide) (by
   rintro j t df g v s (rfl | rfl | rfl)<;>simp[St,sx]) ?_ ?_ ?_
 ·rintro j t df g hj ⟨rfl,⟨h1,h2,h3,h6,h7,-⟩,k0,k1,hT⟩ h8
  simp only[sx,sy,SO.run,↓reduceIte,Nat.reduceEqDiff,Nat.reduceAdd,Nat.reduceLeDiff,h3,h8,k0,kW]
  exact ⟨by simp[St,sx,h1,h2,h3,h6,h7],k1,hT⟩
 ·clear h1 h2 h3 h6 h7 k0 k1 hT
  rintro j t df g hj ⟨rfl,⟨h1,h2,h3,h6,h7,-⟩,k0,k1,V,E,hT⟩ h8
  have kw:∀g,ae C0 (d+1) N.ae [.agg [.int .i64 n.grain,b],.int .i64 (j:Int)] g=.val (.int .i64 (S.wt n j)):=fun g=>te (Nat.succ_pos d) (hm' g.h) hr (by omega)
  have hvl':(S.am (S.aa n) (j:Int)).length=n.nodes.length:=by simp[S.am,aC]
  refine aW (P:=fun t' df g'=>df=[]/\g'=g/\∃u,IT 0 (S.am (S.aa n) (j:Int)) u/\St t' [(9,u),(8,.int .i64 (j:Int)),(1,w),(2,z),(3,.hptr 0 0 0 0),(6,.hptr 1 0 0 0),(7,.hptr 2 0 0 0)]) ?_ ?_
  ·simp only[sx,sy,SO.run,↓reduceIte,Nat.reduceEqDiff,Nat.reduceAdd,Nat.reduceLeDiff,h3,h8,k0]
   refine ba (o4 (w:=j) (Nat.succ_pos d) (hm' _) hr (by omega)) fun u hu=>?_
   simp only[sx,sy,SO.run,↓reduceIte]
   exact ⟨u,hu,by simp[St,sx,h1,h2,h3,h6,h7,h8]⟩
  clear h1 h2 h3 h6 h7 h8
  rintro t df g' ⟨rfl,rfl,u,hu,h9,h8,h1,h2,h3,h6,h7,-⟩
  have km:∀g,ae C0 (d+1) N.aq [u,w] g=.val (.bool (S.pe n e j)):=fun g=>q9 (Nat.succ_pos d) (hu.sl g.h) (he' g.h) (by omega)
  simp only[sx,SO.run,↓reduceIte,Nat.reduceEqDiff,h1,h9,km]
  cases hpe:S.pe n e j with
  | false =>
   simp only[sx,sy,↓reduceIte,Nat.reduceEqDiff]
   exact ⟨⟨by simp[St,sx,h1,h2,h3,h6,h7],k0,k1,V,E,by rw[Hn hpe];exact hT⟩,h8⟩
  | true =>
   have hinC:=lB (fun c hc=>(hr.cs c hc).1) (j:Int)
   have hib:=cM hcb (dM hinC fun y hy=>by rw[aC];exact hin y hy)
   obtain ⟨i,hi⟩:=Int.eq_ofNat_of_zero_le hib.1
   have hisz:i<sz:=by omega
   have kb:=hT.box
   refine ⟨fun _=>?_,fun h=>by cases h⟩
   refine dC (P:=fun t' df g''=>df=[]/\g''=g'/\St t' [(10,.int .i64 (i:Int)),(9,u),(8,.int .i64 (j:Int)),(1,w),(2,z),(3,.hptr 0 0 0 0),(6,.hptr 1 0 0 0),(7,.hptr 2 0 0 0)]) ?_ ?_
   ·simp only[sx,sy,SO.run,↓reduceIte,Nat.reduceEqDiff,h7,h9,h2,kb]
    refine ba (Bv (l:=S.am (S.aa n) (j:Int)) (p:=vars) (Nat.succ_pos d) (hu.sl _) (hz' _) (by omega) (fun x hx=>by rw[hvl'];exact hin x hx)) fun A hA=>?_
    have hA:IT 0 (S.ac (S.am (S.aa n) (j:Int)) vars) A:=hA
    have kI:∀g,ae C0 (d+1) N.aN [C,A] g=.val (.int .i64 (i:Int)):=fun g=>by
     rw[DX (Nat.succ_pos d) (hCs g.h) (hA.sl g.h) (by rw[cg];omega) hcb (dM hinC fun y hy=>by rw[aC];exact hin y hy),hi]
    simp only[sx,sy,SO.run,↓reduceIte,Nat.reduceEqDiff,kI]
    simp[St,sx,h1,h2,h3,h6,h7,h8,h9]
   clear h1 h2 h3 h6 h7 h8 h9
   rintro t df g'' ⟨rfl,rfl,h10,h9,h8,h1,h2,h3,h6,h7,-⟩
   have o3:=hT.hp.own (k:=3) (by simp[K4]) hT.e3
   have u1:i<((S.aI n e vars j).map ci).length:=by rw[List.length_map,nZ,hszn];exact hisz
   have u2:((S.aI n e vars j).map ci)[i]?=some (ci (S.an n (S.pk n e vars (i:Int)) j)):=by rw[List.getElem?_map,A6 (by omega)];rfl
   have hry:=dW o3 (by omega)
   have hb:=BB hr (p:=S.pk n e vars (i:Int)) (j:=j+1) (by omega)
   have hpk:S.pk n e vars (i:Int) j=true:=by rw[S.pk,hpe,hi];simp
   have hs:S.an n (S.pk n e vars (i:Int)) (j+1)=S.an n (S.pk n e vars (i:Int)) j+S.wt n j:=by rw[S.an,hpk];simp[S.wt]
   have w1:IntKind.wrap .i64 (S.an n (S.pk n e vars (i:Int)) j+S.wt n j)=S.an n (S.pk n e vars (i:Int)) j+S.wt n j:=by rw[<-hs,aq (by omega) (by omega)]
   simp only[sx,sy,sf,SO.run,↓reduceIte,Nat.reduceEqDiff,Nat.reduceAdd,Nat.reduceLeDiff,h7,h10,h3,h8,kb,k0,o3.rows,u1,u2,ci,kw,w1,ue,Option.isSome_some,Option.getD_some]
   refine (hT.hp.same (g':=_) (by simp) (by simp;omega)).put (k:=3) (i:=i) (off:=0) (n:=1) (row:=ci (S.an n (S.pk n e vars (i:Int)) j)) (row':=ci (S.an n (S.pk n e vars (i:Int)) j+S.wt n j)) (by simp[K4]) hT.e3 u2 rfl rfl rfl fun g5 hH5 n5 fb5 fo5=>?_
   simp only[sx,sy,↓reduceIte,Nat.reduceEqDiff] at fb5 ⊢
   rw[<-List.map_set,Hb hpe (by omega) hi] at hH5
   refine ⟨?_,⟨⟨by simp[St,sx,h1,h2,h3,h6,h7],?_,?_,V,_,hH5.same (by simp) (by simp),hT.v0,by rw[ac _ _ (by simp)];exact hT.e0,by rw[ac _ _ (by simp)];exact hT.e1,ak _ _ _⟩,by simp[h8]⟩⟩
   ·simp only[List.reverse_cons,List.reverse_nil,List.nil_append,List.cons_append]
    exact aI [false,false,false,false,false,false,false,false,false,false,false,false,false,true] [] (by simp[All2,ap,ay]) (by decide) (by simp)
   ·first | (rw[fb5 0 (by omega)];simpa using k0) | (simp only[sy];rw[fb5 0 (by omega)];simpa using k0)
   ·first | (rw[fb5 1 (by omega)];simpa using k1) | (simp only[sy];rw[fb5 1 (by omega)];simpa using k1)
 ·rintro t df g ⟨rfl,⟨h1,h2,h3,h6,h7,-⟩,k0,k1,V,E,hT⟩
  have kb:=hT.box
  simp only[oE,sx,sy,SO.run,↓reduceIte,Nat.reduceEqDiff,Nat.reduceAdd,Nat.reduceLeDiff,h7,h6,kb,k1]
  have o1:=hT.hp.own (k:=1) (by simp[K4]) hT.e1
  have o3:=hT.hp.own (k:=3) (by simp[K4]) hT.e3
  have s1:SlR (fun i=>2<=i) 0 g.h vars (V 1):=mj o1 (by omega) fun _ h=>h
  have s3:SlR (fun i=>2<=i) 0 g.h (S.aI n e vars (S.ap n)) (V 3):=mj o3 (by rw[nZ,hszn];omega) fun _ h=>h
  refine ⟨fun i=>2<=i,_,rfl,dy.2 ⟨V 1,C,V 3,rfl,s1.far fun i hi=>?_,(hC.sl g.h).wd fun _ h=>h.elim,s3.far fun i hi=>?_⟩⟩
  ·have:2<=i:=hi
   simp[H.get_put,show ¬i=1 by omega]
  ·have:2<=i:=hi
   simp[H.get_put,show ¬i=1 by omega]
end
end Hx
end
section
namespace Hx
open Go
set_option maxRecDepth 100000
noncomputable section
def cx:SC:=sQ [oM 132 30,o 133 (.bin .neq (.t 132) (qI 0))] (.cond (.t 133) (sQ [oM 134 29,oM 135 30,o 136 (.bin .neq (.t 134) (.t 135)),oM 137 136,og 138 137 false (.load true 3 (.t 28)),og 139 137 false (.build [.nils,.nils,.nils] [] []),og 140 137 false (.call N.aB [.t 138,.t 139]),og 141 137 false (.not (.t 140)),o 142 (.pick (.t 137) (.k (.bool true)) (.t 141))] (.cond (.t 142) (sQ [o 12 (.mv (.k (.bool false)))] (.ret)) (.skip))) (.seq (.quiet [oM 143 29,o 144 (.bin .neq (.t 143) (qI 0)),oM 145 144,og 146 145 false (.load true 3 (.t 28)),og 147 145 false (.load true 2 (.t 16)),og 148 145 false (.mv (.t 18)),og 149 145 false (.mv (.t 27)),og 150 145 false (.call N.bJ [.t 147,.t 148,.t 149]),og 151 145 false (.call N.aB [.t 146,.t 150]),og 152 145 false (.not (.t 151)),o 153 (.pick (.t 145) (.k (.bool true)) (.t 152))]) (.cond (.t 153) (sQ [o 12 (.mv (.k (.bool false)))] (.ret)) (.skip))))
def gV:SC:=.ops [oA 154 111,oM 111 154]
def gQ:SC:=sQ [o 112 (.bin .lss (.t 111) (qI 2))] (.seq (.cond (.t 112) (.skip) (.exit 4)) (.seq (.blk 5 (sQ [o 113 (.ix false 2 1 (.t 110) (.t 111)),oM 27 113] (sQ [o 115 (.load true 2 (.t 16)),oM 116 18,oM 117 27,o 118 (.call N.aZ [.t 115,.t 116,.t 117]),oM 114 118,o 119 (.ext (.t 114) 0),o 120 (.ext (.t 114) 1),o 28 (.alloc [.nils,.nils,.nils]),oz (.store 3 (.t 28) (.t 119)),oM 29 120] (sQ [oM 121 19,oM 30 121] (.seq (sQ [oM 122 30,o 123 (.bin .eql (.t 122) (qI 0)),oM 124 123,og 125 124 true (.mv (.t 27)),og 126 124 true (.fad 1 (.t 16)),og 127 124 true (.load false 1 (.t 126)),og 128 124 true (.len .slice (.t 127)),og 129 124 true (.call N.ax [.t 125,.t 128]),og 130 124 true (.not (.t 129)),o 131 (.pick (.t 124) (.t 130) (.k (.bool false)))] (.cond (.t 131) (.ops [oK 30 2]) (.skip))) cx))))) gV))
def dP:SC:=sQ [oM 100 4,oM 101 5,o 102 (.ixa 2 2 (.t 13) (qI 0)),oF 103 1 102,oL 104 103,oN 105 104,o 106 (.bin .shl (.k (.int .u64 1)) (.t 105)),o 107 (.bin .sub (.t 106) (.k (.int .u64 1))),o 108 (.bin .and (.t 101) (.t 107)),o 109 (.call N.bk [.t 108]),o 110 (.build [.nils,.nils] [(0,1),(1,1)] [.t 100,.t 109]),oK 111 0] (.blk 4 (.loop gQ))
def ie:SC:=.ops [oA 155 51,oM 51 155]
def dL:SC:=sQ [o 52 (.bin .lss (.t 51) (qI 2))] (.seq (.cond (.t 52) (.skip) (.exit 2)) (.seq (.blk 3 (sQ [o 53 (.ix false 2 1 (.t 50) (.t 51)),oM 18 53] (sQ [o 54 (.load true 2 (.t 16)),oM 55 18,o 56 (.call N.ay [.t 54,.t 55]),oM 19 56] (sQ [o 58 (.load true 2 (.t 16)),oM 59 18,o 60 (.call N.aF [.t 58,.t 59]),oM 57 60,o 61 (.ext (.t 57) 0),o 62 (.ext (.t 57) 1),o 63 (.ext (.t 57) 2),o 21 (.alloc [.int .i64 0,.int .i64 0]),oM 20 61,oz (.store 2 (.t 21) (.t 62)),oM 22 63] (sQ [oM 64 19,o 65 (.load true 2 (.t 16)),oM 66 18,o 67 (.call N.aH [.t 64,.t 65,.t 66]),oM 23 67] (.seq (sQ [oM 68 23,o 69 (.bin .neq (.t 68) (qI 0))] (.cond (.t 69) (sQ [oM 70 20,o 71 (.bin .neq (.t 70) (qI 0)),oM 72 71,og 73 72 false (.load true 2 (.t 21)),og 74 72 false (.build [.int .i64 0,.int .i64 0] [] []),og 75 72 false (.eq true (.flat [.int .i64,.int .i64]) (.t 73) (.t 74)),o 76 (.pick (.t 72) (.k (.bool true)) (.t 75)),oM 77 76,og 78 77 false (.mv (.t 22)),og 79 77 false (.mv (.t 23)),og 80 77 false (.bin .neq (.t 78) (.t 79)),o 81 (.pick (.t 77) (.k (.bool true)) (.t 80))] (.cond (.t 81) (sQ [o 12 (.mv (.k (.bool false)))] (.ret)) (.skip))) (sQ [o 83 (.load true 2 (.t 16)),oM 84 18,o 85 (.call N.aD [.t 83,.t 84]),oM 82 85,o 86 (.ext (.t 82) 0),o 87 (.ext (.t 82) 1),o 25 (.alloc [.int .i64 0,.int .i64 0]),oM 24 86,oz (.store 2 (.t 25) (.t 87))] (sQ [oM 88 20,oM 89 24,o 90 (.bin .neq (.t 88) (.t 89)),oM 91 90,og 92 91 false (.load true 2 (.t 21)),og 93 91 false (.load true 2 (.t 25)),og 94 91 false (.eq true (.flat [.int .i64,.int .i64]) (.t 92) (.t 93)),o 95 (.pick (.t 91) (.k (.bool true)) (.t 94)),oM 96 95,og 97 96 false (.mv (.t 22)),og 98 96 false (.bin .neq (.t 97) (qI 0)),o 99 (.pick (.t 96) (.k (.bool true)) (.t 98))] (.cond (.t 99) (sQ [o 12 (.mv (.k (.bool false)))] (.ret)) (.skip)))))) dP)))))) ie))
def ia:SC:=.ops [oA 156 47,oM 47 156]
def gC:SC:=sQ [o 48 (.bin .lss (.t 47) (qI 2))] (.seq (.cond (.t 48) (.skip) (.exit 0)) (.seq (.blk 1 (sQ [o 49 (.ix true 2 2 (.t 46) (.t 47)),o 16 (.alloc [.int .i64 0,.nils]),oz (.store 2 (.t 16) (.t 49))] (sQ [o 50 (.load true 2 (.t 14)),oK 51 0] (.blk 2 (.loop dL))))) ia))
def gX:SC:=sQ [o 12 (.mv (.k (.bool true)))] (.ret)
def iA:SC:=.seq (sQ [o 31 (.call N.bT []),o 32 (.not (.t 31))] (.cond (.t 32) (sQ [o 12 (.mv (.k (.bool false)))] (.ret)) (.skip))) (sQ [o 34 (.load true 3 (.t 6)),o 35 (.load true 4 (.t 7)),oM 36 2,o 37 (.load true 9 (.t 9)),o 38 (.call N.bF [.t 34,.t 35,.t 36,.t 37]),oM 33 38,o 39 (.ext (.t 33) 0),o 40 (.ext (.t 33) 1),o 13 (.alloc [.int .i64 0,.nils,.int .i64 0,.nils]),o 14 (.alloc [.nils,.nils]),oz (.store 4 (.t 13) (.t 39)),oz (.store 2 (.t 14) (.t 40))] (sQ [oM 41 4,oM 42 4,oN 43 42,o 44 (.mn (.t 43) (qI 6)),o 45 (.slc 1 (.t 41) [] [.t 44]),oM 4 45] (.seq (sQ [o 46 (.load true 4 (.t 13)),oK 47 0] (.blk 0 (.loop gC))) gX)))
def fB:SF:=⟨157,[.tm 12],sQ [o 6 (.box (.t 0)),o 7 (.box (.t 1)),o 9 (.box (.t 3)),o 12 (.mv (.k (.bool false)))] iA⟩
theorem re:nFn C0 N.bQ=some fB:=by kernel_rfl
end
end Hx
end
