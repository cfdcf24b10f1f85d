/- Cmp: joined by program, for one claim. -/
import Derived.Test.YtgnfgblkpnfcnaaGreatDoorM36
import Derived.Deep.MidRow
import Derived.Deep.WholeRow
set_option maxHeartbeats 4000000
set_option maxRecDepth 100000
set_option linter.unusedVariables false
set_option linter.unusedSimpArgs false
section
namespace Go.Proofs.YtgnfgblkpnfcnaaGreatDoor
open Go.RowKit Go.Sort Go.Maps
structure W8 where
 a:Int
 b:Int
 c:Int
 d:Int
 e:Int
 f:Int
 g:Int
 h:Int
def W8.list (s:W8):List Int:=[s.a,s.b,s.c,s.d,s.e,s.f,s.g,s.h]
def chf (e f g:Int):Int:=bits .xor .u32 (bits .and .u32 e f) (bits .and .u32 (bits .xor .u32 4294967295 e) g)
def maj (a b c:Int):Int:=bits .xor .u32 (bits .xor .u32 (bits .and .u32 a b) (bits .and .u32 a c)) (bits .and .u32 b c)
def W8.x (v:W8) (k w:Int):Int:=(v.h+zHx v.e 6 11 25+chf v.e v.f v.g+k+w) % 4294967296
def W8.y (v:W8):Int:=(zHx v.a 2 13 22+maj v.a v.b v.c) % 4294967296
def rnd (k w:Int) (v:W8):W8:=⟨(v.x k w+v.y) % 4294967296,v.a,v.b,v.c,(v.d+v.x k w) % 4294967296,v.e,v.f,v.g⟩
def zLR (kc ws:List Int):Nat→W8→W8
 | 0,s=>s
 | n+1,s=>rnd (kc.getD n 0) (ws.getD n 0) (zLR kc ws n s)
def zAx (sl vl:List Int) (i:Nat):List Int:=sl.mapIdx fun j x=>if j % 4<i then (x+vl.getD j 0) % 4294967296 else x
def W8.plus (s v:W8):W8:=⟨(s.a+v.a) % 4294967296,(s.b+v.b) % 4294967296,(s.c+v.c) % 4294967296,(s.d+v.d) % 4294967296,(s.e+v.e) % 4294967296,(s.f+v.f) % 4294967296,(s.g+v.g) % 4294967296,(s.h+v.h) % 4294967296⟩
def zCl (kc bs:List Int) (s:W8):W8:=s.plus (zLR kc (sch bs 64) 64 s)
structure CmpI (w:World) (bw pv pe:Nat) (wv:Array Value) (s v:W8) (wr:World):Prop where
 bel:Below w.heap.size w wr
 ks:Bk wr w.heap.size #[.int .u32 s.a,.int .u32 s.b,.int .u32 s.c,.int .u32 s.d,.int .u32 s.e,.int .u32 s.f,.int .u32 s.g,.int .u32 s.h] 155
 kr:Bk wr (w.heap.size+1) #[.int .u32 0,.int .u32 0,.int .u32 0,.int .u32 0,.int .u32 0,.int .u32 0,.int .u32 0,.int .u32 0] 155
 kw:Bk wr bw wv 188
 kv:Bk wr pv #[.int .u32 v.a,.int .u32 v.b,.int .u32 v.c,.int .u32 v.d] 191
 ke:Bk wr pe #[.int .u32 v.e,.int .u32 v.f,.int .u32 v.g,.int .u32 v.h] 191
 ap:w.heap.size+1<bw∧bw<pv∧bw<pe∧pv ≠ pe
def zAX (w:World) (g:Nat) (ks:List Int):Prop:=w.rangeAt g 0 (ks.map (Value.int .u32))
theorem CmpI.later {w wr w':World} {bw pv pe:Nat} {wv:Array Value} {s v:W8} (h:CmpI w bw pv pe wv s v wr) (hb:Below wr.heap.size wr w'):CmpI w bw pv pe wv s v w' :=
 ⟨h.bel.trans (hb.mono h.bel.size),h.ks.later hb,h.kr.later hb,h.kw.later hb,h.kv.later hb,h.ke.later hb,h.ap⟩
theorem Bk.put4 {w:World} {g:Nat} {x0 x1 x2 x3:Value} {t:TypeId} (h:Bk w g #[x0,x1,x2,x3] t) (a b c d:Value) :
 Bk ((((w.setCell ⟨g,0,none⟩ a).setCell ⟨g,1,none⟩ b).setCell ⟨g,2,none⟩ c).setCell ⟨g,3,none⟩ d) g #[a,b,c,d] t:=(((h.set 0 a).set 1 b).set 2 c).set 3 d
theorem Bk.others4 {w:World} {g k:Nat} {cs:Array Value} {t:TypeId} (h:Bk w k cs t) (hne:k ≠ g) (a b c d:Value) :
 Bk ((((w.setCell ⟨g,0,none⟩ a).setCell ⟨g,1,none⟩ b).setCell ⟨g,2,none⟩ c).setCell ⟨g,3,none⟩ d) k cs t:=(((h.other _ a hne).other _ b hne).other _ c hne).other _ d hne
theorem CmpI.setE {w wr:World} {bw pv pe:Nat} {wv:Array Value} {s:W8} {a0 a1 a2 a3 e0 e1 e2 e3:Int} (h:CmpI w bw pv pe wv s ⟨a0,a1,a2,a3,e0,e1,e2,e3⟩ wr) (x y z u:Int) :
 CmpI w bw pv pe wv s ⟨a0,a1,a2,a3,x,y,z,u⟩ ((((wr.setCell ⟨pe,0,none⟩ (.int .u32 x)).setCell ⟨pe,1,none⟩ (.int .u32 y)).setCell ⟨pe,2,none⟩ (.int .u32 z)).setCell ⟨pe,3,none⟩ (.int .u32 u)):=by
 obtain ⟨h1,h2,h3,h4⟩:=h.ap
 exact ⟨(((h.bel.setCell (by show w.heap.size≤pe;omega) _).setCell (by show w.heap.size≤pe;omega) _).setCell (by show w.heap.size≤pe;omega) _).setCell (by show w.heap.size≤pe;omega) _,
  h.ks.others4 (by omega) _ _ _ _,h.kr.others4 (by omega) _ _ _ _,h.kw.others4 (by omega) _ _ _ _,h.kv.others4 h4 _ _ _ _,h.ke.put4 _ _ _ _,h.ap⟩
theorem CmpI.setV {w wr:World} {bw pv pe:Nat} {wv:Array Value} {s:W8} {a0 a1 a2 a3 e0 e1 e2 e3:Int} (h:CmpI w bw pv pe wv s ⟨a0,a1,a2,a3,e0,e1,e2,e3⟩ wr) (x y z u:Int) :
 CmpI w bw pv pe wv s ⟨x,y,z,u,e0,e1,e2,e3⟩ ((((wr.setCell ⟨pv,0,none⟩ (.int .u32 x)).setCell ⟨pv,1,none⟩ (.int .u32 y)).setCell ⟨pv,2,none⟩ (.int .u32 z)).setCell ⟨pv,3,none⟩ (.int .u32 u)):=by
 obtain ⟨h1,h2,h3,h4⟩:=h.ap
 exact ⟨(((h.bel.setCell (by show w.heap.size≤pv;omega) _).setCell (by show w.heap.size≤pv;omega) _).setCell (by show w.heap.size≤pv;omega) _).setCell (by show w.heap.size≤pv;omega) _,
  h.ks.others4 (by omega) _ _ _ _,h.kr.others4 (by omega) _ _ _ _,h.kw.others4 (by omega) _ _ _ _,h.kv.put4 _ _ _ _,h.ke.others4 (fun e=>h4 e.symm) _ _ _ _,h.ap⟩
theorem zJq (s v:W8):(s.plus v).list=zAx s.list v.list 4:=by
 obtain ⟨a,b,c,d,e,f,g,h⟩:=s;obtain ⟨a',b',c',d',e',f',g',h'⟩:=v;simp [W8.plus,W8.list,zAx,List.mapIdx_cons]
theorem zA1 (sl vl:List Int):zAx sl vl 0=sl:=by
 unfold zAx;apply List.ext_getElem?;intro j;rw [List.getElem?_mapIdx];cases sl[j]? <;> simp
theorem zAy {sl vl:List Int} {j:Nat} {x:Int} (h:sl[j]? = some x) (i:Nat):(zAx sl vl i)[j]? = some (if j % 4<i then (x+vl.getD j 0) % 4294967296 else x):=by
 unfold zAx;rw [List.getElem?_mapIdx,h];rfl
theorem zAz (sl vl:List Int) (i:Nat):(zAx sl vl i).length=sl.length:=by unfold zAx;rw [List.length_mapIdx]
theorem zA0 {sl vl:List Int} (h8:sl.length=8) {i:Nat} (hi:i<4) {x y:Int} (hx:sl[i]? = some x) (hy:sl[i+4]? = some y) :
 zAx sl vl (i+1)=((zAx sl vl i).set i ((x+vl.getD i 0) % 4294967296)).set (i+4) ((y+vl.getD (i+4) 0) % 4294967296):=by
 apply List.ext_getElem?;intro j;rw [List.getElem?_set,List.getElem?_set,List.length_set,zAz];by_cases hj:j<8
 · obtain ⟨z,hz⟩ : ∃ z,sl[j]? = some z:=⟨_,List.getElem?_eq_getElem (by omega)⟩
   rw [zAy hz,zAy hz];by_cases e1:i+4=j
   · subst e1;rw [hy] at hz;injection hz with hz;subst hz;rw [if_pos rfl,if_pos (by omega),if_pos (by omega)]
   · rw [if_neg e1];by_cases e2:i=j
     · subst e2;rw [hx] at hz;injection hz with hz;subst hz;rw [if_pos rfl,if_pos (by omega),if_pos (by omega)]
     · rw [if_neg e2];by_cases e3:j % 4<i
       · rw [if_pos e3,if_pos (by omega)]
       · rw [if_neg e3,if_neg (by omega)]
 · rw [List.getElem?_eq_none (by rw [zAz];omega),List.getElem?_eq_none (by rw [zAz];omega),if_neg (by omega),if_neg (by omega)]
structure EndI (w:World) (pv pe:Nat) (l:List Int) (v:W8) (wr:World):Prop where
 bel:Below w.heap.size w wr
 ks:Bl wr w.heap.size .u32 l 155
 kr:Bk wr (w.heap.size+1) #[.int .u32 0,.int .u32 0,.int .u32 0,.int .u32 0,.int .u32 0,.int .u32 0,.int .u32 0,.int .u32 0] 155
 kv:Bl wr pv .u32 [v.a,v.b,v.c,v.d] 191
 ke:Bl wr pe .u32 [v.e,v.f,v.g,v.h] 191
 ap:w.heap.size+1<pv∧w.heap.size+1<pe∧pv ≠ pe
theorem EndI.later {w wr w':World} {pv pe:Nat} {l:List Int} {v:W8} (h:EndI w pv pe l v wr) (hb:Below wr.heap.size wr w'):EndI w pv pe l v w' :=
 ⟨h.bel.trans (hb.mono h.bel.size),h.ks.later hb,h.kr.later hb,h.kv.later hb,h.ke.later hb,h.ap⟩
theorem EndI.put {w wr:World} {pv pe:Nat} {l:List Int} {v:W8} (h:EndI w pv pe l v wr) (j:Nat) (x:Int):EndI w pv pe (l.set j x) v (wr.setCell ⟨w.heap.size,j,none⟩ (.int .u32 x)):=by
 obtain ⟨h1,h2,h3⟩:=h.ap;exact ⟨h.bel.setCell (by show w.heap.size≤w.heap.size;omega) _,h.ks.put j x,h.kr.other _ _ (by show w.heap.size+1 ≠ w.heap.size;omega),h.kv.other _ _ (by show pv ≠ w.heap.size;omega),h.ke.other _ _ (by show pe ≠ w.heap.size;omega),h.ap⟩
theorem w8_at (v:W8) {i:Nat} (hi:i<4) : ∃ x y,[v.a,v.b,v.c,v.d][i]? = some x∧[v.e,v.f,v.g,v.h][i]? = some y∧v.list.getD i 0=x∧v.list.getD (i+4) 0=y:=by
 match i with
 | 0=>exact ⟨_,_,rfl,rfl,rfl,rfl⟩
 | 1=>exact ⟨_,_,rfl,rfl,rfl,rfl⟩
 | 2=>exact ⟨_,_,rfl,rfl,rfl,rfl⟩
 | 3=>exact ⟨_,_,rfl,rfl,rfl,rfl⟩
 | n+4=>omega
theorem zH3 (x:Int) (i j k:Nat) (hi:0<i∧i<32) (hj:0<j∧j<32) (hk:0<k∧k<32) (w:World) :
 Calls Tryz.prog 179 #[.int .u32 x,(i:Int),(j:Int),(k:Int)] w fun e w'=>e = .returned (.int .u32 (zHx x i j k))∧Below w.heap.size w w' :=
 (zH2 x i j k hi hj hk w).mono fun _ _ ⟨he,hw⟩=>⟨he,by rw [←hw];exact Below.refl _ _⟩
theorem zBN (b o c:Nat) (W:World):(Instr.arrayAt 191 (.slice (some ⟨b,o,none⟩) 4 c)).run Tryz.prog W = .ok (.pointer (some ⟨b,o,none⟩)) W:=by
 unfold Instr.arrayAt;simp [Sem.run_bind,run_underlying Tryz.underlying191 W]
theorem zCp (s:W8) (a:Option Addr) (cap:Nat) (bs kc:List Int) (hk:kc.length=64) (hn:bs.length=64) (hcap:64≤cap) (hb : ∀ x∈bs,0≤x∧x≤255) (w:World) (hs:Sl w .u8 a bs) (hK:zAX w 1 kc) :
 Calls Tryz.prog 164 #[.agg #[.int .u32 s.a,.int .u32 s.b,.int .u32 s.c,.int .u32 s.d,.int .u32 s.e,.int .u32 s.f,.int .u32 s.g,.int .u32 s.h],.slice a 64 cap] w fun e w'=>e = .returned (zBP .u32 (zCl kc bs s).list)∧Below w.heap.size w w':=by
 have Hs:=Bx.mk hs;have Hb:=Bx.mk hb;have Hn:=Bx.mk hn;have HK:=Bx.mk hK;obtain ⟨sa,sb,sc,sd,se,sf,sg,sh⟩:=s;dsimp only;clear hs hb hn hK;go_enter Tryz.func164,Tryz.ntmps164;go_wp2_with fail;generalize hW:World.alloc (World.alloc w _) _=W;have hB:=bl2 hW;have ks:Bk W w.heap.size #[.int .u32 sa,.int .u32 sb,.int .u32 sc,.int .u32 sd,.int .u32 se,.int .u32 sf,.int .u32 sg,.int .u32 sh] 155:=bk1 hW;have kr:Bk W (w.heap.size+1) #[.int .u32 0,.int .u32 0,.int .u32 0,.int .u32 0,.int .u32 0,.int .u32 0,.int .u32 0,.int .u32 0] 155:=bk0 hW;clear hW;refine (zLw a cap bs Hn.out hcap Hb.out _ (Hs.out.below hB)).mono ?_;rintro _ w1 ⟨rfl,hb1⟩;replace hB:=hB.trans (hb1.mono hB.size);replace ks:=ks.later hb1;replace kr:=kr.later hb1;clear hb1;have kr1:=Bx.mk kr.lt;have hsz:Bx ((((sch bs 64).map (Value.int .u32)).toArray).size=64):=⟨by rw [List.size_toArray,List.length_map,zu]⟩
 have H1:=Bx.mk (show ∀ cs:Array Value,cs.size=64→(Tryz.prog.info? 188).map (·.size)=some cs.size from fun cs h=>by rw [h];kernel_rfl)
 unfold zBP;generalize hv:((sch bs 64).map (Value.int .u32)).toArray=wv at *;have hone:Bx (wv.all (·.oneCell')=true):=⟨by rw [←hv];exact zl _ _⟩
 have hv:=Bx.mk hv
 go_wp2_with (first
  | refine zAJ rfl _ _ _ rfl w1.heap.size rfl _ _ rfl _ (heap_alloc_new _ _) (H1.out _ hsz.out) (by rw [hsz.out];rfl) hone.out ?_)
 generalize hW:World.setRow (World.alloc w1 _) _ _=W2;have hb2:Below w1.heap.size w1 W2:=by rw [←hW];exact below_setRow ((Below.refl _ _).alloc (Nat.le_refl _) _) (Nat.le_refl _) _
 have kw:Bk W2 w1.heap.size wv 188:=by rw [←hW];exact setRow_heap _ _ _ _ _ (0,0) (heap_alloc_new _ _)
 replace hB:=hB.trans (hb2.mono hB.size);replace ks:=ks.later hb2;replace kr:=kr.later hb2;clear hW hb2;obtain ⟨c0,c1,c2,c3,c4,c5,c6,c7⟩:=ks.c8;have hlt:Bx (w.heap.size+1<w1.heap.size∧w1.heap.size<W2.heap.size):=⟨by have:=kr1.out;exact this,kw.lt⟩
 simp only [Act.put]
 go_cut [6,7] from 15 to 20 (fun v6 v7 wx => ∃ pv pe:Nat,v6 = .pointer (some ⟨pv,0,none⟩)∧v7 = .pointer (some ⟨pe,0,none⟩)∧Bx (CmpI w w1.heap.size pv pe wv ⟨sa,sb,sc,sd,se,sf,sg,sh⟩ ⟨sa,sb,sc,sd,se,sf,sg,sh⟩ wx))
 case first =>
  have hA:=zBN
  go_region_held3 (fun w'=>w'.cell? ⟨w.heap.size,0,none⟩=some (.int .u32 sa)∧w'.cell? ⟨w.heap.size,1,none⟩=some (.int .u32 sb)∧w'.cell? ⟨w.heap.size,2,none⟩=some (.int .u32 sc)∧w'.cell? ⟨w.heap.size,3,none⟩=some (.int .u32 sd)∧w'.cell? ⟨w.heap.size,4,none⟩=some (.int .u32 se)∧w'.cell? ⟨w.heap.size,5,none⟩=some (.int .u32 sf)∧w'.cell? ⟨w.heap.size,6,none⟩=some (.int .u32 sg)∧w'.cell? ⟨w.heap.size,7,none⟩=some (.int .u32 sh))
   (first | go_keep | (dsimp only;and_intros <;> assumption))
   (fail)
  all_goals
   go_wp2_with fail
   go_meet
   refine ⟨_,_,rfl,rfl,⟨⟨?_,?_,?_,?_,?_,?_,⟨hlt.out.1,?_,?_,?_⟩⟩⟩⟩
   · exact hB.trans ((((Below.refl W2.heap.size W2).alloc (Nat.le_refl _) _).alloc (by simp) _).drew.mono hB.size)
   · exact zE (zE ks)
   · exact zE (zE kr)
   · exact zE (zE kw)
   · first | exact zD _ _ _ (by simp) | exact zE (zD _ _ _ (by simp))
   · first | exact zD _ _ _ (by simp) | exact zE (zD _ _ _ (by simp))
   · have:=hlt.out.2;omega
   · have:=hlt.out.2;omega
   · omega
 case rest =>
 obtain ⟨pv,pe,rfl,rfl,HI⟩:=hcut;clear ks kr kw hB c0 c1 c2 c3 c4 c5 c6 c7;generalize wc=W3 at *;have hK3:Bx (W3.rangeAt 1 0 (kc.map (Value.int .u32))):=⟨fun j v hv=>cell_later HI.out.bel (HK.out j v hv)⟩;have hks:Bx ((kc.map (Value.int .u32)).length=64):=⟨by rw [List.length_map];exact hk⟩
 have H2:=Bx.mk (show ∀ cs:List Value,cs.length=64→(Tryz.prog.info? 188).map (·.size)=some cs.length from fun cs h=>by rw [h];kernel_rfl)
 generalize hkv:kc.map (Value.int .u32)=kv at *;have hkv:=Bx.mk hkv;go_upto_region 3 with fail
 go_wp2_with (first
  | refine wpList_load_mid rfl _ _ rfl 1 0 rfl kv _ hK3.out Tryz.underlying188 rfl (H2.out _ hks.out) ?_)
 go_loopw [22] (fun v22 wr => ∃ t:Nat,t≤64∧v22 = .int .i64 t∧Bx (CmpI w w1.heap.size pv pe wv ⟨sa,sb,sc,sd,se,sf,sg,sh⟩ (zLR kc (sch bs 64) t ⟨sa,sb,sc,sd,se,sf,sg,sh⟩) wr)) (fun i _=>64 - (intOf i).toNat)
 case atStart=>exact ⟨0,Nat.zero_le _,rfl,HI⟩
 case round =>
  clear HI;obtain ⟨t,ht,rfl,HI⟩:=hrel;by_cases hlt:t<64
  · have t0:decide ((t:Int)<64)=true:=by simp;omega
    obtain ⟨kx,hkx⟩ : ∃ x,kc[t]? = some x:=⟨_,List.getElem?_eq_getElem (by omega)⟩
    have hix : ∀ W:World,(Instr.index 188 (.agg kv.toArray) (.int .i64 (t:Int))).run Tryz.prog W = .ok (.int .u32 kx) W:=fun W=>by rw [←hkv.out];exact idx64 kc t kx hlt hkx W
    have hnx:Bx (zLR kc (sch bs 64) (t+1) ⟨sa,sb,sc,sd,se,sf,sg,sh⟩=rnd (kc.getD t 0) ((sch bs 64).getD t 0) (zLR kc (sch bs 64) t ⟨sa,sb,sc,sd,se,sf,sg,sh⟩)):=⟨rfl⟩;obtain ⟨wt,hwt⟩ : ∃ x,(sch bs 64)[t]? = some x:=⟨_,List.getElem?_eq_getElem (by rw [zu];omega)⟩
    rw [show kc.getD t 0=kx by rw [List.getD_eq_getElem?_getD,hkx];rfl,show (sch bs 64).getD t 0=wt by rw [List.getD_eq_getElem?_getD,hwt];rfl] at hnx
    generalize hV1:zLR kc (sch bs 64) (t+1) ⟨sa,sb,sc,sd,se,sf,sg,sh⟩=V1 at *;replace hV1:=Bx.mk hV1;generalize zLR kc (sch bs 64) t ⟨sa,sb,sc,sd,se,sf,sg,sh⟩=V0 at *;obtain ⟨a0,a1,a2,a3,e0,e1,e2,e3⟩:=V0;have hwc:wv[t]? = some (.int .u32 wt):=by rw [←hv.out,List.getElem?_toArray,List.getElem?_map,hwt];rfl
    obtain ⟨d0,d1,d2,d3⟩:=HI.out.ke.r4;have d4 : ∀ dk osk,(grow (redrawn wr dk) osk).cell? ⟨w1.heap.size,t,none⟩=some (.int .u32 wt):=cell_regrown (HI.out.kw.cell t hwc);have q0:(0:Int)≤(t:Int):=by omega
    have q1:(t:Int)<64:=by omega
    have m1:=Bx.mk (show ∀ W,Calls Tryz.prog 179 #[.int .u32 e0,(6:Int),(11:Int),(25:Int)] W fun e w'=>e = .returned (.int .u32 (zHx e0 6 11 25))∧Below W.heap.size W w' from fun W=>zH3 e0 6 11 25 (by decide) (by decide) (by decide) W)
    generalize hmx:zHx e0 6 11 25=mx at *;replace hmx:=Bx.mk hmx;have m2:=Bx.mk fun dk osk=>Calls.regrown_of (m1.out (grow (redrawn wr dk) osk));clear hwt hwc hkx;go_upto_region 6 with fail;refine wp_region_quiet_below (by kernel_rfl) (by kernel_rfl) ?_
    repeat (first | go_big_quiet_step (exact m2.out _ _) | quiet_step (exact m2.out _ _))
    refine wpQuiet_nil ?_;rintro _ ⟨⟨dq,osq⟩,rfl⟩;generalize hX:((((e3+mx+bits .xor .u32 (bits .and .u32 e0 e1) (bits .and .u32 (bits .xor .u32 (if IntKind.u32.signed=true then -1 else IntKind.u32.max) e0) e2)+kx) % 4294967296+wt) % 4294967296):Int)=X
    have hX2:Bx (X=W8.x ⟨a0,a1,a2,a3,e0,e1,e2,e3⟩ kx wt):=⟨by
     rw [←hX];unfold W8.x chf;dsimp only;rw [hmx.out,show (if IntKind.u32.signed=true then (-1:Int) else IntKind.u32.max)=4294967295 from rfl];generalize bits .xor .u32 _ _=z;omega⟩
    clear hX;have HI2:=Bx.mk (HI.out.later (below_regrown wr dq osq));clear HI d0 d1 d2 d3 d4 m1 m2;generalize grow (redrawn wr dq) osq=w5 at *;obtain ⟨d0,d1,d2⟩:=HI2.out.kv.r3;have m1:=Bx.mk (show ∀ W,Calls Tryz.prog 179 #[.int .u32 a0,(2:Int),(13:Int),(22:Int)] W fun e w'=>e = .returned (.int .u32 (zHx a0 2 13 22))∧Below W.heap.size W w' from fun W=>zH3 a0 2 13 22 (by decide) (by decide) (by decide) W)
    generalize hmy:zHx a0 2 13 22=my at *;replace hmy:=Bx.mk hmy;have m2:=Bx.mk fun dk osk=>Calls.regrown_of (m1.out (grow (redrawn w5 dk) osk));go_wp2_with fail;refine wp_region_quiet_below (by kernel_rfl) (by kernel_rfl) ?_
    repeat (first | go_big_quiet_step (exact m2.out _ _) | quiet_step (exact m2.out _ _))
    refine wpQuiet_nil ?_;rintro _ ⟨⟨dq,osq⟩,rfl⟩;generalize hY:((my+bits .xor .u32 (bits .xor .u32 (bits .and .u32 a0 a1) (bits .and .u32 a0 a2)) (bits .and .u32 a1 a2)) % 4294967296:Int)=Y
    have hY2:Bx (Y=W8.y ⟨a0,a1,a2,a3,e0,e1,e2,e3⟩):=⟨by
     rw [←hY];unfold W8.y maj;dsimp only;rw [hmy.out]⟩
    clear hY;have HI3:=Bx.mk (HI2.out.later (below_regrown w5 dq osq));clear HI2 d0 d1 d2 m1 m2;generalize grow (redrawn w5 dq) osq=w6 at *;obtain ⟨k0,k1,k2,k3⟩:=HI3.out.kv.c4;obtain ⟨l0,l1,l2,l3⟩:=HI3.out.ke.c4;obtain ⟨f0,f1,f2,f3⟩:=HI3.out.ke.f4;go_upto_region 9 with fail;generalize hW:World.setCell (World.setCell (World.setCell (World.setCell w6 _ _) _ _) _ _) _ _=w7;have HI4:Bx (CmpI w w1.heap.size pv pe wv ⟨sa,sb,sc,sd,se,sf,sg,sh⟩ ⟨a0,a1,a2,a3,(a3+X) % 4294967296,e0,e1,e2⟩ w7):=by rw [←hW];exact ⟨HI3.out.setE _ _ _ _⟩
    clear hW k0 k1 k2 k3 l0 l1 l2 l3 f0 f1 f2 f3 HI3;obtain ⟨k0,k1,k2,k3⟩:=HI4.out.kv.c4;obtain ⟨f0,f1,f2,f3⟩:=HI4.out.kv.f4;go_upto_region 10 with fail;generalize hW:World.setCell (World.setCell (World.setCell (World.setCell w7 _ _) _ _) _ _) _ _=w8;have HI5:Bx (CmpI w w1.heap.size pv pe wv ⟨sa,sb,sc,sd,se,sf,sg,sh⟩ ⟨(X+Y) % 4294967296,a0,a1,a2,(a3+X) % 4294967296,e0,e1,e2⟩ w8):=by rw [←hW];exact ⟨HI4.out.setV _ _ _ _⟩
    clear hW k0 k1 k2 k3 f0 f1 f2 f3 HI4;have HI6:Bx (CmpI w w1.heap.size pv pe wv ⟨sa,sb,sc,sd,se,sf,sg,sh⟩ V1 w8):=by rw [hnx.out];unfold rnd;rw [←hX2.out,←hY2.out];exact HI5
    clear HI5 hnx hX2 hY2;go_wp2_with fail
    go_roundw
    case rel=>exact ⟨t+1,by omega,by go_num,by rw [hV1.out];exact HI6⟩
    case measure=>simp [intOf];omega
  · have t0:decide ((t:Int)<64)=false:=by simp;omega
    obtain rfl:t=64:=by omega
    have hcm:Bx ((zCl kc bs ⟨sa,sb,sc,sd,se,sf,sg,sh⟩).list=zAx (W8.list ⟨sa,sb,sc,sd,se,sf,sg,sh⟩) (zLR kc (sch bs 64) 64 ⟨sa,sb,sc,sd,se,sf,sg,sh⟩).list 4):=⟨zJq _ _⟩;generalize hR:zCl kc bs ⟨sa,sb,sc,sd,se,sf,sg,sh⟩=R at *;generalize zLR kc (sch bs 64) 64 ⟨sa,sb,sc,sd,se,sf,sg,sh⟩=V at *
    have HE:Bx (EndI w pv pe (zAx (W8.list ⟨sa,sb,sc,sd,se,sf,sg,sh⟩) V.list 0) V wr):=by
     rw [zA1];exact ⟨⟨HI.out.bel,HI.out.ks,HI.out.kr,HI.out.kv,HI.out.ke,by have:=HI.out.ap;omega⟩⟩
    replace hR:=Bx.mk hR;clear HI;generalize hsl:W8.list ⟨sa,sb,sc,sd,se,sf,sg,sh⟩=sl at *;have hs8:sl.length=8:=by rw [←hsl];rfl
    replace hsl:=Bx.mk hsl;replace hs8:=Bx.mk hs8;go_wp2_with fail
    go_loopw [94] (fun v94 wr => ∃ i:Nat,i≤4∧v94 = .int .i64 i∧Bx (EndI w pv pe (zAx sl V.list i) V wr)) (fun i _=>4 - (intOf i).toNat)
    case atStart=>exact ⟨0,Nat.zero_le _,rfl,HE⟩
    case round =>
     clear HE;obtain ⟨i,hi,rfl,HE⟩:=hrel;by_cases hlt4:i<4
     · have t0:decide ((i:Int)<4)=true:=by simp;omega
       obtain ⟨x,hx⟩ : ∃ x,sl[i]? = some x:=⟨_,List.getElem?_eq_getElem (by have:=hs8.out;omega)⟩
       obtain ⟨y,hy⟩ : ∃ y,sl[i+4]? = some y:=⟨_,List.getElem?_eq_getElem (by have:=hs8.out;omega)⟩
       obtain ⟨vi,ei,hv1,hv2,hv3,hv4⟩:=w8_at V hlt4;have hsc:=Bx.mk (zA0 (vl:=V.list) hs8.out hlt4 hx hy);rw [hv3,hv4] at hsc;have hax:(zAx sl V.list i)[i]? = some x:=by rw [zAy hx,if_neg (by omega)]
       have hay:Bx (((zAx sl V.list i).set i ((x+vi) % 4294967296))[i+4]? = some y):=⟨by rw [List.getElem?_set,if_neg (by omega),zAy hy,if_neg (by omega)]⟩
       have d0 : ∀ dk osk,(grow (redrawn wr dk) osk).cell? ⟨w.heap.size,i,none⟩=some (.int .u32 x):=cell_regrown (HE.out.ks.cell hax);have d1 : ∀ dk osk,(grow (redrawn wr dk) osk).cell? ⟨pv,i,none⟩=some (.int .u32 vi):=cell_regrown (HE.out.kv.cell hv1);have q0:(0:Int)≤(i:Int):=by omega
       have q1:(i:Int)<4:=by omega
       have q2:(i:Int)<8:=by omega
       have hv2:=Bx.mk hv2;have hax:=Bx.mk hax;clear hx hy hv1 hv3 hv4;go_upto_region 14 with fail;refine zAM 8 (by kernel_rfl) (by kernel_rfl) ?_
       simp only [List.take_succ_cons,List.take_zero,List.drop_succ_cons,List.drop_zero]
       repeat (first | go_big_quiet_step (fail) | quiet_step (fail))
       refine wpQuiet_nil ?_;rintro _ ⟨⟨dq,osq⟩,rfl⟩;have HE2:=Bx.mk (HE.out.later (below_regrown wr dq osq));clear d0 d1 HE;generalize grow (redrawn wr dq) osq=w5 at *;have cw:=HE2.out.ks.cell hax.out;have fw:=HE2.out.ks.frozen i;have HE3:=Bx.mk (HE2.out.put i ((x+vi) % 4294967296));clear HE2;go_upto_region 15 with fail;generalize World.setCell w5 _ _=w6 at *;clear cw fw;have d0 : ∀ dk osk,(grow (redrawn w6 dk) osk).cell? ⟨w.heap.size,i+4,none⟩=some (.int .u32 y):=cell_regrown (HE3.out.ks.cell hay.out);have d1 : ∀ dk osk,(grow (redrawn w6 dk) osk).cell? ⟨pe,i,none⟩=some (.int .u32 ei):=cell_regrown (HE3.out.ke.cell hv2.out);have e1:IntKind.i64.wrap ((i:Int)+4)=((i+4:Nat):Int):=by rw [IntWalk.i64_in _ (by omega)];omega
       have q3:(0:Int)≤((i+4:Nat):Int):=by omega
       have q4:((i+4:Nat):Int)<8:=by omega
       refine zAM 9 (by kernel_rfl) (by kernel_rfl) ?_
       simp only [List.take_succ_cons,List.take_zero,List.drop_succ_cons,List.drop_zero]
       repeat (first | go_big_quiet_step (fail) | quiet_step (fail))
       refine wpQuiet_nil ?_;rintro _ ⟨⟨dq,osq⟩,rfl⟩;have HE4:=Bx.mk (HE3.out.later (below_regrown w6 dq osq));clear d0 d1 HE3 e1;generalize grow (redrawn w6 dq) osq=w7 at *;have cw:=HE4.out.ks.cell hay.out;have fw:=HE4.out.ks.frozen (i+4);have HE5:=Bx.mk (HE4.out.put (i+4) ((y+ei) % 4294967296));rw [←hsc.out] at HE5;clear HE4 hsc;go_wp2_with fail
       go_roundw
       case rel=>exact ⟨i+1,by omega,by go_num,HE5⟩
       case measure=>simp [intOf];omega
     · have t0:decide ((i:Int)<4)=false:=by simp;omega
       obtain rfl:i=4:=by omega
       rw [←hcm.out] at HE;have h8:Bx (R.list.length=8):=⟨by rw [hcm.out,zAz];exact hs8.out⟩
       clear hcm;generalize hRl:R.list=l at *;replace hRl:=Bx.mk hRl;have hsz:(((l).map (Value.int .u32)).toArray).size=8:=by rw [List.size_toArray,List.length_map];exact h8.out
       have hkr:=Bx.mk (show Bl wr (w.heap.size+1) .u32 (List.replicate 8 0) 155 from HE.out.kr);have hs2:(((List.replicate 8 (0:Int)).map (Value.int .u32)).toArray).size=((l.map (Value.int .u32)).toArray).size:=by rw [hsz];rfl
       have H1:=Bx.mk (show ∀ cs:Array Value,cs.size=8→(Tryz.prog.info? 155).map (·.size)=some cs.size from fun cs h=>by rw [h];kernel_rfl)
       have hkw:=Bx.mk HE.out.ks;have hsz:=Bx.mk hsz;have hs2:=Bx.mk hs2;go_upto_region 17 with fail
       go_wp2_with (first
        | refine zAI rfl _ _ rfl w.heap.size rfl _ _ hkw.out _ Tryz.underlying155 rfl (H1.out _ hsz.out) ?_
        | refine zAJ rfl _ _ _ rfl (w.heap.size+1) rfl _ _ rfl _ hkr.out (H1.out _ hsz.out) hs2.out (zl _ _) ?_)
       refine bodyPost_ret (v:=zBP .u32 l) (results_cell_row rfl _ _ (w.heap.size+1) 155 _ (0,0) _ rfl (hkr.out.whole _) Tryz.underlying155 rfl (H1.out _ hsz.out)) rfl ⟨by rw [hR.out,hRl.out],below_setRow HE.out.bel (by omega) _⟩
end Go.Proofs.YtgnfgblkpnfcnaaGreatDoor
end
