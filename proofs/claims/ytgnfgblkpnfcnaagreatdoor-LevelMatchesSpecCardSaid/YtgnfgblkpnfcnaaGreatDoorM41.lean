/- Rsm: joined by program, for one claim. -/
import Derived.Test.YtgnfgblkpnfcnaaGreatDoorM39
import Derived.Test.YtgnfgblkpnfcnaaGreatDoorM40
set_option maxHeartbeats 1000000
set_option maxRecDepth 100000
set_option linter.unusedVariables false
set_option linter.unusedSimpArgs false
section
namespace Go.Proofs.YtgnfgblkpnfcnaaGreatDoor
open Go.RowKit Go.Sort
theorem Sl.other' {w:World} {k:IntKind} {g o:Nat} {xs:List Int} (h:Sl w k (some ⟨g,o,none⟩) xs) (a:Addr) (v:Value) (hne:a.block ≠ g):Sl (w.setCell a v) k (some ⟨g,o,none⟩) xs:=by
 intro i x hx;obtain ⟨b,off,e,hc⟩:=h i x hx;refine ⟨b,off,e,?_⟩;injection e with e;injection e with e1 e2 _
 rw [World.cell?_setCell_other w _ _ _ (fun he=>by
  have:a.block=b:=congrArg Addr.block he;omega)]
 exact hc
theorem Own.atc {w:World} {B:Nat} {e:TypeId} {k:IntKind} {v:Value} {xs:List Int} (h:Own w B e k v xs) (hne:0<xs.length) :
 ∃ g cap,v = .slice (some ⟨g,0,none⟩) xs.length cap∧B≤g∧g<w.heap.size∧Sl w k (some ⟨g,0,none⟩) xs∧xs.length≤cap∧cap≤maxLen:=by
 obtain ⟨a,cap,rfl,hsl⟩:=h.form;rcases h.2 with ⟨hv,hn⟩ | ⟨g,cap',cur,hv,hb,hg,h1,h2,-⟩
 · omega
 · injection hv with e1 e2 e3;subst e1 e3;exact ⟨g,cap,rfl,hb,(Array.getElem?_eq_some_iff.1 hg).1,hsl,h1,h2⟩
structure RsI (w:World) (g:Nat) (P:List Int) (s:List Int) (wr:World):Prop where
 bel:Below w.heap.size w wr
 kr:Bl wr w.heap.size .u8 z32 162
 ks:Bl wr (w.heap.size+1) .u32 s 155
 km:Sl wr .u8 (some ⟨g,0,none⟩) P
 gl:w.heap.size+1<g∧g<wr.heap.size
section
variable {w wr w':World} {g:Nat} {P s:List Int}
theorem RsI.later (h:RsI w g P s wr) (hb:Below wr.heap.size wr w'):RsI w g P s w':=⟨h.bel.trans (hb.mono h.bel.size),h.kr.later hb,h.ks.later hb,h.km.below hb,h.gl.1,Nat.lt_of_lt_of_le h.gl.2 hb.size⟩
theorem RsI.other (h:RsI w g P s wr) (a:Addr) (v:Value) (ha:g<a.block):RsI w g P s (wr.setCell a v):=by
 have:=h.gl;exact ⟨h.bel.setCell (by omega) _,h.kr.other _ _ (by omega),h.ks.other _ _ (by omega),h.km.other' _ _ (by omega),h.gl.1,by simpa [World.setCell] using h.gl.2⟩
theorem RsI.put (h:RsI w g P s wr) (j:Nat) (x:Int):RsI w g P (s.set j x) (wr.setCell ⟨w.heap.size+1,j,none⟩ (.int .u32 x)):=by
 have:=h.gl;exact ⟨h.bel.setCell (by show w.heap.size≤w.heap.size+1;omega) _,h.kr.other _ _ (by show w.heap.size ≠ w.heap.size+1;omega),h.ks.put j x,h.km.other' _ _ (by show w.heap.size+1 ≠ g;omega),h.gl.1,by simpa [World.setCell] using h.gl.2⟩
end
structure RtI (w:World) (g bw pv:Nat) (P s:List Int) (wv:Array Value) (v:W8) (wr:World):Prop where
 rs:RsI w g P s wr
 kw:Bk wr bw wv 188
 kv:Bl wr pv .u32 v.list 155
 ap:g<bw∧bw<pv
section
variable {w wr w':World} {g bw pv:Nat} {P s:List Int} {wv:Array Value} {v:W8}
theorem RtI.later (h:RtI w g bw pv P s wv v wr) (hb:Below wr.heap.size wr w'):RtI w g bw pv P s wv v w':=⟨h.rs.later hb,h.kw.later hb,h.kv.later hb,h.ap⟩
theorem RtI.setV (h:RtI w g bw pv P s wv v wr) (v':W8):RtI w g bw pv P s wv v' ((((((((wr.setCell ⟨pv,0,none⟩ (.int .u32 v'.a)).setCell ⟨pv,1,none⟩ (.int .u32 v'.b)).setCell ⟨pv,2,none⟩ (.int .u32 v'.c)).setCell ⟨pv,3,none⟩ (.int .u32 v'.d)).setCell ⟨pv,4,none⟩ (.int .u32 v'.e)).setCell ⟨pv,5,none⟩ (.int .u32 v'.f)).setCell ⟨pv,6,none⟩ (.int .u32 v'.g)).setCell ⟨pv,7,none⟩ (.int .u32 v'.h)):=by
 have ha:=h.ap;have hp : ∀ i,g<(⟨pv,i,none⟩:Addr).block:=fun i=>by show g<pv;omega
 have hw : ∀ i,bw ≠ (⟨pv,i,none⟩:Addr).block:=fun i=>by show bw ≠ pv;omega
 refine ⟨(((((((h.rs.other _ _ (hp _)).other _ _ (hp _)).other _ _ (hp _)).other _ _ (hp _)).other _ _ (hp _)).other _ _ (hp _)).other _ _ (hp _)).other _ _ (hp _),
  (((((((h.kw.other _ _ (hw _)).other _ _ (hw _)).other _ _ (hw _)).other _ _ (hw _)).other _ _ (hw _)).other _ _ (hw _)).other _ _ (hw _)).other _ _ (hw _),?_,ha⟩
 exact (((((((h.kv.put 0 v'.a).put 1 v'.b).put 2 v'.c).put 3 v'.d).put 4 v'.e).put 5 v'.f).put 6 v'.g).put 7 v'.h
end
theorem RtI.put {w wr:World} {g bw pv:Nat} {P s:List Int} {wv:Array Value} {v:W8} (h:RtI w g bw pv P s wv v wr) (j:Nat) (x:Int):RtI w g bw pv P (s.set j x) wv v (wr.setCell ⟨w.heap.size+1,j,none⟩ (.int .u32 x)):=by
 have ha:=h.ap;have hg:=h.rs.gl;exact ⟨h.rs.put j x,h.kw.other _ _ (by show bw ≠ w.heap.size+1;omega),h.kv.other _ _ (by show pv ≠ w.heap.size+1;omega),ha⟩
theorem zBd (k:IntKind) (x y:Int):bits .xor k x y=bits .xor k y x:=by
 unfold bits;simp only [BitVec.xor_comm]
def zAj (sl vl:List Int) (i:Nat):List Int:=sl.mapIdx fun j x=>if j<i then (x+vl.getD j 0) % 4294967296 else x
theorem zJr (s v:W8):(s.plus v).list=zAj s.list v.list 8:=by
 obtain ⟨a,b,c,d,e,f,g,h⟩:=s;obtain ⟨a',b',c',d',e',f',g',h'⟩:=v;simp [W8.plus,W8.list,zAj,List.mapIdx_cons]
theorem zAm (sl vl:List Int):zAj sl vl 0=sl:=by
 unfold zAj;apply List.ext_getElem?;intro j;rw [List.getElem?_mapIdx];cases sl[j]? <;> simp
theorem zAk {sl:List Int} {j:Nat} {x:Int} (h:sl[j]? = some x) (vl:List Int) (i:Nat):(zAj sl vl i)[j]? = some (if j<i then (x+vl.getD j 0) % 4294967296 else x):=by
 unfold zAj;rw [List.getElem?_mapIdx,h];rfl
theorem zAl {sl:List Int} (vl:List Int) {i:Nat} {x:Int} (hx:sl[i]? = some x):zAj sl vl (i+1)=(zAj sl vl i).set i ((x+vl.getD i 0) % 4294967296):=by
 have hi:=(List.getElem?_eq_some_iff.1 hx).1;have hl:(zAj sl vl i).length=sl.length:=by unfold zAj;rw [List.length_mapIdx]
 apply List.ext_getElem?;intro j;rw [List.getElem?_set,hl];cases hz:sl[j]? with
 | none =>
   have:=List.getElem?_eq_none_iff.1 hz;rw [if_neg (by omega)]
   unfold zAj;rw [List.getElem?_mapIdx,List.getElem?_mapIdx,hz];rfl
 | some z =>
   rw [zAk hz,zAk hz];by_cases e:i=j
   · subst e;rw [hx] at hz;injection hz with hz;subst hz;rw [if_pos rfl,if_pos (by omega),if_pos hi]
   · rw [if_neg e];by_cases e3:j<i
     · rw [if_pos e3,if_pos (by omega)]
     · rw [if_neg e3,if_neg (by omega)]
structure Out2 (w:World) (o:Nat) (s:W8) (i:Nat) (wr:World):Prop where
 bel:Below w.heap.size w wr
 ks:Bl wr (w.heap.size+1) .u32 s.list 155
 kr:Bl wr w.heap.size .u8 z32 162
 ko:Bl wr o .u8 ((List.range i).map (zI4 s)++List.replicate (32 - i) 0) 162
 ap:w.heap.size+1<o
theorem Out2.put {w wr:World} {o:Nat} {s:W8} {i:Nat} (h:Out2 w o s i wr) (hi:i<32):Out2 w o s (i+1) (wr.setCell ⟨o,i,none⟩ (.int .u8 (zI4 s i))):=by
 have ha:=h.ap;refine ⟨h.bel.setCell (by show w.heap.size≤o;omega) _,h.ks.other _ _ (by show w.heap.size+1 ≠ o;omega),h.kr.other _ _ (by show w.heap.size ≠ o;omega),?_,ha⟩
 have:=h.ko.put i (zI4 s i);rw [show 32 - i=(32 - (i+1))+1 by omega,List.replicate_succ,List.set_append_right _ _ (by rw [List.length_map,List.length_range];omega),List.length_map,List.length_range,Nat.sub_self,List.set_cons_zero] at this
 rw [List.range_succ,List.map_append,List.append_assoc];exact this
theorem Out2.at_ {w wr:World} {o:Nat} {s:W8} {i:Nat} (h:Out2 w o s i wr) (hi:i<32):wr.cell? ⟨o,i,none⟩=some (.int .u8 0) :=
 h.ko.cell (by rw [List.getElem?_append_right (by rw [List.length_map,List.length_range];omega),List.length_map,List.length_range,Nat.sub_self,show 32 - i=(32 - (i+1))+1 by omega,List.replicate_succ];rfl)
theorem zLU (x:Int) (n:Nat) (hn:0<n∧n<32) (W:World):Calls Tryz.prog 174 #[.int .u32 x,(n:Int)] W fun e w'=>e = .returned (.int .u32 (rot x n))∧Below W.heap.size W w':=zLT x n hn W
theorem zK9 (kc m:List Int) (hk:kc.length=64) (hm:m.length≤500000000) (hb:Byt m) (a:Option Addr) (cap:Nat) (w:World) (hs:Sl w .u8 a m) (hK:zAX w 0 kc) :
 Calls Tryz.prog 142 #[.slice a m.length cap] w (zAd w kc m):=by
 have hs:=Bx.mk hs;have hK:=Bx.mk hK;have hpp:=Bx.mk fun (W:World) (hW:Sl W .u8 a m)=>zJI m hm a cap W hW;have hbp:Bx (Byt (m++pad m.length)):=⟨hb.append (zB0 _)⟩;have hwh:=Bx.mk (zJJ m);have hsm:Bx (∀ q,64 * q≤(m++pad m.length).length→True):=⟨fun _ _=>trivial⟩;have hsha:Bx (sha kc m=out (zCe kc (m++pad m.length) ((m++pad m.length).length / 64))):=⟨rfl⟩;have hPl:(m++pad m.length).length≤600000000:=by rw [List.length_append,zJH];unfold zJK;omega
 have hPl2:0<(m++pad m.length).length:=by rw [List.length_append,zJH];omega
 generalize hn:m.length=n at *;have hn:=Bx.mk hn;generalize hPd:m++pad n=P at *;have hPd:=Bx.mk hPd;generalize hPn:P.length=pn at *;have hPn:=Bx.mk hPn;go_enter Tryz.func142,Tryz.ntmps142;go_upto_region 2 with fail;generalize hW:World.alloc (World.alloc w _) _=W
 have HJ:Bx (Below w.heap.size w W∧Bl W w.heap.size .u8 z32 162∧Bl W (w.heap.size+1) .u32 iv.list 155):=by
  rw [←hW];exact ⟨⟨((Below.refl _ _).alloc (Nat.le_refl _) _).alloc (by simp) _,(zE (zD _ _ _ (by simp)):Bk _ _ _ _),(zD _ _ _ (by simp):Bk _ _ _ _)⟩⟩
 clear hW;go_upto_region 3 with (go_at_call 172;refine (hpp.out _ (hs.out.below HJ.out.1)).mono ?_;rintro _ w2 ⟨v2,rfl,hp2⟩)
 have hv2 : ∃ g c,v2 = .slice (some ⟨g,0,none⟩) pn c∧W.heap.size≤g∧g<w2.heap.size∧Sl w2 .u8 (some ⟨g,0,none⟩) P∧pn≤c∧c≤9223372036854775807:=by
  have ho:=hp2.own;rw [hn.out,hPd.out] at ho;obtain ⟨g,c,h1,h2,h3,h4,h5,h6⟩:=ho.atc (by rw [hPn.out];exact hPl2)
  rw [hPn.out] at h1 h5;exact ⟨g,c,h1,h2,h3,h4,h5,by unfold maxLen at h6;omega⟩
 obtain ⟨g,c4,rfl,hg1,hg2,hg3,hg4,hg5⟩:=hv2
 have HI:Bx (RsI w g P (zCe kc P 0).list w2):=by
  have hl:=HJ.out.2.2.lt;exact ⟨⟨HJ.out.1.trans (hp2.bel.mono HJ.out.1.size),HJ.out.2.1.later hp2.bel,HJ.out.2.2.later hp2.bel,hg3,by omega,hg2⟩⟩
 clear HJ hp2 hg1 hg2 hg3;go_wp2_with fail
 go_loopw [5] (fun v5 wr => ∃ q:Nat,64 * q≤pn∧v5 = .int .i64 ((64 * q:Nat):Int)∧Bx (RsI w g P (zCe kc P q).list wr)) (fun v5 _=>pn - (intOf v5).toNat)
 case atStart=>exact ⟨0,Nat.zero_le _,rfl,HI⟩
 case round =>
  clear HI;obtain ⟨q,hq,rfl,HI⟩:=hrel;by_cases hlt:64 * q<pn
  · have hq1:64 * (q+1)≤pn:=by have:=hwh.out;omega
    have hbl:Bx ((blk P q).length=64):=⟨zBg (by rw [hPn.out];exact hq1)⟩
    have hbb:Bx (Byt (blk P q)):=⟨(hbp.out.drop _).take _⟩;have hch:Bx (zCe kc P (q+1)=zCl kc (blk P q) (zCe kc P q)):=⟨rfl⟩
    have hsb:Bx (∀ W',RsI w g P (zCe kc P q).list W'→Sl W' .u8 (some ⟨g,64 * q,none⟩) (blk P q)):=⟨fun W' h i x hx=>by
     have h2:P[64 * q+i]? = some x:=by
      unfold blk at hx;rw [List.getElem?_take] at hx;split at hx
      · rw [List.getElem?_drop] at hx;exact hx
      · cases hx
     obtain ⟨b,o,e,hc⟩:=h.km _ _ h2;injection e with e;injection e with e1 e2 _;subst e1 e2;rw [Nat.zero_add] at hc;exact ⟨_,_,rfl,hc⟩⟩
    generalize blk P q=bs at *;generalize hC1:zCe kc P (q+1)=C1 at *;replace hC1:=Bx.mk hC1;generalize zCe kc P q=C0 at *;have t0:decide (64 * (q:Int)<(pn:Int))=true:=by simp;omega
    have q0:(0:Int)≤64 * (q:Int):=by omega
    have q1:64 * (q:Int)+64≤(pn:Int):=by omega
    have q2:(pn:Int)≤(c4:Int):=by omega
    have q3 : ¬c4=64 * q:=by omega
    go_upto_region 6 with fail;have hw:=zOC (some ⟨g,64 * q,none⟩) (c4 - 64 * q) bs hbl.out hbb.out wr (hsb.out wr HI.out);unfold zBP at hw;have hsz:Bx ((((sch bs 64).map (Value.int .u32)).toArray).size=64):=⟨by rw [List.size_toArray,List.length_map,zu]⟩
    have H1:=Bx.mk (show ∀ cs:Array Value,cs.size=64→(Tryz.prog.info? 188).map (·.size)=some cs.size from fun cs h=>by rw [h];kernel_rfl)
    generalize hv:((sch bs 64).map (Value.int .u32)).toArray=wv at *;have hone:Bx (wv.all (·.oneCell')=true):=⟨by rw [←hv];exact zl _ _⟩
    have hv:=Bx.mk hv;replace hw:=Bx.mk hw;go_wp2_with fail;refine hw.out.mono ?_;rintro _ w3 ⟨rfl,hb3⟩;have HI3:=Bx.mk (HI.out.later hb3);clear HI hw hb3 hsb hbl hbb;go_upto_region 7 with (refine zAJ rfl _ _ _ rfl w3.heap.size rfl _ _ rfl _ (heap_alloc_new _ _) (H1.out _ hsz.out) (by rw [hsz.out];rfl) hone.out ?_)
    simp only [Act.put];generalize hW:World.setRow (World.alloc w3 _) _ _=w4;have hb4:Below w3.heap.size w3 w4:=by rw [←hW];exact below_setRow ((Below.refl _ _).alloc (Nat.le_refl _) _) (Nat.le_refl _) _
    have hz4:w4.heap.size=w3.heap.size+1:=by rw [←hW];simp [World.setRow]
    have HI4:Bx (RsI w g P C0.list w4∧Bk w4 w3.heap.size wv 188∧w4.heap.size=w3.heap.size+1):=⟨HI3.out.later hb4,by rw [←hW];exact setRow_heap _ _ _ _ _ (0,0) (heap_alloc_new _ _),hz4⟩
    have hg3:Bx (g<w3.heap.size):=⟨HI3.out.gl.2⟩;clear hW hb4 hz4 HI3;obtain ⟨sa,sb,sc,sd,se,sf,sg,sh⟩:=C0;have c0:=HI4.out.1.ks.cell (i:=0) rfl;have c1:=HI4.out.1.ks.cell (i:=1) rfl;have c2:=HI4.out.1.ks.cell (i:=2) rfl;have c3:=HI4.out.1.ks.cell (i:=3) rfl;have c4':=HI4.out.1.ks.cell (i:=4) rfl;have c5:=HI4.out.1.ks.cell (i:=5) rfl;have c6:=HI4.out.1.ks.cell (i:=6) rfl;have c7:=HI4.out.1.ks.cell (i:=7) rfl;go_upto_region 8 with fail;generalize hW:World.alloc w4 _=w5;have hb5:=bl1 hW
    have HT:Bx (RtI w g w3.heap.size w4.heap.size P (W8.list ⟨sa,sb,sc,sd,se,sf,sg,sh⟩) wv (zLR kc (sch bs 64) 0 ⟨sa,sb,sc,sd,se,sf,sg,sh⟩) w5):=by
     refine ⟨⟨HI4.out.1.later hb5,HI4.out.2.1.later hb5,?_,hg3.out,by rw [HI4.out.2.2];omega⟩⟩
     rw [←hW];exact (zD _ _ _ rfl:Bk _ _ _ _)
    clear hW hb5 c0 c1 c2 c3 c4' c5 c6 c7 HI4 hg3;generalize w4.heap.size=pv at *;generalize w3.heap.size=bw at *;generalize hS0:W8.list ⟨sa,sb,sc,sd,se,sf,sg,sh⟩=sl at *;replace hS0:=Bx.mk hS0;go_wp2_with fail
    go_loopw [8] (fun v8 wr => ∃ t:Nat,t≤64∧v8 = .int .i64 t∧Bx (RtI w g bw pv P sl wv (zLR kc (sch bs 64) t ⟨sa,sb,sc,sd,se,sf,sg,sh⟩) wr)) (fun v8 _=>64 - (intOf v8).toNat)
    case atStart=>exact ⟨0,Nat.zero_le _,rfl,HT⟩
    case round =>
     clear HT;obtain ⟨t,ht,rfl,HT⟩:=hrel;by_cases hlt64:t<64
     · have t0:decide ((t:Int)<64)=true:=by simp;omega
       obtain ⟨kx,hkx⟩ : ∃ x,kc[t]? = some x:=⟨_,List.getElem?_eq_getElem (by omega)⟩
       have hnx:Bx (zLR kc (sch bs 64) (t+1) ⟨sa,sb,sc,sd,se,sf,sg,sh⟩=rnd (kc.getD t 0) ((sch bs 64).getD t 0) (zLR kc (sch bs 64) t ⟨sa,sb,sc,sd,se,sf,sg,sh⟩)):=⟨rfl⟩;obtain ⟨wt,hwt⟩ : ∃ x,(sch bs 64)[t]? = some x:=⟨_,List.getElem?_eq_getElem (by rw [zu];omega)⟩
       rw [show kc.getD t 0=kx by rw [List.getD_eq_getElem?_getD,hkx];rfl,show (sch bs 64).getD t 0=wt by rw [List.getD_eq_getElem?_getD,hwt];rfl] at hnx
       generalize hV1:zLR kc (sch bs 64) (t+1) ⟨sa,sb,sc,sd,se,sf,sg,sh⟩=V1 at *;replace hV1:=Bx.mk hV1;generalize zLR kc (sch bs 64) t ⟨sa,sb,sc,sd,se,sf,sg,sh⟩=V0 at *;obtain ⟨a0,a1,a2,a3,e0,e1,e2,e3⟩:=V0;have hwc:wv[t]? = some (.int .u32 wt):=by rw [←hv.out,List.getElem?_toArray,List.getElem?_map,hwt];rfl
       have hk1:wr.cell? ⟨0,t,none⟩=some (.int .u32 kx):=by
        have:=cell_later HT.out.rs.bel (hK.out t (.int .u32 kx) (by rw [List.getElem?_map,hkx];rfl))
        rwa [Nat.zero_add] at this
       have d3 : ∀ dk osk,(grow (redrawn wr dk) osk).cell? ⟨pv,7,none⟩=some (.int .u32 e3):=cell_regrown (HT.out.kv.cell (i:=7) rfl);have d0 : ∀ dk osk,(grow (redrawn wr dk) osk).cell? ⟨pv,4,none⟩=some (.int .u32 e0):=cell_regrown (HT.out.kv.cell (i:=4) rfl);have d1 : ∀ dk osk,(grow (redrawn wr dk) osk).cell? ⟨pv,5,none⟩=some (.int .u32 e1):=cell_regrown (HT.out.kv.cell (i:=5) rfl);have d2 : ∀ dk osk,(grow (redrawn wr dk) osk).cell? ⟨pv,6,none⟩=some (.int .u32 e2):=cell_regrown (HT.out.kv.cell (i:=6) rfl);have d4 : ∀ dk osk,(grow (redrawn wr dk) osk).cell? ⟨bw,t,none⟩=some (.int .u32 wt):=cell_regrown (HT.out.kw.cell t hwc);have d5 : ∀ dk osk,(grow (redrawn wr dk) osk).cell? ⟨0,t,none⟩=some (.int .u32 kx):=cell_regrown hk1;have q0:(0:Int)≤(t:Int):=by omega
       have q1:(t:Int)<64:=by omega
       have m1:=Bx.mk (show ∀ W,Calls Tryz.prog 174 #[.int .u32 e0,(6:Int)] W fun e w'=>e = .returned (.int .u32 (rot e0 6))∧Below W.heap.size W w' from fun W=>zLU e0 6 (by decide) W)
       have m2:=Bx.mk (show ∀ W,Calls Tryz.prog 174 #[.int .u32 e0,(11:Int)] W fun e w'=>e = .returned (.int .u32 (rot e0 11))∧Below W.heap.size W w' from fun W=>zLU e0 11 (by decide) W)
       have m3:=Bx.mk (show ∀ W,Calls Tryz.prog 174 #[.int .u32 e0,(25:Int)] W fun e w'=>e = .returned (.int .u32 (rot e0 25))∧Below W.heap.size W w' from fun W=>zLU e0 25 (by decide) W)
       have hmx:Bx (zHx e0 6 11 25=bits .xor .u32 (bits .xor .u32 (rot e0 6) (rot e0 11)) (rot e0 25)):=⟨rfl⟩;generalize rot e0 6=r1 at *;generalize rot e0 11=r2 at *;generalize rot e0 25=r3 at *;have n1:=Bx.mk fun dk osk=>Calls.regrown_of (m1.out (grow (redrawn wr dk) osk));have n2:=Bx.mk fun dk osk=>Calls.regrown_of (m2.out (grow (redrawn wr dk) osk));have n3:=Bx.mk fun dk osk=>Calls.regrown_of (m3.out (grow (redrawn wr dk) osk));clear hwt hwc hkx hk1;go_upto_region 11 with fail;refine wp_region_quiet_below (by kernel_rfl) (by kernel_rfl) ?_
       repeat (first | go_big_quiet_step ((first | with_reducible exact n1.out _ _ | with_reducible exact n2.out _ _ | with_reducible exact n3.out _ _)) | quiet_step (first | with_reducible exact n1.out _ _ | with_reducible exact n2.out _ _ | with_reducible exact n3.out _ _))
       refine wpQuiet_nil ?_;rintro _ ⟨⟨dq,osq⟩,rfl⟩;generalize hX:((((e3+bits .xor .u32 (bits .xor .u32 r1 r2) r3+bits .xor .u32 (bits .and .u32 e0 e1) (bits .and .u32 (bits .xor .u32 e0 4294967295) e2)+kx) % 4294967296+wt) % 4294967296):Int)=X
       have hX2:Bx (X=W8.x ⟨a0,a1,a2,a3,e0,e1,e2,e3⟩ kx wt):=⟨by
        rw [←hX];unfold W8.x chf;dsimp only;rw [hmx.out,zBd .u32 e0 4294967295];generalize bits .xor .u32 (bits .and .u32 e0 e1) _=z;omega⟩
       clear hX;have HT2:=Bx.mk (HT.out.later (below_regrown wr dq osq));clear HT d0 d1 d2 d3 d4 d5 m1 m2 m3 n1 n2 n3 hmx;generalize grow (redrawn wr dq) osq=w6 at *;have d0 : ∀ dk osk,(grow (redrawn w6 dk) osk).cell? ⟨pv,0,none⟩=some (.int .u32 a0):=cell_regrown (HT2.out.kv.cell (i:=0) rfl);have d1 : ∀ dk osk,(grow (redrawn w6 dk) osk).cell? ⟨pv,1,none⟩=some (.int .u32 a1):=cell_regrown (HT2.out.kv.cell (i:=1) rfl);have d2 : ∀ dk osk,(grow (redrawn w6 dk) osk).cell? ⟨pv,2,none⟩=some (.int .u32 a2):=cell_regrown (HT2.out.kv.cell (i:=2) rfl);have m1:=Bx.mk (show ∀ W,Calls Tryz.prog 174 #[.int .u32 a0,(2:Int)] W fun e w'=>e = .returned (.int .u32 (rot a0 2))∧Below W.heap.size W w' from fun W=>zLU a0 2 (by decide) W)
       have m2:=Bx.mk (show ∀ W,Calls Tryz.prog 174 #[.int .u32 a0,(13:Int)] W fun e w'=>e = .returned (.int .u32 (rot a0 13))∧Below W.heap.size W w' from fun W=>zLU a0 13 (by decide) W)
       have m3:=Bx.mk (show ∀ W,Calls Tryz.prog 174 #[.int .u32 a0,(22:Int)] W fun e w'=>e = .returned (.int .u32 (rot a0 22))∧Below W.heap.size W w' from fun W=>zLU a0 22 (by decide) W)
       have hmx:Bx (zHx a0 2 13 22=bits .xor .u32 (bits .xor .u32 (rot a0 2) (rot a0 13)) (rot a0 22)):=⟨rfl⟩;generalize rot a0 2=r1 at *;generalize rot a0 13=r2 at *;generalize rot a0 22=r3 at *;have n1:=Bx.mk fun dk osk=>Calls.regrown_of (m1.out (grow (redrawn w6 dk) osk));have n2:=Bx.mk fun dk osk=>Calls.regrown_of (m2.out (grow (redrawn w6 dk) osk));have n3:=Bx.mk fun dk osk=>Calls.regrown_of (m3.out (grow (redrawn w6 dk) osk));go_wp2_with fail;refine wp_region_quiet_below (by kernel_rfl) (by kernel_rfl) ?_
       repeat (first | go_big_quiet_step ((first | with_reducible exact n1.out _ _ | with_reducible exact n2.out _ _ | with_reducible exact n3.out _ _)) | quiet_step (first | with_reducible exact n1.out _ _ | with_reducible exact n2.out _ _ | with_reducible exact n3.out _ _))
       refine wpQuiet_nil ?_;rintro _ ⟨⟨dq,osq⟩,rfl⟩;generalize hY:((bits .xor .u32 (bits .xor .u32 r1 r2) r3+bits .xor .u32 (bits .xor .u32 (bits .and .u32 a0 a1) (bits .and .u32 a0 a2)) (bits .and .u32 a1 a2)) % 4294967296:Int)=Y
       have hY2:Bx (Y=W8.y ⟨a0,a1,a2,a3,e0,e1,e2,e3⟩):=⟨by
        rw [←hY];unfold W8.y maj;dsimp only;rw [hmx.out]⟩
       clear hY;have HT3:=Bx.mk (HT2.out.later (below_regrown w6 dq osq));clear HT2 d0 d1 d2 m1 m2 m3 n1 n2 n3 hmx;generalize grow (redrawn w6 dq) osq=w7 at *;have l0:=HT3.out.kv.cell (i:=0) rfl;have l1:=HT3.out.kv.cell (i:=1) rfl;have l2:=HT3.out.kv.cell (i:=2) rfl;have l3:=HT3.out.kv.cell (i:=3) rfl;have l4:=HT3.out.kv.cell (i:=4) rfl;have l5:=HT3.out.kv.cell (i:=5) rfl;have l6:=HT3.out.kv.cell (i:=6) rfl;have l7:=HT3.out.kv.cell (i:=7) rfl;obtain ⟨f0,f1,f2,f3,f4,f5,f6,f7⟩:=HT3.out.kv.f8;go_upto_region 10 with fail;generalize hW:World.setCell (World.setCell (World.setCell (World.setCell (World.setCell (World.setCell (World.setCell (World.setCell w7 _ _) _ _) _ _) _ _) _ _) _ _) _ _) _ _=w8;have HT4:Bx (RtI w g bw pv P sl wv V1 w8):=by rw [hnx.out];unfold rnd;rw [←hX2.out,←hY2.out,←hW];exact ⟨HT3.out.setV _⟩
       clear hW l0 l1 l2 l3 l4 l5 l6 l7 f0 f1 f2 f3 f4 f5 f6 f7 HT3 hnx hX2 hY2;go_wp2_with fail
       go_roundw
       case rel=>exact ⟨t+1,by omega,by go_num,by rw [hV1.out];exact HT4⟩
       case measure=>simp [intOf];omega
     · have t0:decide ((t:Int)<64)=false:=by simp;omega
       obtain rfl:t=64:=by omega
       have hcm:Bx (C1.list=zAj sl (zLR kc (sch bs 64) 64 ⟨sa,sb,sc,sd,se,sf,sg,sh⟩).list 8):=⟨by rw [hch.out,←hS0.out];exact zJr _ _⟩
       generalize zLR kc (sch bs 64) 64 ⟨sa,sb,sc,sd,se,sf,sg,sh⟩=V at *;have hs8:Bx (sl.length=8):=⟨by rw [←hS0.out];rfl⟩
       have HE:Bx (RtI w g bw pv P (zAj sl V.list 0) wv V wr):=⟨by rw [zAm];exact HT.out⟩
       clear HT;go_wp2_with fail
       go_loopw [11] (fun v11 wr => ∃ i:Nat,i≤8∧v11 = .int .i64 i∧Bx (RtI w g bw pv P (zAj sl V.list i) wv V wr)) (fun v11 _=>8 - (intOf v11).toNat)
       case atStart=>exact ⟨0,Nat.zero_le _,rfl,HE⟩
       case round =>
        clear HE;obtain ⟨i,hi,rfl,HE⟩:=hrel;by_cases hlt8:i<8
        · have t0:decide ((i:Int)<8)=true:=by simp;omega
          obtain ⟨x,hx⟩ : ∃ x,sl[i]? = some x:=⟨_,List.getElem?_eq_getElem (by have:=hs8.out;omega)⟩
          have hvi:=zN1 V hlt8;have hsc:=Bx.mk (zAl V.list hx);have hax:=Bx.mk (zAk hx V.list i);rw [if_neg (by omega)] at hax
          generalize V.list.getD i 0=vi at *;have d0 : ∀ dk osk,(grow (redrawn wr dk) osk).cell? ⟨w.heap.size+1,i,none⟩=some (.int .u32 x):=cell_regrown (HE.out.rs.ks.cell hax.out);have d1 : ∀ dk osk,(grow (redrawn wr dk) osk).cell? ⟨pv,i,none⟩=some (.int .u32 vi):=cell_regrown (HE.out.kv.cell hvi);have q0:(0:Int)≤(i:Int):=by omega
          have q2:(i:Int)<8:=by omega
          clear hx hvi;go_upto_region 17 with fail;refine zAM 9 (by kernel_rfl) (by kernel_rfl) ?_
          simp only [List.take_succ_cons,List.take_zero,List.drop_succ_cons,List.drop_zero]
          repeat (first | go_big_quiet_step (fail) | quiet_step (fail))
          refine wpQuiet_nil ?_;rintro _ ⟨⟨dq,osq⟩,rfl⟩;have HE2:=Bx.mk (HE.out.later (below_regrown wr dq osq));clear d0 d1 HE;generalize grow (redrawn wr dq) osq=w5 at *;have cw:=HE2.out.rs.ks.cell hax.out;have fw:=HE2.out.rs.ks.frozen i;have HE3:=Bx.mk (HE2.out.put i ((x+vi) % 4294967296));rw [←hsc.out] at HE3;clear HE2 hsc;go_wp2_with fail
          go_roundw
          case rel=>exact ⟨i+1,by omega,by go_num,HE3⟩
          case measure=>simp [intOf];omega
        · have t0:decide ((i:Int)<8)=false:=by simp;omega
          obtain rfl:i=8:=by omega
          have HI2:Bx (RsI w g P C1.list wr):=⟨by rw [hcm.out];exact HE.out.rs⟩
          go_wp2_with fail
          go_roundw
          case rel=>exact ⟨q+1,hq1,by go_num,by rw [hC1.out];exact HI2⟩
          case measure=>simp [intOf];omega
  · have t0:decide (64 * (q:Int)<(pn:Int))=false:=by simp;omega
    have hqe:q=pn / 64:=by omega
    have hsha2:Bx (sha kc m=out (zCe kc P q)):=⟨by rw [hsha.out,hqe]⟩
    clear hqe;generalize zCe kc P q=C at *;go_upto_region 19 with fail;generalize hW:World.alloc wr _=w5
    have HO:Bx (Out2 w wr.heap.size C 0 w5):=by
     rw [←hW];have hlt:=HI.out.gl;exact ⟨⟨HI.out.bel.alloc HI.out.bel.size _,(zE HI.out.ks:Bk _ _ _ _),(zE HI.out.kr:Bk _ _ _ _),(zD _ _ _ rfl:Bk _ _ _ _),by omega⟩⟩
    clear hW HI;generalize wr.heap.size=o at *;go_wp2_with fail
    go_loopw [13] (fun v13 wr => ∃ i:Nat,i≤32∧v13 = .int .i64 i∧Bx (Out2 w o C i wr)) (fun v13 _=>32 - (intOf v13).toNat)
    case atStart=>exact ⟨0,Nat.zero_le _,rfl,HO⟩
    case round =>
     clear HO;obtain ⟨i,hi,rfl,HO⟩:=hrel;by_cases hlt32:i<32
     · have t0:decide ((i:Int)<32)=true:=by simp;omega
       obtain ⟨q',hq'⟩ : ∃ q',q'=i / 4:=⟨_,rfl⟩;obtain ⟨r,hr⟩ : ∃ r,r=i % 4:=⟨_,rfl⟩;have e1:(i:Int) / 4=(q':Int):=by omega
       have e2:(i:Int) % 4=(r:Int):=by omega
       have e3:(24 - 8 * (r:Int)).toNat=24 - 8 * r:=by omega
       have q2:(0:Int)≤24 - 8 * (r:Int):=by omega
       have q3:(0:Int)≤(i:Int):=by omega
       have q4:(0:Int)≤(q':Int):=by omega
       have q5:(q':Int)<8:=by omega
       have q6:(i:Int)<32:=by omega
       have q7:(8:Int) * (r:Int)≤24:=by omega
       have hob:Bx (zI4 C i=C.list.getD q' 0 / 2 ^ (24 - 8 * r) % 256):=⟨by unfold zI4;rw [hq',hr]⟩
       have cq:=HO.out.ks.cell (zN1 C (show q'<8 by omega))
       have co:=HO.out.at_ hlt32;have fo:=HO.out.ko.frozen i;have HO2:=HO.out.put hlt32;rw [hob.out] at HO2;replace HO2:=Bx.mk HO2;replace hq':=Bx.mk hq';replace hr:=Bx.mk hr;generalize C.list.getD q' 0=xq at *;go_wp2_with fail
       go_roundw
       case rel=>exact ⟨i+1,by omega,by go_num,HO2⟩
       case measure=>simp [intOf];omega
     · have t0:decide ((i:Int)<32)=false:=by simp;omega
       obtain rfl:i=32:=by omega
       have hko:Bx (Bl wr o .u8 (out C) 162):=⟨by have:=HO.out.ko;rw [Nat.sub_self,List.replicate_zero,List.append_nil] at this;exact this⟩
       have hkr:=Bx.mk HO.out.kr;have hsz:Bx (((out C).map (Value.int .u8)).toArray.size=32):=⟨by rw [List.size_toArray,List.length_map,zI6]⟩
       have hs2:Bx (((z32.map (Value.int .u8)).toArray).size=((out C).map (Value.int .u8)).toArray.size):=⟨by rw [hsz.out];rfl⟩
       have hone:=Bx.mk (zl .u8 (out C));have H1:=Bx.mk (show ∀ cs:Array Value,cs.size=32→(Tryz.prog.info? 162).map (·.size)=some cs.size from fun cs h=>by rw [h];kernel_rfl)
       generalize out C=os at *;go_upto_region 23 with fail
       go_wp2_with (first
        | refine zAI rfl _ _ rfl o rfl _ _ hko.out _ Tryz.underlying162 rfl (H1.out _ hsz.out) ?_
        | refine zAJ rfl _ _ _ rfl w.heap.size rfl _ _ rfl _ hkr.out (H1.out _ hsz.out) hs2.out hone.out ?_)
       refine bodyPost_ret (v:=zBP .u8 os) (results_cell_row rfl _ _ w.heap.size 162 _ (0,0) _ rfl (hkr.out.whole _) Tryz.underlying162 rfl (H1.out _ hsz.out)) rfl ⟨by rw [hsha2.out],below_setRow HO.out.bel (Nat.le_refl _) _⟩
end Go.Proofs.YtgnfgblkpnfcnaaGreatDoor
end
