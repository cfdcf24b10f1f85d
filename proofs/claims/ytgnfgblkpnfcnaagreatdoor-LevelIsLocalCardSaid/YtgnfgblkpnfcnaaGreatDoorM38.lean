/- Rsm: joined by program, for one claim. -/
import Derived.Test.YtgnfgblkpnfcnaaGreatDoorM37
import Derived.Test.YtgnfgblkpnfcnaaGreatDoorM34
set_option linter.unusedVariables false
set_option linter.unusedSimpArgs false
section
namespace Go.Proofs.YtgnfgblkpnfcnaaGreatDoor
open Go.RowKit Go.Sort
theorem Sl.other' {w:World} {k:IntKind} {g o:Nat} {xs:List Int} (h:Sl w k (some ⟨g,o,none⟩) xs) (a:Addr) (v:Value) (hne:a.block ≠ g):Sl (w.setCell a v) k (some ⟨g,o,none⟩) xs:=by
 intro i x hx
 obtain ⟨b,off,e,hc⟩:=h i x hx
 refine ⟨b,off,e,?_⟩
 injection e with e
 injection e with e1 e2 _
 rw [World.cell?_setCell_other w _ _ _ (fun he=>by
  have:a.block=b:=congrArg Addr.block he
  omega)]
 exact hc
structure RsI (w:World) (g:Nat) (P:List Int) (s:List Int) (wr:World):Prop where
 bel:Below w.heap.size w wr
 kr:Bl wr w.heap.size .u8 z32 162
 ks:Bl wr (w.heap.size+1) .u32 s 155
 km:Sl wr .u8 (some ⟨g,0,none⟩) P
 gl:w.heap.size+1<g∧g<wr.heap.size
section
variable {w wr w':World} {g:Nat} {P s:List Int}
theorem RsI.later (h:RsI w g P s wr) (hb:Below wr.heap.size wr w'):RsI w g P s w':=⟨h.bel.trans (hb.mono h.bel.size),h.kr.later hb,h.ks.later hb,h.km.below hb,h.gl.1,Nat.lt_of_lt_of_le h.gl.2 hb.size⟩
theorem RsI.other (h:RsI w g P s wr) (a:Addr) (v:Value) (ha:g<a.block):RsI w g P s (wr.setCell a v):=by
 have:=h.gl
 exact ⟨h.bel.setCell (by omega) _,h.kr.other _ _ (by omega),h.ks.other _ _ (by omega),h.km.other' _ _ (by omega),h.gl.1,by simpa [World.setCell] using h.gl.2⟩
theorem RsI.put (h:RsI w g P s wr) (j:Nat) (x:Int):RsI w g P (s.set j x) (wr.setCell ⟨w.heap.size+1,j,none⟩ (.int .u32 x)):=by
 have:=h.gl
 exact ⟨h.bel.setCell (by show w.heap.size≤w.heap.size+1;omega) _,h.kr.other _ _ (by show w.heap.size ≠ w.heap.size+1;omega),h.ks.put j x,h.km.other' _ _ (by show w.heap.size+1 ≠ g;omega),h.gl.1,by simpa [World.setCell] using h.gl.2⟩
end
structure RtI (w:World) (g bw pv:Nat) (P s:List Int) (wv:Array Value) (v:W8) (wr:World):Prop where
 rs:RsI w g P s wr
 kw:Bk wr bw wv 188
 kv:Bl wr pv .u32 v.list 155
 ap:g<bw∧bw<pv
section
variable {w wr w':World} {g bw pv:Nat} {P s:List Int} {wv:Array Value} {v:W8}
theorem RtI.later (h:RtI w g bw pv P s wv v wr) (hb:Below wr.heap.size wr w'):RtI w g bw pv P s wv v w':=⟨h.rs.later hb,h.kw.later hb,h.kv.later hb,h.ap⟩
theorem RtI.setV (h:RtI w g bw pv P s wv v wr) (v':W8):RtI w g bw pv P s wv v' ((((((((wr.setCell ⟨pv,0,none⟩ (.int .u32 v'.a)).setCell ⟨pv,1,none⟩ (.int .u32 v'.b)).setCell ⟨pv,2,none⟩ (.int .u32 v'.c)).setCell ⟨pv,3,none⟩ (.int .u32 v'.d)).setCell ⟨pv,4,none⟩ (.int .u32 v'.e)).setCell ⟨pv,5,none⟩ (.int .u32 v'.f)).setCell ⟨pv,6,none⟩ (.int .u32 v'.g)).setCell ⟨pv,7,none⟩ (.int .u32 v'.h)):=by
 have ha:=h.ap
 have hp : ∀ i,g<(⟨pv,i,none⟩:Addr).block:=fun i=>by show g<pv;omega
 have hw : ∀ i,bw ≠ (⟨pv,i,none⟩:Addr).block:=fun i=>by show bw ≠ pv;omega
 refine ⟨(((((((h.rs.other _ _ (hp _)).other _ _ (hp _)).other _ _ (hp _)).other _ _ (hp _)).other _ _ (hp _)).other _ _ (hp _)).other _ _ (hp _)).other _ _ (hp _),
  (((((((h.kw.other _ _ (hw _)).other _ _ (hw _)).other _ _ (hw _)).other _ _ (hw _)).other _ _ (hw _)).other _ _ (hw _)).other _ _ (hw _)).other _ _ (hw _),?_,ha⟩
 exact (((((((h.kv.put 0 v'.a).put 1 v'.b).put 2 v'.c).put 3 v'.d).put 4 v'.e).put 5 v'.f).put 6 v'.g).put 7 v'.h
end
theorem RtI.put {w wr:World} {g bw pv:Nat} {P s:List Int} {wv:Array Value} {v:W8} (h:RtI w g bw pv P s wv v wr) (j:Nat) (x:Int):RtI w g bw pv P (s.set j x) wv v (wr.setCell ⟨w.heap.size+1,j,none⟩ (.int .u32 x)):=by
 have ha:=h.ap
 have hg:=h.rs.gl
 exact ⟨h.rs.put j x,h.kw.other _ _ (by show bw ≠ w.heap.size+1;omega),h.kv.other _ _ (by show pv ≠ w.heap.size+1;omega),ha⟩
structure Out2 (w:World) (o:Nat) (s:W8) (i:Nat) (wr:World):Prop where
 bel:Below w.heap.size w wr
 ks:Bl wr (w.heap.size+1) .u32 s.list 155
 kr:Bl wr w.heap.size .u8 z32 162
 ko:Bl wr o .u8 ((List.range i).map (outB s)++List.replicate (32 - i) 0) 162
 ap:w.heap.size+1<o
theorem Out2.put {w wr:World} {o:Nat} {s:W8} {i:Nat} (h:Out2 w o s i wr) (hi:i<32):Out2 w o s (i+1) (wr.setCell ⟨o,i,none⟩ (.int .u8 (outB s i))):=by
 have ha:=h.ap
 refine ⟨h.bel.setCell (by show w.heap.size≤o;omega) _,h.ks.other _ _ (by show w.heap.size+1 ≠ o;omega),h.kr.other _ _ (by show w.heap.size ≠ o;omega),?_,ha⟩
 have:=h.ko.put i (outB s i)
 rw [show 32 - i=(32 - (i+1))+1 by omega,List.replicate_succ,List.set_append_right _ _ (by rw [List.length_map,List.length_range];omega),List.length_map,List.length_range,Nat.sub_self,List.set_cons_zero] at this
 rw [List.range_succ,List.map_append,List.append_assoc]
 exact this
theorem Out2.at_ {w wr:World} {o:Nat} {s:W8} {i:Nat} (h:Out2 w o s i wr) (hi:i<32):wr.cell? ⟨o,i,none⟩=some (.int .u8 0) :=
 h.ko.cell (by rw [List.getElem?_append_right (by rw [List.length_map,List.length_range];omega),List.length_map,List.length_range,Nat.sub_self,show 32 - i=(32 - (i+1))+1 by omega,List.replicate_succ];rfl)
end Go.Proofs.YtgnfgblkpnfcnaaGreatDoor
end
