/- Sho: joined by program, for one claim. -/
import Derived.Test.YtgnfgblkpnfcnaaGreatDoorM40
set_option linter.unusedVariables false
set_option linter.unusedSimpArgs false
section
namespace Go.Proofs.YtgnfgblkpnfcnaaGreatDoor
open Go.RowKit Go.Sort
def z16:List Int:=List.replicate 16 0
structure ShoI (w:World) (b o:Nat) (xs:List Int) (i:Nat) (wr:World):Prop where
 bel:Below w.heap.size w wr
 kr:Bl wr w.heap.size .u8 z16 43
 kb:Bl wr b .u8 xs 162
 ko:Bl wr o .u8 (xs.take i++List.replicate (16 - i) 0) 43
 ap:w.heap.size<b∧b<o
theorem ShoI.put {w wr:World} {b o:Nat} {xs:List Int} {i:Nat} {x:Int} (h:ShoI w b o xs i wr) (hi:i<16) (hx:xs[i]? = some x):ShoI w b o xs (i+1) (wr.setCell ⟨o,i,none⟩ (.int .u8 x)):=by
 have ha:=h.ap
 have hl:i<xs.length:=(List.getElem?_eq_some_iff.1 hx).1
 have hti:(xs.take i).length=i:=by rw [List.length_take];omega
 refine ⟨h.bel.setCell (by show w.heap.size≤o;omega) _,h.kr.other _ _ (by show w.heap.size ≠ o;omega),h.kb.other _ _ (by show b ≠ o;omega),?_,ha⟩
 have:=h.ko.put i x
 rw [show 16 - i=(16 - (i+1))+1 by omega,List.replicate_succ,List.set_append_right _ _ (by omega),hti,Nat.sub_self,List.set_cons_zero] at this
 obtain ⟨h1,rfl⟩:=List.getElem?_eq_some_iff.1 hx
 rw [List.take_succ_eq_append_getElem h1,List.append_assoc]
 exact this
theorem ShoI.at_ {w wr:World} {b o:Nat} {xs:List Int} {i:Nat} (h:ShoI w b o xs i wr) (hi:i<16) (hl:xs.length=32):wr.cell? ⟨o,i,none⟩=some (.int .u8 0) :=
 h.ko.cell (by
  have hti:(xs.take i).length=i:=by rw [List.length_take];omega
  rw [List.getElem?_append_right (by omega),hti,Nat.sub_self,show 16 - i=(16 - (i+1))+1 by omega,List.replicate_succ];rfl)
def DigPost (w:World) (xs:List Int) (e:Ending) (w':World):Prop:=e = .returned (arrV .u8 xs)∧Below w.heap.size w w'
end Go.Proofs.YtgnfgblkpnfcnaaGreatDoor
end
