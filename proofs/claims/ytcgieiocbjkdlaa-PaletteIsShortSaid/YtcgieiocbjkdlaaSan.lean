/- sanity: the document's examples, call by call. -/
import Derived.Test.YtcgieiocbjkdlaaRPat
namespace Go.Proofs.Ytcgieiocbjkdlaa
open Go.RowKit

theorem Sl.lit (W : World) (T : TypeId) (k : IntKind) (xs : List Int) : Sl (W.alloc (.cells (xs.map (Value.int k)).toArray T)) k (some ⟨W.heap.size, 0, none⟩) xs := by
  intro i x hx
  refine ⟨_, 0, rfl, ?_⟩
  rw [Nat.zero_add]
  exact cells_new _ _ _ _ _ (by simp [hx])
theorem below_lit (W : World) (o : Obj) : Below W.heap.size W (W.alloc o) := (Below.refl _ _).alloc (Nat.le_refl _) _

theorem san_pack (W : World) (xs out : List Int) (hl : xs.length ≤ 1000) (h1 : Pal.packB xs = out) (h2 : Pal.packE xs = 0) :
    Calls Try.prog 11 #[.slice (some ⟨W.heap.size, 0, none⟩) xs.length xs.length] (W.alloc (.cells (xs.map (Value.int .i64)).toArray 3)) fun e w' => e = .returned (.tuple #[.string (strOfNums out), .int .i64 0]) ∧ Below W.heap.size W w' := by
  refine (pal_pack _ _ xs _ hl (Sl.lit _ _ _ _)).mono ?_
  rintro e w' ⟨rfl, hb⟩
  exact ⟨ret_str (by rw [h1]) h2, (below_lit W _).trans (hb.mono (below_lit W _).size)⟩
theorem san_text (W : World) (xs : List Int) :
    Calls Try.prog 26 #[.slice (some ⟨W.heap.size, 0, none⟩) xs.length xs.length] (W.alloc (.cells (xs.map (Value.int .u8)).toArray 5)) fun e w' => e = .returned (.string (strOfNums xs)) ∧ Below W.heap.size W w' := by
  refine (law_text _ _ xs _ (Sl.lit _ _ _ _)).mono ?_
  rintro e w' ⟨rfl, rfl⟩
  exact ⟨rfl, below_lit W _⟩
theorem san_unpack (W : World) (t : List Int) (r : List Int × Int × Int) (hb : Byt t) (ht : t.length ≤ 1000000) (h : Pal.unp t = r) :
    Calls Try.prog 13 #[.string (strOfNums t)] W (RetSl3 .i64 r W) := h ▸ pal_unpack t W hb ht
theorem san_same (W : World) (a : Option Addr) (ca : Nat) (xs : List Int) (hl : xs.length ≤ 1000000) (h : Sl W .i64 a xs) :
    Calls Try.prog 15 #[.slice a xs.length ca, .slice (some ⟨W.heap.size, 0, none⟩) xs.length xs.length] (W.alloc (.cells (xs.map (Value.int .i64)).toArray 3)) fun e w' => e = .returned (.bool true) ∧ Below W.heap.size W w' := by
  refine (ref_same a _ ca _ xs xs _ hl hl (h.below (below_lit W _)) (Sl.lit _ _ _ _)).mono ?_
  rintro e w' ⟨rfl, hb⟩
  exact ⟨ret_bool (by simp), (below_lit W _).trans (hb.mono (below_lit W _).size)⟩

def ones : List Int := List.replicate 64 1
def nine : List Int := (List.replicate 64 1).set 9 6
theorem san_range1 : (List.range 64).map (fun j => if j < 64 then (1 : Int) else 0) = ones := by decide +kernel
theorem san_range2 : (List.range 64).map (fun j => if j = 9 then (6 : Int) else if j < 64 then 1 else 0) = nine := by decide +kernel
theorem san_dltB : Pal.dltB ones nine = [0, 2, 0, 0, 0, 0, 0, 0, 1, 1, 6] := by decide +kernel
theorem san_dltE : Pal.dltE ones nine = 0 := by decide +kernel
theorem san_pat : Pal.pat ones [0, 2, 0, 0, 0, 0, 0, 0, 1, 1, 6] = (nine, 0) := by decide +kernel
theorem san_encE : Pal.encE nine = 0 := by decide +kernel
theorem san_encL : (Pal.encB nine).length = 12 := by decide +kernel
theorem san_dec : Pal.dec (Pal.encB nine) = (nine, 0) := by decide +kernel
theorem san_mat : Pal.mat (Pal.encB nine) = ([1, 6], 0) := by decide +kernel
theorem san_encByt : Byt (Pal.encB nine) := by unfold Byt; decide +kernel
theorem san_dByt : Byt [0, 2, 0, 0, 0, 0, 0, 0, 1, 1, 6] := by unfold Byt; decide
theorem san_u1 : Pal.unp [4, 2, 7, 3, 4, 99] = ([7, 7, 3, 7], 5, 0) := by decide +kernel
theorem san_u2 : Pal.unp [4, 2, 7, 3] = ([], 0, 5) := by decide +kernel
theorem san_u3 : Pal.unp [4, 2, 7, 3, 20] = ([], 0, 6) := by decide +kernel
theorem san_u4 : Pal.unp [2, 2, 7, 7, 2] = ([], 0, 6) := by decide +kernel
end Go.Proofs.Ytcgieiocbjkdlaa
