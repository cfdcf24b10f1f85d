/- Strings as lists of bytes. -/
import Derived.Test.YtaajkhdmeghnbaaBase
import Derived.Laws.IdiomStrings
namespace Go.Proofs.Ytaajkhdmeghnbaa
open Go.RowKit

def Byt (t : List Int) : Prop := ∀ x ∈ t, 0 ≤ x ∧ x ≤ 255
def bs (s : ByteArray) : List Int := s.data.toList.map fun b => (b.toNat : Int)

theorem str_bs (s : ByteArray) : strOfNums (bs s) = s := by
  apply ByteArray.ext
  apply Array.ext'
  simp [strOfNums, bs, Function.comp_def]
theorem bs_byt (s : ByteArray) : Byt (bs s) := by
  intro x hx
  obtain ⟨b, _, rfl⟩ := List.mem_map.1 hx
  have := b.toNat_lt
  omega
theorem bs_length (s : ByteArray) : (bs s).length = s.size := by unfold bs; rw [List.length_map, Array.length_toList]; rfl
theorem bs_str {t : List Int} (h : Byt t) : bs (strOfNums t) = t := by
  unfold bs
  rw [strOfNums_data, List.map_map]
  conv => rhs; rw [← List.map_id t]
  apply List.map_congr_left
  intro x hx
  have := h x hx
  simp [UInt8.toNat_ofNat']
  omega
theorem Byt.drop {t : List Int} (h : Byt t) (k : Nat) : Byt (t.drop k) := fun x hx => h x (List.mem_of_mem_drop hx)
theorem Byt.take {t : List Int} (h : Byt t) (k : Nat) : Byt (t.take k) := fun x hx => h x (List.mem_of_mem_take hx)
theorem Byt.append {t u : List Int} (h : Byt t) (h' : Byt u) : Byt (t ++ u) := fun x hx => by
  rcases List.mem_append.1 hx with h1 | h1
  · exact h x h1
  · exact h' x h1
theorem Byt.get {t : List Int} (h : Byt t) {k : Nat} {x : Int} (hx : t[k]? = some x) : 0 ≤ x ∧ x ≤ 255 := h x (List.mem_of_getElem? hx)
theorem str_append (t u : List Int) : strOfNums t ++ strOfNums u = strOfNums (t ++ u) := by
  apply ByteArray.ext
  simp [strOfNums]
theorem str_extract (t : List Int) (a b : Nat) : (strOfNums t).extract a b = strOfNums ((t.drop a).take (b - a)) := by
  unfold strOfNums
  rw [ByteArray.extract_mk, ← List.map_drop, ← List.map_take]
theorem str_get {t : List Int} (h : Byt t) {k : Nat} {x : Int} (hx : t[k]? = some x) : ∃ hk : k < (strOfNums t).size, (((strOfNums t)[k]'hk).toNat : Int) = x := by
  obtain ⟨hk, rfl⟩ := List.getElem?_eq_some_iff.1 hx
  refine ⟨by rw [strOfNums_size]; exact hk, ?_⟩
  have h1 := h _ (List.getElem_mem hk)
  show (((strOfNums t).data[k]'_).toNat : Int) = t[k]
  simp [strOfNums, UInt8.toNat_ofNat']
  omega

theorem idx_str {P : Program} (T : TypeId) (hu : P.underlying T = some .string) {t : List Int} (hb : Byt t) {k : Nat} {x : Int} (h : t[k]? = some x) (w : World) :
    (Instr.index T (.string (strOfNums t)) (.int .i64 (k : Int))).run P w = .ok (.int .u8 x) w := by
  obtain ⟨hk, hx⟩ := str_get hb h
  rw [run_index_string w T _ _ _ hu, dif_pos ⟨by omega, by omega⟩]
  simp only [Int.toNat_natCast]
  rw [hx]

theorem slice_from {P : Program} (T : TypeId) (hu : P.underlying T = some .string) (t : List Int) (k : Nat) (hk : k ≤ t.length) (w : World) :
    (Instr.slice T (.string (strOfNums t)) (some (.int .i64 (k : Int))) none none).run P w = .ok (.string (strOfNums (t.drop k))) w := by
  rw [run_slice_string_from_if w T _ _ _ hu, if_pos ⟨by omega, by rw [strOfNums_size]; omega⟩, str_extract, strOfNums_size, Int.toNat_natCast, List.take_of_length_le (by simp)]
theorem slice_to {P : Program} (T : TypeId) (hu : P.underlying T = some .string) (t : List Int) (k : Nat) (hk : k ≤ t.length) (w : World) :
    (Instr.slice T (.string (strOfNums t)) none (some (.int .i64 (k : Int))) none).run P w = .ok (.string (strOfNums (t.take k))) w := by
  rw [run_slice_string_to_if w T _ _ _ hu, if_pos ⟨by omega, by rw [strOfNums_size]; omega⟩, str_extract, Int.toNat_natCast]
  simp
theorem slice_mid {P : Program} (T : TypeId) (hu : P.underlying T = some .string) (t : List Int) (i j : Nat) (hij : i ≤ j) (hj : j ≤ t.length) (w : World) :
    (Instr.slice T (.string (strOfNums t)) (some (.int .i64 (i : Int))) (some (.int .i64 (j : Int))) none).run P w = .ok (.string (strOfNums ((t.drop i).take (j - i)))) w := by
  rw [run_slice_string w T _ _ _ _ _ hu (by omega) (by omega) (by rw [strOfNums_size]; omega), str_extract, Int.toNat_natCast, Int.toNat_natCast]

theorem bytes_of_str {P : Program} (src dst e : TypeId) (hs : P.underlying src = some .string) (hd : P.underlying dst = some (.slice e)) (he : P.underlying e = some (.int .u8)) {t : List Int} (hb : Byt t) (w : World) :
    ∃ c W, (convert src dst (.string (strOfNums t))).run P w = .ok (.slice (some ⟨w.heap.size, 0, none⟩) t.length c) W ∧ Sl W .u8 (some ⟨w.heap.size, 0, none⟩) t ∧ Below w.heap.size w W := by
  have h := run_bytes_of_string (P := P) w src dst e (strOfNums t) hs hd he
  rw [strOfNums_size] at h
  refine ⟨_, _, h, fun i x hx => ⟨_, 0, rfl, ?_⟩, (Below.refl _ _).drew.alloc (Nat.le_refl _) _⟩
  obtain ⟨hk, hv⟩ := str_get hb hx
  have := World.cell?_alloc_mark w.drew (bytesRow (strOfNums t) (grownCap w t.length 0 e)) e ((bytesRow (strOfNums t) (grownCap w t.length 0 e)).size, (bytesRow (strOfNums t) (grownCap w t.length 0 e)).size + 1) i
  rw [Nat.zero_add]
  refine Eq.trans this ?_
  have h2 := bytesRow_at (strOfNums t) (grownCap w t.length 0 e) i hk
  rw [← hv]; exact h2
end Go.Proofs.Ytaajkhdmeghnbaa
