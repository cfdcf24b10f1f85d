/- Rot, plainly. -/
import Derived.Test.YtaajkhdmeghnbaaOne
namespace Go.Proofs.Ytaajkhdmeghnbaa
open Go.RowKit Go.Sort

theorem xor_zero8 : ∀ y : Fin 256, bits .xor .u8 (y.val : Int) 0 = (y.val : Int) := by decide +kernel
theorem xor_twice8 : ∀ y : Fin 256, ∀ s : Fin 8, bits .xor .u8 (bits .xor .u8 (y.val : Int) (2 ^ s.val)) (2 ^ s.val) = (y.val : Int) := by decide +kernel
theorem xor_zero {y : Int} (h : 0 ≤ y ∧ y ≤ 255) : bits .xor .u8 y 0 = y := by
  have := xor_zero8 ⟨y.toNat, by omega⟩
  simp only at this
  rwa [Int.toNat_of_nonneg h.1] at this
theorem xor_twice {y : Int} (h : 0 ≤ y ∧ y ≤ 255) {s : Nat} (hs : s < 8) : bits .xor .u8 (bits .xor .u8 y (2 ^ s)) (2 ^ s) = y := by
  have := xor_twice8 ⟨y.toNat, by omega⟩ ⟨s, hs⟩
  simp only at this
  rwa [Int.toNat_of_nonneg h.1] at this
theorem flip_get (l : List Int) (q s j : Nat) : (flip l q s)[j]? = l[j]?.map fun y => if q = j then bits .xor .u8 y (2 ^ s) else y := by
  unfold flip
  rw [List.getElem?_modify]
  cases l[j]? with
  | none => rfl
  | some y => by_cases h : q = j <;> simp [h]
theorem flip_twice {l : List Int} (h : Byt l) (q : Nat) {s : Nat} (hs : s < 8) : flip (flip l q s) q s = l := by
  apply List.ext_getElem?
  intro j
  rw [flip_get, flip_get]
  cases hj : l[j]? with
  | none => rfl
  | some y =>
    have hy := h y (List.mem_of_getElem? hj)
    by_cases e : q = j
    · simp only [Option.map_some, if_pos e]
      rw [xor_twice hy hs]
    · simp only [Option.map_some, if_neg e]
theorem rot_yes {D : Dk} {i b : Nat} (hi : i < D.p.length) (hb : b < 1024) : D.rot i b = ({ D with p := D.p.modify i fun x => (flip x.1 (b / 8) (b % 8), x.2) }, 0) := by
  unfold Dk.rot Dk.is
  have h1 : (decide (0 ≤ (i : Int)) && decide ((i : Int) < D.p.length) && decide (0 ≤ (b : Int)) && decide ((b : Int) < 1024)) = true := by simp; omega
  rw [if_neg (by rw [h1]; simp)]
  rw [Int.toNat_natCast, Int.toNat_natCast]
theorem rot_no {D : Dk} {i b : Int} (h : i < 0 ∨ (D.p.length : Int) ≤ i ∨ b < 0 ∨ 1023 < b) : D.rot i b = (D, 1) := by
  unfold Dk.rot Dk.is eArg
  rw [if_pos (by simp; omega)]
theorem rot_rot {D : Dk} (ho : DkOk D) {i b : Nat} (hi : i < D.p.length) (hb : b < 1024) : (D.rot i b).1.rot i b = (D, 0) := by
  rw [rot_yes hi hb, rot_yes (by show i < (List.modify _ _ _).length; rw [List.length_modify]; exact hi) hb]
  obtain ⟨p, off, trip⟩ := D
  have : (p.modify i fun x => (flip x.1 (b / 8) (b % 8), x.2)).modify i (fun x => (flip x.1 (b / 8) (b % 8), x.2)) = p := by
    apply List.ext_getElem?
    intro j
    rw [List.getElem?_modify, List.getElem?_modify]
    cases hj : p[j]? with
    | none => rfl
    | some x =>
      have hx := (ho.pages x (List.mem_of_getElem? hj)).2.1
      by_cases e : i = j
      · simp only [if_pos e, Option.map_some, Option.map_eq_map, flip_twice hx _ (show b % 8 < 8 by omega)]
      · simp [e]
  simp only [this]
/-- the bytes of a page, ahead and behind -/
theorem rot_byte {D : Dk} (ho : DkOk D) {i b : Nat} (hi : i < D.p.length) (hb : b < 1024) {k j : Nat} (hk : k < D.p.length) (hj : j < 128) :
    ∃ l l2 y, D.image[k]? = some l ∧ (D.rot i b).1.image[k]? = some l2 ∧ l.length = 128 ∧ l2.length = 128 ∧ Byt l ∧ Byt l2 ∧ l[j]? = some y ∧ 0 ≤ y ∧ y ≤ 255 ∧
      l2[j]? = some (if k = i ∧ j = b / 8 then bits .xor .u8 y (2 ^ (b % 8)) else y) := by
  obtain ⟨x, hx⟩ : ∃ x, D.p[k]? = some x := ⟨_, List.getElem?_eq_getElem hk⟩
  obtain ⟨h1, h2, -⟩ := ho.pages x (List.mem_of_getElem? hx)
  obtain ⟨y, hy⟩ : ∃ y, x.1[j]? = some y := ⟨_, List.getElem?_eq_getElem (by omega)⟩
  have hyb := h2 y (List.mem_of_getElem? hy)
  rw [rot_yes hi hb]
  refine ⟨x.1, if k = i then flip x.1 (b / 8) (b % 8) else x.1, y, ?_, ?_, h1, ?_, h2, ?_, hy, hyb.1, hyb.2, ?_⟩
  · unfold Dk.image; rw [List.getElem?_map, hx]; rfl
  · unfold Dk.image
    rw [List.getElem?_map, List.getElem?_modify, hx]
    by_cases e : i = k
    · subst e; simp
    · rw [if_neg (fun e2 : k = i => e e2.symm)]
      simp [e]
  · split
    · unfold flip; rw [List.length_modify]; exact h1
    · exact h1
  · split
    · intro z hz
      obtain ⟨m, hm⟩ := List.getElem?_of_mem hz
      rw [flip_get] at hm
      cases hm2 : x.1[m]? with
      | none => rw [hm2] at hm; cases hm
      | some u =>
        rw [hm2] at hm
        injection hm with hm
        have := h2 u (List.mem_of_getElem? hm2)
        rw [← hm]
        split
        · exact bits_u8 _ _
        · exact this
    · exact h2
  · by_cases e : k = i
    · rw [if_pos e, flip_get, hy]
      by_cases e2 : b / 8 = j
      · simp [e, e2]
      · rw [if_neg (fun e3 => e2 e3.2.symm)]
        simp [e2]
    · rw [if_neg e, hy, if_neg (fun h => e h.1)]
end Go.Proofs.Ytaajkhdmeghnbaa
