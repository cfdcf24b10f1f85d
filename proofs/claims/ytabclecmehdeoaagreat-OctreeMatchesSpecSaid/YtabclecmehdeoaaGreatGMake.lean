import Derived.Test.YtabclecmehdeoaaGreatGTree
import Derived.Test.YtabclecmehdeoaaGreatGNew
import Derived.Deep.Cut
import Derived.Maps.AppendAt
import Derived.Deep.RegionLaw
section
/- Store.make, by the program. -/
namespace Go.Proofs.YtabclecmehdeoaaGreat
open Go.RowKit Go.Sort Go.Maps
open Oct

set_option maxRecDepth 100000 in
set_option maxHeartbeats 1000000 in
theorem make_has (Far : Nat → Prop) (sb : Nat) (most : Int) (ts : List Tr) (t : Tr) (k c d x0 x1 x2 x3 x4 x5 x6 x7 : Int) (s : ByteArray) (hV : nodeV ts t = nodeA k c s d x0 x1 x2 x3 x4 x5 x6 x7) (hG : Good ts) (ht : t ∈ ts) (hk : ∃ kl, keyOf Tryz.prog 83 (nodeA k c s d x0 x1 x2 x3 x4 x5 x6 x7) = some kl)
    (w : World) (hS : StoreIs w Far sb most ts) :
    Calls Tryz.prog 50 #[.pointer (some ⟨sb, 0, none⟩), .agg #[.int .i64 k, .int .i64 c, .string s, .int .i64 d, .int .i64 x0, .int .i64 x1, .int .i64 x2, .int .i64 x3, .int .i64 x4, .int .i64 x5, .int .i64 x6, .int .i64 x7]] w fun e' w' => e' = .returned (.tuple #[.int .i64 (idT ts t : Int), .int .i64 0]) ∧ Below w.heap.size w w' := by
  obtain ⟨mb, nv, ks, hrow, hmap, hS'⟩ := hS
  obtain ⟨kl, hk⟩ := hk
  have hkf := keyF_mem hG ht
  rw [hV] at hkf
  have hlook : ∀ W, Below w.heap.size w W → (Instr.lookup 56 (.map (some mb)) (.agg #[.int .i64 k, .int .i64 c, .string s, .int .i64 d, .int .i64 x0, .int .i64 x1, .int .i64 x2, .int .i64 x3, .int .i64 x4, .int .i64 x5, .int .i64 x6, .int .i64 x7]) true).run Tryz.prog W = .ok (.tuple #[.int .i64 (idT ts t : Int), .bool true]) W :=
    fun W hb => ((hmap.kept (row := none) (grown_of_below hb) (by simp)).look hk).1 _ hkf
  have Hl := Bx.mk hlook
  have Ks := Bx.mk ks
  clear hS' hmap hrow hlook hkf hk hV ks
  generalize (idT ts t : Int) = ii at *
  go_enter Tryz.func50, Tryz.ntmps50
  go_wp2_with fail
  generalize hW : World.alloc w _ = W
  have hSz : w.heap.size + 1 ≤ W.heap.size := by rw [← hW]; simp
  have hB : Below w.heap.size w W := by rw [← hW]; exact (Below.refl _ _).alloc (Nat.le_refl _) _
  have kn : Bk W (w.heap.size) #[.int .i64 k, .int .i64 c, .string s, .int .i64 d, .int .i64 x0, .int .i64 x1, .int .i64 x2, .int .i64 x3, .int .i64 x4, .int .i64 x5, .int .i64 x6, .int .i64 x7] 83 := by rw [← hW]; exact blk_new _ _ _ (by simp)
  clear hW
  have ks := Ks.out.later hB
  have hl2 : ∀ dk osk, (Instr.lookup 56 (.map (some mb)) (.agg #[.int .i64 k, .int .i64 c, .string s, .int .i64 d, .int .i64 x0, .int .i64 x1, .int .i64 x2, .int .i64 x3, .int .i64 x4, .int .i64 x5, .int .i64 x6, .int .i64 x7]) true).run Tryz.prog (grow (redrawn W dk) osk) = .ok (.tuple #[.int .i64 ii, .bool true]) (grow (redrawn W dk) osk) :=
    fun dk osk => Hl.out _ (hB.trans ((below_regrown W dk osk).mono hB.size))
  clear Hl Ks
  have cn0 : ∀ dk osk, (grow (redrawn W dk) osk).cell? ⟨w.heap.size, 0, none⟩ = some (.int .i64 k) := cell_regrown (kn.cell 0 rfl)
  have cn1 : ∀ dk osk, (grow (redrawn W dk) osk).cell? ⟨w.heap.size, 1, none⟩ = some (.int .i64 c) := cell_regrown (kn.cell 1 rfl)
  have cn2 : ∀ dk osk, (grow (redrawn W dk) osk).cell? ⟨w.heap.size, 2, none⟩ = some (.string s) := cell_regrown (kn.cell 2 rfl)
  have cn3 : ∀ dk osk, (grow (redrawn W dk) osk).cell? ⟨w.heap.size, 3, none⟩ = some (.int .i64 d) := cell_regrown (kn.cell 3 rfl)
  have cn4 : ∀ dk osk, (grow (redrawn W dk) osk).cell? ⟨w.heap.size, 4, none⟩ = some (.int .i64 x0) := cell_regrown (kn.cell 4 rfl)
  have cn5 : ∀ dk osk, (grow (redrawn W dk) osk).cell? ⟨w.heap.size, 5, none⟩ = some (.int .i64 x1) := cell_regrown (kn.cell 5 rfl)
  have cn6 : ∀ dk osk, (grow (redrawn W dk) osk).cell? ⟨w.heap.size, 6, none⟩ = some (.int .i64 x2) := cell_regrown (kn.cell 6 rfl)
  have cn7 : ∀ dk osk, (grow (redrawn W dk) osk).cell? ⟨w.heap.size, 7, none⟩ = some (.int .i64 x3) := cell_regrown (kn.cell 7 rfl)
  have cn8 : ∀ dk osk, (grow (redrawn W dk) osk).cell? ⟨w.heap.size, 8, none⟩ = some (.int .i64 x4) := cell_regrown (kn.cell 8 rfl)
  have cn9 : ∀ dk osk, (grow (redrawn W dk) osk).cell? ⟨w.heap.size, 9, none⟩ = some (.int .i64 x5) := cell_regrown (kn.cell 9 rfl)
  have cn10 : ∀ dk osk, (grow (redrawn W dk) osk).cell? ⟨w.heap.size, 10, none⟩ = some (.int .i64 x6) := cell_regrown (kn.cell 10 rfl)
  have cn11 : ∀ dk osk, (grow (redrawn W dk) osk).cell? ⟨w.heap.size, 11, none⟩ = some (.int .i64 x7) := cell_regrown (kn.cell 11 rfl)
  have cs0 : ∀ dk osk, (grow (redrawn W dk) osk).cell? ⟨sb, 0, none⟩ = some (.int .i64 most) := cell_regrown (ks.cell 0 rfl)
  have cs1 : ∀ dk osk, (grow (redrawn W dk) osk).cell? ⟨sb, 1, none⟩ = some (nv) := cell_regrown (ks.cell 1 rfl)
  have cs2 : ∀ dk osk, (grow (redrawn W dk) osk).cell? ⟨sb, 2, none⟩ = some (.map (some mb)) := cell_regrown (ks.cell 2 rfl)
  refine wp_region_quiet_below (by kernel_rfl) (by kernel_rfl) ?_
  repeat (first | go_big_quiet_step ((fail)) | quiet_step (fail))
  refine wpQuiet_nil ?_
  rintro _ ⟨⟨dq, osq⟩, rfl⟩
  have hb := below_regrown W dq osq
  clear cn0 cn1 cn2 cn3 cn4 cn5 cn6 cn7 cn8 cn9 cn10 cn11
  clear cs0 cs1 cs2
  replace hB := hB.trans (hb.mono hB.size)
  replace kn := kn.later hb
  replace ks := ks.later hb
  replace hSz := Nat.le_trans hSz hb.size
  clear hb
  generalize grow (redrawn W dq) osq = W1 at *
  clear hl2
  go_wp2_with fail
  go_ret2
  exact ⟨rfl, hB⟩
theorem row_form {w : World} {B n : Nat} {e : TypeId} {sz : Nat} {v : Value} {xs : List Value} (h : w.ownsRow B e sz v n xs) : ∃ a cap, v = .slice a n cap := by
  rcases h.2 with ⟨rfl, rfl⟩ | ⟨g, cap, cur, rfl, _⟩
  · exact ⟨_, _, rfl⟩
  · exact ⟨_, _, rfl⟩
set_option maxRecDepth 100000 in
set_option maxHeartbeats 1000000 in
theorem make_full (Far : Nat → Prop) (sb : Nat) (most : Int) (ts : List Tr) (t : Tr) (k c d x0 x1 x2 x3 x4 x5 x6 x7 : Int) (s : ByteArray) (hV : nodeV ts t = nodeA k c s d x0 x1 x2 x3 x4 x5 x6 x7) (hG : Good ts) (ht : t ∉ ts) (hle : Leans ts t) (hby : Bytes t) (hm : most ≤ (ts.length : Int))
    (hk : ∃ kl, keyOf Tryz.prog 83 (nodeA k c s d x0 x1 x2 x3 x4 x5 x6 x7) = some kl) (w : World) (hS : StoreIs w Far sb most ts) :
    Calls Tryz.prog 50 #[.pointer (some ⟨sb, 0, none⟩), .agg #[.int .i64 k, .int .i64 c, .string s, .int .i64 d, .int .i64 x0, .int .i64 x1, .int .i64 x2, .int .i64 x3, .int .i64 x4, .int .i64 x5, .int .i64 x6, .int .i64 x7]] w fun e' w' => e' = .returned (.tuple #[.int .i64 0, .int .i64 14]) ∧ Below w.heap.size w w' := by
  obtain ⟨mb, nv, ks, hrow, hmap, hS'⟩ := hS
  obtain ⟨kl, hk⟩ := hk
  obtain ⟨na, nc, rfl⟩ := row_form hrow
  have hkf := keyF_not hG ht hle hby
  rw [hV] at hkf
  have hlook : ∀ W, Below w.heap.size w W → (Instr.lookup 56 (.map (some mb)) (.agg #[.int .i64 k, .int .i64 c, .string s, .int .i64 d, .int .i64 x0, .int .i64 x1, .int .i64 x2, .int .i64 x3, .int .i64 x4, .int .i64 x5, .int .i64 x6, .int .i64 x7]) true).run Tryz.prog W = .ok (.tuple #[.int .i64 0, .bool false]) W :=
    fun W hb => ((hmap.kept (row := none) (grown_of_below hb) (by simp)).look hk).2 hkf
  have Hl := Bx.mk hlook
  have Ks := Bx.mk ks
  clear hS' hmap hrow hlook hkf hk hV ks hG ht hle hby
  generalize ts.length = nn at *
  go_enter Tryz.func50, Tryz.ntmps50
  go_wp2_with fail
  generalize hW : World.alloc w _ = W
  have hSz : w.heap.size + 1 ≤ W.heap.size := by rw [← hW]; simp
  have hB : Below w.heap.size w W := by rw [← hW]; exact (Below.refl _ _).alloc (Nat.le_refl _) _
  have kn : Bk W (w.heap.size) #[.int .i64 k, .int .i64 c, .string s, .int .i64 d, .int .i64 x0, .int .i64 x1, .int .i64 x2, .int .i64 x3, .int .i64 x4, .int .i64 x5, .int .i64 x6, .int .i64 x7] 83 := by rw [← hW]; exact blk_new _ _ _ (by simp)
  clear hW
  have ks := Ks.out.later hB
  have hl2 : ∀ dk osk, (Instr.lookup 56 (.map (some mb)) (.agg #[.int .i64 k, .int .i64 c, .string s, .int .i64 d, .int .i64 x0, .int .i64 x1, .int .i64 x2, .int .i64 x3, .int .i64 x4, .int .i64 x5, .int .i64 x6, .int .i64 x7]) true).run Tryz.prog (grow (redrawn W dk) osk) = .ok (.tuple #[.int .i64 0, .bool false]) (grow (redrawn W dk) osk) :=
    fun dk osk => Hl.out _ (hB.trans ((below_regrown W dk osk).mono hB.size))
  clear Hl Ks
  have cn0 : ∀ dk osk, (grow (redrawn W dk) osk).cell? ⟨w.heap.size, 0, none⟩ = some (.int .i64 k) := cell_regrown (kn.cell 0 rfl)
  have cn1 : ∀ dk osk, (grow (redrawn W dk) osk).cell? ⟨w.heap.size, 1, none⟩ = some (.int .i64 c) := cell_regrown (kn.cell 1 rfl)
  have cn2 : ∀ dk osk, (grow (redrawn W dk) osk).cell? ⟨w.heap.size, 2, none⟩ = some (.string s) := cell_regrown (kn.cell 2 rfl)
  have cn3 : ∀ dk osk, (grow (redrawn W dk) osk).cell? ⟨w.heap.size, 3, none⟩ = some (.int .i64 d) := cell_regrown (kn.cell 3 rfl)
  have cn4 : ∀ dk osk, (grow (redrawn W dk) osk).cell? ⟨w.heap.size, 4, none⟩ = some (.int .i64 x0) := cell_regrown (kn.cell 4 rfl)
  have cn5 : ∀ dk osk, (grow (redrawn W dk) osk).cell? ⟨w.heap.size, 5, none⟩ = some (.int .i64 x1) := cell_regrown (kn.cell 5 rfl)
  have cn6 : ∀ dk osk, (grow (redrawn W dk) osk).cell? ⟨w.heap.size, 6, none⟩ = some (.int .i64 x2) := cell_regrown (kn.cell 6 rfl)
  have cn7 : ∀ dk osk, (grow (redrawn W dk) osk).cell? ⟨w.heap.size, 7, none⟩ = some (.int .i64 x3) := cell_regrown (kn.cell 7 rfl)
  have cn8 : ∀ dk osk, (grow (redrawn W dk) osk).cell? ⟨w.heap.size, 8, none⟩ = some (.int .i64 x4) := cell_regrown (kn.cell 8 rfl)
  have cn9 : ∀ dk osk, (grow (redrawn W dk) osk).cell? ⟨w.heap.size, 9, none⟩ = some (.int .i64 x5) := cell_regrown (kn.cell 9 rfl)
  have cn10 : ∀ dk osk, (grow (redrawn W dk) osk).cell? ⟨w.heap.size, 10, none⟩ = some (.int .i64 x6) := cell_regrown (kn.cell 10 rfl)
  have cn11 : ∀ dk osk, (grow (redrawn W dk) osk).cell? ⟨w.heap.size, 11, none⟩ = some (.int .i64 x7) := cell_regrown (kn.cell 11 rfl)
  have cs0 : ∀ dk osk, (grow (redrawn W dk) osk).cell? ⟨sb, 0, none⟩ = some (.int .i64 most) := cell_regrown (ks.cell 0 rfl)
  have cs1 : ∀ dk osk, (grow (redrawn W dk) osk).cell? ⟨sb, 1, none⟩ = some (.slice na nn nc) := cell_regrown (ks.cell 1 rfl)
  have cs2 : ∀ dk osk, (grow (redrawn W dk) osk).cell? ⟨sb, 2, none⟩ = some (.map (some mb)) := cell_regrown (ks.cell 2 rfl)
  refine wp_region_quiet_below (by kernel_rfl) (by kernel_rfl) ?_
  repeat (first | go_big_quiet_step ((fail)) | quiet_step (fail))
  refine wpQuiet_nil ?_
  rintro _ ⟨⟨dq, osq⟩, rfl⟩
  have hb := below_regrown W dq osq
  clear cn0 cn1 cn2 cn3 cn4 cn5 cn6 cn7 cn8 cn9 cn10 cn11
  clear cs0 cs1 cs2
  replace hB := hB.trans (hb.mono hB.size)
  replace kn := kn.later hb
  replace ks := ks.later hb
  replace hSz := Nat.le_trans hSz hb.size
  clear hb
  generalize grow (redrawn W dq) osq = W1 at *
  clear hl2
  go_wp2_with fail
  have cs0 : ∀ dk osk, (grow (redrawn W1 dk) osk).cell? ⟨sb, 0, none⟩ = some (.int .i64 most) := cell_regrown (ks.cell 0 rfl)
  have cs1 : ∀ dk osk, (grow (redrawn W1 dk) osk).cell? ⟨sb, 1, none⟩ = some (.slice na nn nc) := cell_regrown (ks.cell 1 rfl)
  have cs2 : ∀ dk osk, (grow (redrawn W1 dk) osk).cell? ⟨sb, 2, none⟩ = some (.map (some mb)) := cell_regrown (ks.cell 2 rfl)
  refine wp_region_quiet_below (by kernel_rfl) (by kernel_rfl) ?_
  repeat (first | go_big_quiet_step ((fail)) | quiet_step (fail))
  refine wpQuiet_nil ?_
  rintro _ ⟨⟨dq, osq⟩, rfl⟩
  have hb := below_regrown W1 dq osq
  clear cs0 cs1 cs2
  replace hB := hB.trans (hb.mono hB.size)
  replace kn := kn.later hb
  replace ks := ks.later hb
  replace hSz := Nat.le_trans hSz hb.size
  clear hb
  generalize grow (redrawn W1 dq) osq = W2 at *
  go_wp2_with fail
  go_ret2
  exact ⟨rfl, hB⟩
end Go.Proofs.YtabclecmehdeoaaGreat
end
section
/- Reading a store: Len, Kind, Depth. -/
namespace Go.Proofs.YtabclecmehdeoaaGreat
open Go.RowKit Go.Sort Go.Maps
open Oct

theorem flat_get {α : Type} (f : Tr → List α) (m : Nat) : ∀ (l : List Tr), (∀ x ∈ l, (f x).length = m) → ∀ (i : Nat) (t : Tr) (j : Nat), l[i]? = some t → j < m → (l.flatMap f)[i * m + j]? = (f t)[j]?
  | [], _, i, t, j, h, _ => by simp at h
  | x :: r, hl, 0, t, j, h, hj => by
    simp at h
    subst h
    rw [List.flatMap_cons, Nat.zero_mul, Nat.zero_add, List.getElem?_append_left (by rw [hl x (by simp)]; exact hj)]
  | x :: r, hl, i + 1, t, j, h, hj => by
    rw [List.flatMap_cons, List.getElem?_append_right (by rw [hl x (by simp), Nat.succ_mul]; omega), hl x (by simp)]
    rw [show (i + 1) * m + j - m = i * m + j by rw [Nat.succ_mul]; omega]
    exact flat_get f m r (fun y hy => hl y (by simp [hy])) i t j (by simpa using h) hj
theorem nodeV_len (ts : List Tr) (t : Tr) : (nodeV ts t).cells.toList.length = 12 := by cases t <;> rfl
/-- the cells of a node -/
theorem StoreIs.node {w : World} {Far : Nat → Prop} {sb : Nat} {most : Int} {ts : List Tr} (h : StoreIs w Far sb most ts) {i : Nat} {t : Tr} (ht : ts[i]? = some t) :
    ∃ g cap mb, Bk w sb #[.int .i64 most, .slice (some ⟨g, 0, none⟩) ts.length cap, .map (some mb)] 59 ∧ i < ts.length ∧ ∀ j u, j < 12 → (nodeV ts t).cells.toList[j]? = some u → w.cell? ⟨g, i * 12 + j, none⟩ = some u := by
  obtain ⟨mb, nv, h1, h2, _⟩ := h
  have hi : i < ts.length := (List.getElem?_eq_some_iff.1 ht).1
  rcases h2.2 with ⟨_, h0⟩ | ⟨g, cap, cur, rfl, _⟩
  · omega
  · refine ⟨g, cap, mb, h1, hi, fun j u hj hu => ?_⟩
    have hc := World.ownsRow.cells h2 (g := g) rfl (i * 12 + j) u (by unfold rowV; rw [flat_get _ 12 ts (fun x _ => nodeV_len ts x) i t j ht hj]; exact hu)
    have e : (⟨g, 0, none⟩ : Addr).add (i * 12 + j) = ⟨g, i * 12 + j, none⟩ := by unfold Addr.add; split <;> simp_all
    rw [e] at hc; exact hc
theorem kind_any (Far : Nat → Prop) (sb : Nat) (most : Int) (ts : List Tr) (i : Nat) (t : Tr) (ht : ts[i]? = some t) (v : Int) (hv : (nodeV ts t).cells.toList[0]? = some (.int .i64 v)) (_hlen : ts.length ≤ 4194304) (w : World) (hS : StoreIs w Far sb most ts) :
    Calls Tryz.prog 19 #[.pointer (some ⟨sb, 0, none⟩), .int .i64 (i : Int)] w fun e' w' => e' = .returned (.int .i64 v) ∧ w = w' := by
  obtain ⟨g, cap, mb, ks, hi, hc⟩ := hS.node ht
  have hcv := hc 0 _ (by omega) hv
  try rw [Nat.add_zero] at hcv
  have cs1 := ks.cell 1 rfl
  have b1 : (0 : Int) ≤ (i : Int) := by omega
  have b2 : (i : Int) < (ts.length : Int) := by omega
  clear hc ks hS hv ht
  generalize ts.length = n at *
  go_enter Tryz.func19, Tryz.ntmps19
  go_wp2_with fail
  go_ret
  exact ⟨rfl, rfl⟩
theorem depth_any (Far : Nat → Prop) (sb : Nat) (most : Int) (ts : List Tr) (i : Nat) (t : Tr) (ht : ts[i]? = some t) (v : Int) (hv : (nodeV ts t).cells.toList[3]? = some (.int .i64 v)) (_hlen : ts.length ≤ 4194304) (w : World) (hS : StoreIs w Far sb most ts) :
    Calls Tryz.prog 20 #[.pointer (some ⟨sb, 0, none⟩), .int .i64 (i : Int)] w fun e' w' => e' = .returned (.int .i64 v) ∧ w = w' := by
  obtain ⟨g, cap, mb, ks, hi, hc⟩ := hS.node ht
  have hcv := hc 3 _ (by omega) hv
  try rw [Nat.add_zero] at hcv
  have cs1 := ks.cell 1 rfl
  have b1 : (0 : Int) ≤ (i : Int) := by omega
  have b2 : (i : Int) < (ts.length : Int) := by omega
  clear hc ks hS hv ht
  generalize ts.length = n at *
  go_enter Tryz.func20, Tryz.ntmps20
  go_wp2_with fail
  go_ret
  exact ⟨rfl, rfl⟩
theorem len_any (Far : Nat → Prop) (sb : Nat) (most : Int) (ts : List Tr) (w : World) (hS : StoreIs w Far sb most ts) :
    Calls Tryz.prog 10 #[.pointer (some ⟨sb, 0, none⟩)] w fun e' w' => e' = .returned (.int .i64 (ts.length : Int)) ∧ w = w' := by
  obtain ⟨mb, nv, ks, hrow, _⟩ := hS
  obtain ⟨na, nc, rfl⟩ := row_form hrow
  have cs1 := ks.cell 1 rfl
  clear hrow ks
  generalize ts.length = n at *
  go_enter Tryz.func10, Tryz.ntmps10
  go_wp2_with fail
  go_ret
  exact ⟨rfl, rfl⟩
theorem Bk.put8 {w : World} {g : Nat} {t : TypeId} {v : Value} (h : Bk w g #[v, v, v, v, v, v, v, v] t) (a b c d e f i j : Value) :
    Bk ((((((((w.setCell ⟨g, 0, none⟩ a).setCell ⟨g, 1, none⟩ b).setCell ⟨g, 2, none⟩ c).setCell ⟨g, 3, none⟩ d).setCell ⟨g, 4, none⟩ e).setCell ⟨g, 5, none⟩ f).setCell ⟨g, 6, none⟩ i).setCell ⟨g, 7, none⟩ j) g #[a, b, c, d, e, f, i, j] t := by
  simpa using (((((((h.set 0 a).set 1 b).set 2 c).set 3 d).set 4 e).set 5 f).set 6 i).set 7 j
theorem blw8 {B : Nat} {a w : World} (h : Below B a w) {g : Nat} (hg : B ≤ g) (x y z x' y' z' s s' : Value) :
    Below B a ((((((((w.setCell ⟨g, 0, none⟩ x).setCell ⟨g, 1, none⟩ y).setCell ⟨g, 2, none⟩ z).setCell ⟨g, 3, none⟩ x').setCell ⟨g, 4, none⟩ y').setCell ⟨g, 5, none⟩ z').setCell ⟨g, 6, none⟩ s).setCell ⟨g, 7, none⟩ s') :=
  (((((((h.setCell hg _).setCell hg _).setCell hg _).setCell hg _).setCell hg _).setCell hg _).setCell hg _).setCell hg _
set_option maxHeartbeats 1000000 in
theorem children_any (Far : Nat → Prop) (sb : Nat) (most : Int) (ts : List Tr) (i : Nat) (t : Tr) (ht : ts[i]? = some t) (x0 x1 x2 x3 x4 x5 x6 x7 : Int) (hv : ∀ j u, #[Value.int .i64 x0, Value.int .i64 x1, Value.int .i64 x2, Value.int .i64 x3, Value.int .i64 x4, Value.int .i64 x5, Value.int .i64 x6, Value.int .i64 x7].toList[j]? = some u → (nodeV ts t).cells.toList[4 + j]? = some u) (w : World) (hS : StoreIs w Far sb most ts) :
    Calls Tryz.prog 18 #[.pointer (some ⟨sb, 0, none⟩), .int .i64 (i : Int)] w fun e' w' => e' = .returned (.agg #[.int .i64 x0, .int .i64 x1, .int .i64 x2, .int .i64 x3, .int .i64 x4, .int .i64 x5, .int .i64 x6, .int .i64 x7]) ∧ Below w.heap.size w w' := by
  have HS := Bx.mk hS
  have Hv := Bx.mk hv
  have Ht := Bx.mk ht
  clear hS hv ht
  go_enter Tryz.func18, Tryz.ntmps18
  go_upto_region 1 with fail
  generalize hW : World.alloc w _ = W
  have hSz : w.heap.size + 1 ≤ W.heap.size := by rw [← hW]; simp
  have hB : Below w.heap.size w W := by rw [← hW]; exact (Below.refl _ _).alloc (Nat.le_refl _) _
  have kr : Bk W (w.heap.size) #[.int .i64 0, .int .i64 0, .int .i64 0, .int .i64 0, .int .i64 0, .int .i64 0, .int .i64 0, .int .i64 0] 51 := by rw [← hW]; exact blk_new _ _ _ (by simp)
  clear hW
  have cr0 := kr.cell 0 rfl
  have cr1 := kr.cell 1 rfl
  have cr2 := kr.cell 2 rfl
  have cr3 := kr.cell 3 rfl
  have cr4 := kr.cell 4 rfl
  have cr5 := kr.cell 5 rfl
  have cr6 := kr.cell 6 rfl
  have cr7 := kr.cell 7 rfl
  have fr0 := kr.frozen 0
  have fr1 := kr.frozen 1
  have fr2 := kr.frozen 2
  have fr3 := kr.frozen 3
  have fr4 := kr.frozen 4
  have fr5 := kr.frozen 5
  have fr6 := kr.frozen 6
  have fr7 := kr.frozen 7
  obtain ⟨g, cap, mb, ks, hi, hc⟩ := (HS.out.later hB).node Ht.out
  have d0 := hc 4 _ (by omega) (Hv.out 0 _ rfl)
  have d1 := hc 5 _ (by omega) (Hv.out 1 _ rfl)
  have d2 := hc 6 _ (by omega) (Hv.out 2 _ rfl)
  have d3 := hc 7 _ (by omega) (Hv.out 3 _ rfl)
  have d4 := hc 8 _ (by omega) (Hv.out 4 _ rfl)
  have d5 := hc 9 _ (by omega) (Hv.out 5 _ rfl)
  have d6 := hc 10 _ (by omega) (Hv.out 6 _ rfl)
  have d7 := hc 11 _ (by omega) (Hv.out 7 _ rfl)
  have cs1 := ks.cell 1 rfl
  have b1 : (0 : Int) ≤ (i : Int) := by omega
  have b2 : (i : Int) < (ts.length : Int) := by omega
  clear hc HS Hv Ht ks
  generalize ts.length = n at *
  go_wp2_with fail
  replace kr := kr.put8 (.int .i64 x0) (.int .i64 x1) (.int .i64 x2) (.int .i64 x3) (.int .i64 x4) (.int .i64 x5) (.int .i64 x6) (.int .i64 x7)
  exact bodyPost_ret (v := .agg #[.int .i64 x0, .int .i64 x1, .int .i64 x2, .int .i64 x3, .int .i64 x4, .int .i64 x5, .int .i64 x6, .int .i64 x7]) (results_cell_row rfl _ _ _ 51 #[.int .i64 x0, .int .i64 x1, .int .i64 x2, .int .i64 x3, .int .i64 x4, .int .i64 x5, .int .i64 x6, .int .i64 x7] (0, 0) _ rfl kr Tryz.underlying51 rfl (by kernel_rfl)) rfl ⟨rfl, blw8 hB (by omega) _ _ _ _ _ _ _ _⟩

theorem keyF_nil (v : Value) : keyF [] v = none := by
  unfold keyF
  rw [dif_neg]
  rintro ⟨t, h, _⟩
  cases h
theorem newStore_any (most : Int) (w : World) : Calls Tryz.prog 6 #[.int .i64 most] w fun e' w' => ∃ sb, e' = .returned (.pointer (some ⟨sb, 0, none⟩)) ∧ StoreIs w' (fun k => k < w.heap.size) sb most [] ∧ Below w.heap.size w w' := by
  have hmm := @run_makeMap Tryz.prog
  go_enter Tryz.func6, Tryz.ntmps6
  go_wp2_with fail
  generalize hW1 : World.alloc w (Obj.map #[] 0) = W1
  have hB1 : Below w.heap.size w W1 := by rw [← hW1]; exact (Below.refl _ _).alloc (Nat.le_refl _) _
  have hM : MapFn W1 w.heap.size 0 (fun _ => none) := by rw [← hW1]; exact MapFn.made w
  have hs1 : W1.heap.size = w.heap.size + 1 := by rw [← hW1]; simp
  clear hW1
  generalize hW2 : World.alloc W1 _ = W2
  have hb2 : Below W1.heap.size W1 W2 := by rw [← hW2]; exact (Below.refl _ _).alloc (Nat.le_refl _) _
  have ks : Bk W2 W1.heap.size #[.int .i64 most, .slice none 0 0, .map (some w.heap.size)] 59 := by rw [← hW2]; exact blk_new _ _ _ rfl
  clear hW2
  rw [hs1] at ks
  go_ret
  refine ⟨w.heap.size + 1, by simp, ⟨w.heap.size, .slice none 0 0, ks, World.ownsRow_nil _ _ _ _, ((hM.kept (row := none) (grown_of_below hb2) (by simp)).congr fun key kl _ => (keyF_nil key).symm), by omega, by omega, fun g hg => by simp [Value.ownBlock] at hg, by omega, by simp [Value.ownBlock], by simp [Value.ownBlock]⟩, hB1.trans (hb2.mono (by omega))⟩
end Go.Proofs.YtabclecmehdeoaaGreat
end
section
/- append to an own row, as one step of a region that draws its order. -/
namespace Go.Proofs.YtabclecmehdeoaaGreat
open Go.RowKit Go.Sort Go.Maps

theorem step_append_at {P : Program} {ops : Array Oper} {o : Oper} {a : Act} {w : World} {K : Act → World → Prop} {Q : Exit → Act → World → Prop} {E : Prop} (hgd : o.guard = none) (s x : Operand) (t : TypeId)
    (ho : o.op = .call { callee := .builtin .append, args := #[s, x], argTypes := #[t, t] })
    (base : Nat) (e : TypeId) (i : TypeInfo) (z : Value) (size bytes : Nat) (ht : P.underlying t = some (.slice e)) (hi : P.info? e = some i) (hz : i.zero = some z)
    (hsize : i.size = size) (hby : i.bytes = bytes) (hzs : z.cells.size = size) (hsz : 0 < size)
    (v : Value) (n : Nat) (xs : List Value) (hs : a.eval s = v) (hown : w.ownsRow base e size v n xs)
    (ad : Addr) (m c : Nat) (news : List Value) (hx : a.eval x = .slice (some ad) m c) (hl : news.length = m * size) (hnews : ∀ j u, news[j]? = some u → w.cell? (ad.add j) = some u) (h1 : ∀ u ∈ news, u.oneCell' = true)
    (h63 : n + m ≤ maxLen) (hbytes : (n + m) * bytes ≤ 140737488355328) (hbase : base ≤ w.heap.size)
    (h : ∀ v' w', Bx (w'.ownsRow base e size v' (n + m) (xs ++ news)) → Bx (w.grownBy w' v.ownBlock) → Bx (v'.ownBlock = v.ownBlock ∨ v'.ownBlock = some w.heap.size) → K (a.put o.dst v') w') :
    if Region.wanted o (yielded ops a.tmps) = true then Oper.wp P o a w K Q else E := by
  have hw : Region.wanted o (yielded ops a.tmps) = true := by simp [Region.wanted, hgd]
  rw [if_pos hw]
  obtain ⟨v', w', hr, h2, h3, h4, h5⟩ := run_append_own_at (P := P) w base t o.type e i z size bytes ht hi hz hsize hby hzs hsz v n xs hown ad m c news hl hnews h1 h63 hbytes hbase
  unfold Oper.wp
  simp [execOp, ho, resolve, invoke, builtin, hs, hx, hr, Result.andThen]
  exact h v' w' ⟨h2⟩ ⟨h3⟩ ⟨h5⟩
end Go.Proofs.YtabclecmehdeoaaGreat
end
