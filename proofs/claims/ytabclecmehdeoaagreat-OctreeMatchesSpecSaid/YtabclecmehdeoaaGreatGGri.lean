import Derived.Test.YtabclecmehdeoaaGreatGGen
section
/- Store.Grid, by the program. -/
namespace Go.Proofs.YtabclecmehdeoaaGreat
open Go.RowKit Go.Sort Go.Maps
open Oct

/-- the first k cells are filled -/
def fillL (b : Box) (F : Pt → Int) (m k : Nat) : List Int := (List.range m).map fun j : Nat => if j < k then F (atB b (j : Int)) else 0
theorem fillL_length (b : Box) (F : Pt → Int) (m k : Nat) : (fillL b F m k).length = m := by simp [fillL]
theorem fillL_zero (b : Box) (F : Pt → Int) (m : Nat) : fillL b F m 0 = List.replicate m 0 := by
  unfold fillL
  apply List.ext_getElem?
  intro i
  simp only [List.getElem?_map, List.getElem?_replicate]
  by_cases hi : i < m
  · simp [hi]
  · simp [hi]
theorem fillL_all (b : Box) (F : Pt → Int) : fillL b F (volB b).toNat (volB b).toNat = cellsOf b F := by
  unfold fillL cellsOf
  apply List.map_congr_left
  intro i hi
  rw [if_pos (List.mem_range.1 hi)]
theorem fillL_set (b : Box) (F : Pt → Int) {m k : Nat} (hk : k < m) : (fillL b F m k).set k (F (atB b (k : Int))) = fillL b F m (k + 1) := by
  unfold fillL
  apply List.ext_getElem?
  intro i
  rw [List.getElem?_set]
  simp only [List.getElem?_map, List.length_map, List.length_range]
  by_cases hi : i < m
  · by_cases e : k = i
    · subst e; simp [hk]
    · rw [if_neg e]
      simp only [List.getElem?_range hi, Option.map_some, Option.some.injEq]
      by_cases h1 : i < k
      · rw [if_pos h1, if_pos (by omega)]
      · rw [if_neg h1, if_neg (by omega)]
  · rw [if_neg (by omega)]
    simp [hi]
theorem fillL_at (b : Box) (F : Pt → Int) {m k : Nat} (hk : k < m) : (fillL b F m k)[k]? = some 0 := by
  unfold fillL
  simp [hk]
theorem sl_put7 {w : World} {k : IntKind} {g r off : Nat} {xs : List Int} (h : Sl w k (some ⟨g, off, none⟩) xs) (hne : g ≠ r) (x0 x1 x2 x3 x4 x5 x6 : Value) :
    Sl (((((((w.setCell ⟨r, 0, none⟩ x0).setCell ⟨r, 1, none⟩ x1).setCell ⟨r, 2, none⟩ x2).setCell ⟨r, 3, none⟩ x3).setCell ⟨r, 4, none⟩ x4).setCell ⟨r, 5, none⟩ x5).setCell ⟨r, 6, none⟩ x6) k (some ⟨g, off, none⟩) xs := by
  have one : ∀ (w : World) (j : Nat) (x : Value), Sl w k (some ⟨g, off, none⟩) xs → Sl (w.setCell ⟨r, j, none⟩ x) k (some ⟨g, off, none⟩) xs := fun w j x h => h.grown (grown_setCell w ⟨r, j, none⟩ x) hne
  exact one _ _ _ (one _ _ _ (one _ _ _ (one _ _ _ (one _ _ _ (one _ _ _ (one _ _ _ h))))))
structure GrI (w : World) (bv rv gv : Array Value) (g gg m cap : Nat) (xs : List Int) (wr : World) : Prop where
  own : Own wr w.heap.size 3 .i64 (.slice (some ⟨g, 0, none⟩) m cap) xs
  bel : Below w.heap.size w wr
  kb : Bk wr w.heap.size bv 25
  kr : Bk wr (w.heap.size + 1) rv 28
  kg : Bk wr gg gv 28
end Go.Proofs.YtabclecmehdeoaaGreat
end
section
/- voxelref09.Uniform, Brick; voxelref08.Brick, by the program. -/
namespace Go.Proofs.YtabclecmehdeoaaGreat
open Go.RowKit Go.Sort Go.Maps
open Oct

set_option maxRecDepth 20000 in
theorem ref9_uniform (c : Int) (hc : 0 ≤ c ∧ c ≤ 255) (w : World) :
    Calls Tryz.prog 73 #[.int .i64 c] w fun e w' => e = .returned (.string (strOfNums (Tr.enc (.uni c)))) ∧ Below w.heap.size w w' := by
  have hw : IntKind.u8.wrap c = c := by unfold IntKind.wrap; simp [IntKind.bits, IntKind.signed]; omega
  have hsl : Sl (w.alloc (.cells #[.int .u8 c] 5)) .u8 (some ⟨w.heap.size, 0, none⟩) [c] := fun i x hx => by
    match i with
    | 0 => simp at hx; subst hx; exact ⟨_, _, rfl, cell_new _ _ _⟩
    | i + 1 => simp at hx
  have hcv := conv_str (P := Tryz.prog) 90 5 9 Tryz.underlying90 Tryz.underlying5 Tryz.underlying9 hsl 1 1 rfl
  have hst := Bx.mk (show (strOfNums [117]) ++ strOfNums [c] = strOfNums (Tr.enc (.uni c)) from str_append [117] [c])
  clear hsl
  go_enter Tryz.func73, Tryz.ntmps73
  go_wp2_with fail
  go_ret
  exact ⟨by first | (rw [← hst.out]; rfl) | trace_state, (Below.refl _ _).alloc (Nat.le_refl _) _⟩
def sameL (xs : List Int) (k : Nat) : Bool := (xs.take k).all fun x => x == xs.headD 0
theorem sameL_succ {xs : List Int} {k : Nat} {x : Int} (h : xs[k]? = some x) : sameL xs (k + 1) = (sameL xs k && (x == xs.headD 0)) := by
  unfold sameL
  rw [take_snoc_at h, List.all_append]
  simp
theorem sameL_all {xs : List Int} {n : Nat} (hn : xs.length = n) : sameL xs n = true ↔ ∀ x ∈ xs, x = xs.headD 0 := by
  unfold sameL
  rw [List.take_of_length_le (by omega), List.all_eq_true]
  simp
set_option maxRecDepth 100000 in
set_option maxHeartbeats 2000000 in
theorem ref9_brick (a : Option Addr) (cap : Nat) (xs : List Int) (w : World) (hn : xs.length = 64) (hb : xs.all Pal.cell = true) (h : Sl w .i64 a xs) :
    Calls Tryz.prog 75 #[.slice a 64 cap] w fun e w' => e = .returned (.string (strOfNums (Tr.enc (Tr.mkBrick xs)))) ∧ Below w.heap.size w w' := by
  have hcells := all_cell hb
  obtain ⟨x0, hx0⟩ : ∃ x, xs[0]? = some x := ⟨_, List.getElem?_eq_getElem (by omega)⟩
  obtain ⟨b, off, rfl, hc0⟩ := h 0 x0 hx0
  have hd : xs.headD 0 = x0 := by cases xs with
    | nil => simp at hx0
    | cons y r => simpa using hx0
  rw [Nat.add_zero] at hc0
  have Hs := Bx.mk h
  have Hn := Bx.mk hn
  have Hc := Bx.mk hcells
  have Hd := Bx.mk hd
  have Hx0 := Bx.mk hx0
  have Hc0 := Bx.mk hc0
  have hu := Bx.mk fun W => ref9_uniform x0 (hcells x0 (List.mem_of_getElem? hx0)) W
  clear h hn hb hcells hd hx0 hc0
  go_enter Tryz.func75, Tryz.ntmps75
  go_wp2_with fail
  go_loopw [3, 4, 5] (fun v s i wr => ∃ k : Nat, k ≤ 64 ∧ i = .int .i64 k ∧ s = .bool (sameL xs k) ∧ Bx (Own wr w.heap.size 5 .u8 v (xs.take k)) ∧ Bx (Below w.heap.size w wr)) (fun _ _ i _ => 64 - (intOf i).toNat)
  case atStart => exact ⟨0, Nat.zero_le _, rfl, rfl, ⟨Own.nil _ _ _ _⟩, ⟨Below.refl _ _⟩⟩
  case round =>
    obtain ⟨k, hk, rfl, rfl, hown, hbw⟩ := hrel
    have hc0 := (Hs.out.below hbw.out) 0 x0 Hx0.out
    obtain ⟨b0, off0, hbo0, hc0⟩ := hc0
    simp only [Option.some.injEq, Addr.mk.injEq, and_true] at hbo0
    obtain ⟨rfl, rfl⟩ := hbo0
    rw [Nat.add_zero] at hc0
    by_cases hlt : k < 64
    · obtain ⟨x, hx⟩ := at_lt Hn hlt
      obtain ⟨b', off', hbo, hc⟩ := (Hs.out.below hbw.out) k x hx
      simp only [Option.some.injEq, Addr.mk.injEq, and_true] at hbo
      obtain ⟨rfl, rfl⟩ := hbo
      have hr := Hc.out x (List.mem_of_getElem? hx)
      have hnext := Bx.mk (take_snoc_at hx)
      have hsn := Bx.mk (sameL_succ hx)
      have b3 : (0 : Int) ≤ (k : Int) := by omega
      have b4 : (k : Int) < 64 := by omega
      have hwrap : IntKind.u8.wrap x = x := by unfold IntKind.wrap; simp [IntKind.bits, IntKind.signed]; omega
      have hle := hbw.out.size
      have Htl := Bx.mk (show (xs.take k).length ≤ 1000000000 by rw [List.length_take]; omega)
      have Hcw := Bx.mk hc
      have Hcw0 := Bx.mk hc0
      have HX := Bx.mk hx
      clear hx
      go_wp2_with (first
        | (at_builtin
           refine wpList_append_int rfl _ _ 90 rfl 5 .u8 (.int .u8 0) 1 (by omega) Tryz.underlying90 (by kernel_rfl) rfl w.heap.size _ (xs.take k) rfl (hown.out.alloc _) x ⟨wr.heap.size, 0, none⟩ 1 rfl (cell_new _ _ _) Htl.out (le_alloc hle _) ?_
           intro v1 w1 hown1 hg1 _))
      have hown2 := Bx.mk hown1
      rw [← hnext.out] at hown2
      have hbw2 := Bx.mk ((hbw.out.alloc hle (.cells #[.int .u8 x] 5)).grown hg1 (le_alloc hle _) (fun g hg => (hown.out.lt g hg).1))
      have hc1 := (Hs.out.below hbw2.out) k x HX.out
      have hc2 := (Hs.out.below hbw2.out) 0 x0 Hx0.out
      obtain ⟨b3', off3, hbo3, hc1⟩ := hc1
      simp only [Option.some.injEq, Addr.mk.injEq, and_true] at hbo3
      obtain ⟨rfl, rfl⟩ := hbo3
      obtain ⟨b4', off4, hbo4, hc2⟩ := hc2
      simp only [Option.some.injEq, Addr.mk.injEq, and_true] at hbo4
      obtain ⟨rfl, rfl⟩ := hbo4
      rw [Nat.add_zero] at hc2
      have Hc1 := Bx.mk hc1
      have Hc2 := Bx.mk hc2
      clear hown1 hg1 hc hc0 hc1 hc2 hown hbw hle Hcw Hcw0
      cases hq : sameL xs k with
      | false =>
        refine wp_region_quiet_below (by kernel_rfl) (by kernel_rfl) ?_
        repeat (first | go_big_quiet_step ((fail)) | quiet_step (fail))
        refine wpQuiet_nil ?_
        rintro _ ⟨⟨dq, osq⟩, rfl⟩
        have hb0 := below_regrown w1 dq osq
        replace hown2 := Bx.mk (hown2.out.below hb0)
        replace hbw2 := Bx.mk (hbw2.out.trans (hb0.mono hbw2.out.size))
        generalize grow (redrawn w1 dq) osq = w7 at *
        go_wp2_with fail
        go_roundw
        case rel => exact ⟨k + 1, by omega, by go_num, by rw [hsn.out, hq]; rfl, hown2, hbw2⟩
        case measure => simp [intOf]; omega
      | true =>
        have qc1 : ∀ dk osk, (grow (redrawn w1 dk) osk).cell? ⟨b, off + k, none⟩ = some (.int .i64 x) := cell_regrown Hc1.out
        have qc2 : ∀ dk osk, (grow (redrawn w1 dk) osk).cell? ⟨b, off, none⟩ = some (.int .i64 x0) := cell_regrown Hc2.out
        refine wp_region_quiet_below (by kernel_rfl) (by kernel_rfl) ?_
        repeat (first | go_big_quiet_step ((fail)) | quiet_step (fail))
        refine wpQuiet_nil ?_
        rintro _ ⟨⟨dq, osq⟩, rfl⟩
        have hb0 := below_regrown w1 dq osq
        replace hown2 := Bx.mk (hown2.out.below hb0)
        replace hbw2 := Bx.mk (hbw2.out.trans (hb0.mono hbw2.out.size))
        generalize grow (redrawn w1 dq) osq = w7 at *
        go_wp2_with fail
        go_roundw
        case rel => exact ⟨k + 1, by omega, by go_num, by rw [hsn.out, hq, Hd.out]; rfl, hown2, hbw2⟩
        case measure => simp [intOf]; omega
    · obtain rfl : k = 64 := by omega
      have hfull := Bx.mk (show xs.take 64 = xs from List.take_of_length_le (by rw [Hn.out]; omega))
      cases hq : sameL xs 64 with
      | true =>
        have hm : Tr.mkBrick xs = .uni x0 := by unfold Tr.mkBrick; rw [if_pos ((sameL_all Hn.out).1 hq), Hd.out]
        have Hm := Bx.mk hm
        clear hm hq
        go_wp2_with fail
        refine (hu.out _).mono ?_
        rintro _ w2 ⟨rfl, hb2⟩
        go_wp2_with fail
        go_ret
        exact ⟨by rw [Hm.out]; rfl, hbw.out.trans (hb2.mono hbw.out.size)⟩
      | false =>
        have hm : Tr.mkBrick xs = .brick xs := by unfold Tr.mkBrick; rw [if_neg (fun e => by rw [(sameL_all Hn.out).2 e] at hq; cases hq)]
        have Hm := Bx.mk hm
        have hown2 := hown.out
        rw [hfull.out] at hown2
        obtain ⟨pa, pc, rfl, hsl⟩ := hown2.form
        have hcv := conv_str (P := Tryz.prog) 90 5 9 Tryz.underlying90 Tryz.underlying5 Tryz.underlying9 hsl xs.length pc rfl
        have hsz : (strOfNums xs).size = 64 := by rw [strOfNums_size, Hn.out]
        have hst := Bx.mk (show (strOfNums [98]) ++ strOfNums xs = strOfNums (Tr.enc (.brick xs)) from str_append [98] xs)
        clear hm hq hsl hown2 hown
        go_wp2_with fail
        go_ret
        exact ⟨by rw [Hm.out, ← hst.out]; rfl, hbw.out⟩
set_option maxRecDepth 100000 in
set_option maxHeartbeats 2000000 in
theorem ref9_cells (l : List Int) (hl : l.length = 64) (hb : ∀ x ∈ l, 0 ≤ x ∧ x ≤ 255) (w : World) :
    Calls Tryz.prog 49 #[.string (strOfNums (98 :: l))] w fun e w' => ∃ pa pc, e = .returned (.slice pa 64 pc) ∧ Sl w' .i64 pa l ∧ Below w.heap.size w w' := by
  have hby : Byt (98 :: l) := fun x hx => by
    rcases List.mem_cons.1 hx with rfl | hx
    · omega
    · exact hb x hx
  have Hby := Bx.mk hby
  have Hl := Bx.mk hl
  have Hb := Bx.mk hb
  have hi0 := fun W : World => idx_str (P := Tryz.prog) 9 Tryz.underlying9 hby (k := 0) (x := 98) rfl W
  obtain ⟨S, hS⟩ : ∃ S, S = strOfNums (98 :: l) := ⟨_, rfl⟩
  have HS := Bx.mk hS
  rw [← hS] at hi0 ⊢
  rw [show ((0 : Nat) : Int) = 0 from rfl] at hi0
  clear hl hb hby hS
  go_enter Tryz.func49, Tryz.ntmps49
  go_wp2_with fail
  go_loopw [3, 4] (fun v i wr => ∃ k : Nat, k ≤ 64 ∧ i = .int .i64 k ∧ Bx (Own wr w.heap.size 3 .i64 v (l.take k)) ∧ Bx (Below w.heap.size w wr)) (fun _ i _ => 64 - (intOf i).toNat)
  case atStart => exact ⟨0, Nat.zero_le _, rfl, ⟨Own.nil _ _ _ _⟩, ⟨Below.refl _ _⟩⟩
  case round =>
    obtain ⟨k, hk, rfl, hown, hbw⟩ := hrel
    by_cases hlt : k < 64
    · obtain ⟨x, hx⟩ := at_lt Hl hlt
      have hr := Hb.out x (List.mem_of_getElem? hx)
      have hnext := Bx.mk (take_snoc_at hx)
      have hik := fun W : World => idx_str (P := Tryz.prog) 9 Tryz.underlying9 Hby.out (k := k + 1) (x := x) (by simpa using hx) W
      rw [← HS.out, show ((k + 1 : Nat) : Int) = 1 + (k : Int) by omega] at hik
      have b3 : (0 : Int) ≤ (k : Int) := by omega
      have b4 : (k : Int) < 64 := by omega
      have hw1 : IntKind.i64.wrap (1 + (k : Int)) = 1 + (k : Int) := IntWalk.i64_in _ (by omega)
      have hwrap : IntKind.i64.wrap x = x := IntWalk.i64_in _ (by omega)
      have hle := hbw.out.size
      have Htl := Bx.mk (show (l.take k).length ≤ 1000000000 by rw [List.length_take]; omega)
      clear hx
      go_wp2_with (first
        | (at_builtin
           refine wpList_append_int rfl _ _ 26 rfl 3 .i64 (.int .i64 0) 8 (by omega) Tryz.underlying26 (by kernel_rfl) rfl w.heap.size _ (l.take k) rfl (hown.out.alloc _) x ⟨wr.heap.size, 0, none⟩ 1 rfl (cell_new _ _ _) Htl.out (le_alloc hle _) ?_
           intro v1 w1 hown1 hg1 _))
      have hown2 := Bx.mk hown1
      rw [← hnext.out] at hown2
      have hbw2 := Bx.mk ((hbw.out.alloc hle (.cells #[.int .i64 x] 3)).grown hg1 (le_alloc hle _) (fun g hg => (hown.out.lt g hg).1))
      clear hown1 hg1
      go_roundw
      case rel => exact ⟨k + 1, by omega, by go_num, hown2, hbw2⟩
      case measure => simp [intOf]; omega
    · obtain rfl : k = 64 := by omega
      have hown2 := hown.out
      rw [List.take_of_length_le (by rw [Hl.out]; omega)] at hown2
      obtain ⟨pa, pc, rfl, hsl⟩ := hown2.form
      have Hsl := Bx.mk hsl
      have hll : l.length = 64 := Hl.out
      clear hown2 hown hsl
      go_wp2_with fail
      go_ret
      exact ⟨pa, pc, congrArg (fun n => Ending.returned (Value.slice pa n pc)) Hl.out, Hsl.out, hbw.out⟩
end Go.Proofs.YtabclecmehdeoaaGreat
end
section
/- voxellaw09.describes, of a uniform node and of a brick, by the program. -/
namespace Go.Proofs.YtabclecmehdeoaaGreat
open Go.RowKit Go.Sort Go.Maps
open Oct

theorem kind_b (Far : Nat → Prop) (sb : Nat) (most : Int) (ts : List Tr) (t : Tr) (ht : t ∈ ts) (v : Int) (hv : (nodeV ts t).cells.toList[0]? = some (.int .i64 v)) (hlen : ts.length ≤ 4194304) (w : World) (hS : StoreIs w Far sb most ts) :
    Calls Tryz.prog 19 #[.pointer (some ⟨sb, 0, none⟩), .int .i64 (idT ts t : Int)] w fun e' w' => e' = .returned (.int .i64 v) ∧ Below w.heap.size w w' :=
  (kind_any Far sb most ts _ t (idT_get ht) v hv hlen w hS).mono fun _e _w' ⟨h1, h2⟩ => ⟨h1, h2 ▸ Below.refl _ _⟩
theorem depth_b (Far : Nat → Prop) (sb : Nat) (most : Int) (ts : List Tr) (t : Tr) (ht : t ∈ ts) (v : Int) (hv : (nodeV ts t).cells.toList[3]? = some (.int .i64 v)) (hlen : ts.length ≤ 4194304) (w : World) (hS : StoreIs w Far sb most ts) :
    Calls Tryz.prog 20 #[.pointer (some ⟨sb, 0, none⟩), .int .i64 (idT ts t : Int)] w fun e' w' => e' = .returned (.int .i64 v) ∧ Below w.heap.size w w' :=
  (depth_any Far sb most ts _ t (idT_get ht) v hv hlen w hS).mono fun _e _w' ⟨h1, h2⟩ => ⟨h1, h2 ▸ Below.refl _ _⟩
set_option maxRecDepth 100000 in
set_option maxHeartbeats 2000000 in
theorem describes_uni (w : World) (Far : Nat → Prop) (sb : Nat) (most : Int) (ts : List Tr) (c : Int) (hc : 0 ≤ c ∧ c ≤ 255) (ht : Tr.uni c ∈ ts) (hG : Good ts) (hlen : ts.length ≤ 4194304) (hS : StoreIs w Far sb most ts) :
    Calls Tryz.prog 13 #[.pointer (some ⟨sb, 0, none⟩), .int .i64 (idT ts (.uni c) : Int), .string (strOfNums (Tr.enc (.uni c)))] w fun e w' => e = .returned (.bool true) ∧ Below w.heap.size w w' := by
  have hcel := Bx.mk (cells_any w Far sb most ts (.uni c) ht hG (by omega) hS)
  have hK := Bx.mk fun W (h : Below w.heap.size w W) => kind_b Far sb most ts (.uni c) ht 1 rfl hlen W (hS.later h)
  have hD := Bx.mk fun W (h : Below w.heap.size w W) => depth_b Far sb most ts (.uni c) ht 0 rfl hlen W (hS.later h)
  have hby : Byt [117, c] := fun x hx => by
    simp only [List.mem_cons, List.not_mem_nil, or_false] at hx
    omega
  have hi0 := fun W : World => idx_str (P := Tryz.prog) 9 Tryz.underlying9 hby (k := 0) (x := 117) rfl W
  have hi1 := fun W : World => idx_str (P := Tryz.prog) 9 Tryz.underlying9 hby (k := 1) (x := c) rfl W
  rw [show ((0 : Nat) : Int) = 0 from rfl] at hi0
  rw [show ((1 : Nat) : Int) = 1 from rfl] at hi1
  have hwrap : IntKind.i64.wrap c = c := IntWalk.i64_in _ (by omega)
  rw [show Tr.enc (.uni c) = [117, c] by simp [Tr.enc]]
  generalize strOfNums [117, c] = S at *
  generalize (idT ts (.uni c) : Int) = id at *
  clear hby hc ht hG hlen hS
  go_enter Tryz.func13, Tryz.ntmps13
  go_wp2_with fail
  refine hcel.out.mono ?_
  rintro _ w1 ⟨v, rfl, how, hB⟩
  obtain ⟨pa, pc, rfl, hsl⟩ := how.form
  obtain ⟨b, off, rfl, hcell⟩ := hsl 0 c rfl
  rw [Nat.add_zero] at hcell
  have Hcell := Bx.mk hcell
  have hlen1 : (outT (.uni c)).length = 1 := rfl
  rw [hlen1]
  clear how hsl hcel hcell hlen1
  go_wp2_with fail
  have qc : ∀ dk osk, (grow (redrawn w1 dk) osk).cell? ⟨b, off, none⟩ = some (.int .i64 c) := cell_regrown Hcell.out
  have q0 := Bx.mk fun dk osk => Calls.regrown_of (hK.out _ (hB.trans ((below_regrown w1 dk osk).mono hB.size)))
  have q1 := Bx.mk fun dk osk => Calls.regrown_of (hD.out _ (hB.trans ((below_regrown w1 dk osk).mono hB.size)))
  refine wp_region_quiet_below (by kernel_rfl) (by kernel_rfl) ?_
  repeat (first | go_big_quiet_step ((first | with_reducible exact q0.out _ _ | with_reducible exact q1.out _ _)) | quiet_step (first | with_reducible exact q0.out _ _ | with_reducible exact q1.out _ _))
  refine wpQuiet_nil ?_
  rintro _ ⟨⟨dq, osq⟩, rfl⟩
  have hb0 := below_regrown w1 dq osq
  replace hB := hB.trans (hb0.mono hB.size)
  generalize grow (redrawn w1 dq) osq = w2 at *
  clear q0 q1 qc
  go_wp2_with fail
  go_ret
  exact ⟨rfl, hB⟩
set_option maxRecDepth 100000 in
set_option maxHeartbeats 2000000 in
theorem describes_brick (w : World) (Far : Nat → Prop) (sb : Nat) (most : Int) (ts : List Tr) (l : List Int) (hl : l.length = 64) (hb : ∀ x ∈ l, 0 ≤ x ∧ x ≤ 255) (ht : Tr.brick l ∈ ts) (hG : Good ts) (hlen : ts.length ≤ 4194304) (hS : StoreIs w Far sb most ts) :
    Calls Tryz.prog 13 #[.pointer (some ⟨sb, 0, none⟩), .int .i64 (idT ts (.brick l) : Int), .string (strOfNums (Tr.enc (.brick l)))] w fun e w' => e = .returned (.bool true) ∧ Below w.heap.size w w' := by
  have hcel := Bx.mk (cells_any w Far sb most ts (.brick l) ht hG (by omega) hS)
  have hK := Bx.mk fun W (h : Below w.heap.size w W) => kind_any Far sb most ts _ (.brick l) (idT_get ht) 2 rfl hlen W (hS.later h)
  have hD := Bx.mk fun W (h : Below w.heap.size w W) => depth_any Far sb most ts _ (.brick l) (idT_get ht) 2 rfl hlen W (hS.later h)
  have hby : Byt (98 :: l) := fun x hx => by
    rcases List.mem_cons.1 hx with rfl | hx
    · omega
    · exact hb x hx
  have hi0 := fun W : World => idx_str (P := Tryz.prog) 9 Tryz.underlying9 hby (k := 0) (x := 98) rfl W
  rw [show ((0 : Nat) : Int) = 0 from rfl] at hi0
  have hRc := Bx.mk fun W => ref9_cells l hl hb W
  rw [show Tr.enc (.brick l) = 98 :: l by simp [Tr.enc]]
  generalize strOfNums (98 :: l) = S at *
  generalize (idT ts (.brick l) : Int) = id at *
  have Hl := Bx.mk hl
  clear hby hb ht hG hlen hS hl
  go_enter Tryz.func13, Tryz.ntmps13
  go_wp2_with fail
  refine hcel.out.mono ?_
  rintro _ w1 ⟨v, rfl, how, hB⟩
  obtain ⟨pa, pc, rfl, hsl⟩ := how.form
  replace hsl := Bx.mk hsl
  have hlen1 : (outT (.brick l)).length = 64 := Hl.out
  have hout : outT (.brick l) = l := rfl
  rw [hout] at hsl
  rw [hlen1]
  clear how hcel hlen1 hout
  go_wp2_with fail
  refine (hRc.out _).mono ?_
  rintro _ w2 ⟨qa, qc, rfl, hsq, hb0⟩
  replace hsl := Bx.mk (hsl.out.below hb0)
  replace hB := hB.trans (hb0.mono hB.size)
  have hsame := (ref_same pa qa pc qc l l w2 (by rw [Hl.out]; decide) (by rw [Hl.out]; decide) hsl.out hsq).mono (R' := fun e w' => e = .returned (.bool true) ∧ Below w2.heap.size w2 w') (fun e w' ⟨h1, h2⟩ => ⟨h1.trans (by simp), h2⟩)
  rw [Hl.out] at hsame
  have hsame := Bx.mk hsame
  clear hb0 hsq hsl
  go_wp2_with fail
  refine hsame.out.mono ?_
  rintro _ w3 ⟨rfl, hb0⟩
  replace hB := hB.trans (hb0.mono hB.size)
  clear hb0 hsame
  go_wp2_with fail
  refine (hK.out _ hB).mono ?_
  rintro _ _ ⟨rfl, rfl⟩
  go_wp2_with fail
  refine (hD.out _ hB).mono ?_
  rintro _ _ ⟨rfl, rfl⟩
  go_wp2_with fail
  go_ret
  exact ⟨rfl, hB⟩
theorem describes_leaf (w : World) (Far : Nat → Prop) (sb : Nat) (most : Int) (ts : List Tr) (xs : List Int) (hn : xs.length = 64) (hb : xs.all Pal.cell = true) (ht : Tr.mkBrick xs ∈ ts) (hG : Good ts) (hlen : ts.length ≤ 4194304) (hS : StoreIs w Far sb most ts) :
    Calls Tryz.prog 13 #[.pointer (some ⟨sb, 0, none⟩), .int .i64 (idT ts (Tr.mkBrick xs) : Int), .string (strOfNums (Tr.enc (Tr.mkBrick xs)))] w fun e w' => e = .returned (.bool true) ∧ Below w.heap.size w w' := by
  have hc := all_cell hb
  unfold Tr.mkBrick at ht ⊢
  split at ht
  · rename_i h
    rw [if_pos h]
    exact describes_uni w Far sb most ts _ (hc _ (by cases xs with
      | nil => simp at hn
      | cons x r => simp)) ht hG hlen hS
  · rename_i h
    rw [if_neg h]
    exact describes_brick w Far sb most ts xs hn hc ht hG hlen hS
end Go.Proofs.YtabclecmehdeoaaGreat
end
