import Derived.Test.YtabclecmehdeoaaGreatGTrm
import Derived.Test.YtabclecmehdeoaaGreatGGrd
section
/- slices.Max, slices.Min; Store.Brick. -/
namespace Go.Proofs.YtabclecmehdeoaaGreat
open Go.RowKit Go.Sort Go.Maps
open Oct

structure Top (xs : List Int) (m : Int) : Prop where
  le : ∀ x ∈ xs, x ≤ m
  mem : m ∈ xs
structure Bot (xs : List Int) (m : Int) : Prop where
  le : ∀ x ∈ xs, m ≤ x
  mem : m ∈ xs
theorem take_snoc_at {xs : List Int} {k : Nat} {x : Int} (h : xs[k]? = some x) : xs.take (k + 1) = xs.take k ++ [x] := by
  rw [List.take_add_one, h]; rfl
theorem Top.step {xs : List Int} {k : Nat} {m x : Int} (h : Top (xs.take k) m) (hx : xs[k]? = some x) : Top (xs.take (k + 1)) (max m x) := by
  rw [take_snoc_at hx]
  refine ⟨fun y hy => ?_, ?_⟩
  · rcases List.mem_append.1 hy with hy | hy
    · have := h.le y hy; omega
    · rw [List.mem_singleton.1 hy]; omega
  · by_cases hm : x ≤ m
    · rw [show max m x = m by omega]; exact List.mem_append_left _ h.mem
    · rw [show max m x = x by omega]; simp
theorem Bot.step {xs : List Int} {k : Nat} {m x : Int} (h : Bot (xs.take k) m) (hx : xs[k]? = some x) : Bot (xs.take (k + 1)) (min m x) := by
  rw [take_snoc_at hx]
  refine ⟨fun y hy => ?_, ?_⟩
  · rcases List.mem_append.1 hy with hy | hy
    · have := h.le y hy; omega
    · rw [List.mem_singleton.1 hy]; omega
  · by_cases hm : m ≤ x
    · rw [show min m x = m by omega]; exact List.mem_append_left _ h.mem
    · rw [show min m x = x by omega]; simp
theorem top_bot {xs : List Int} {a b : Int} (h : Top xs a) (h' : Bot xs b) : a = b ↔ ∀ x ∈ xs, x = xs.headD 0 := by
  have hne : xs ≠ [] := by intro e; have := h.mem; rw [e] at this; cases this
  obtain ⟨y, r, rfl⟩ := List.exists_cons_of_ne_nil hne
  constructor
  · intro e x hx
    have h1 := h.le x hx
    have h2 := h'.le x hx
    have h3 := h.le y (by simp)
    have h4 := h'.le y (by simp)
    show x = y
    omega
  · intro e
    rw [e a h.mem, e b h'.mem]
set_option maxHeartbeats 400000 in
theorem slices_max (a : Option Addr) (cap : Nat) (xs : List Int) (w : World) (hl : xs.length ≤ 1000000000) (h1 : 1 ≤ xs.length) (h : Sl w .i64 a xs) :
    Calls Tryz.prog 65 #[.slice a xs.length cap] w fun e w' => ∃ m : Int, e = .returned (.int .i64 m) ∧ Bx (Top xs m) ∧ w = w' := by
  obtain ⟨x0, h0⟩ : ∃ x, xs[0]? = some x := ⟨_, List.getElem?_eq_getElem (by omega)⟩
  obtain ⟨b, off, rfl, hc0⟩ := h 0 x0 h0
  have H0 : Bx (Top (xs.take 1) x0) := ⟨by rw [take_snoc_at h0]; exact ⟨by simp, by simp⟩⟩
  have Hs := Bx.mk h
  have Hc := Bx.mk (show Top (xs.take xs.length) = Top xs by rw [List.take_length])
  clear h h0
  rw [Nat.add_zero] at hc0
  generalize hn : xs.length = n at *
  have Hn := Bx.mk hn; clear hn
  go_enter Tryz.func65, Tryz.ntmps65
  go_wp2
  go_loop [3, 4] (fun m i => ∃ k : Nat, ∃ z : Int, 1 ≤ k ∧ k ≤ n ∧ i = .int .i64 k ∧ m = .int .i64 z ∧ Bx (Top (xs.take k) z)) (fun _ i => n - (intOf i).toNat)
  case atStart => exact ⟨1, x0, by omega, by omega, rfl, rfl, H0⟩
  case round =>
    obtain ⟨k, z, hk1, hk, rfl, rfl, hall⟩ := hrel
    by_cases hlt : k < n
    · obtain ⟨x, hx⟩ := at_lt Hn hlt
      obtain ⟨b', off', hb, hc⟩ := Hs.out k x hx
      simp only [Option.some.injEq, Addr.mk.injEq, and_true] at hb
      obtain ⟨rfl, rfl⟩ := hb
      have hnext := Bx.mk (hall.out.step hx)
      clear hx hc0
      go_wp2
      all_goals
        go_round
        case rel => exact ⟨k+1, max z x, by omega, by omega, by go_num, by first | rfl | (congr 1; omega), hnext⟩
        case measure => simp [intOf]; omega
    · obtain rfl : k = n := by omega
      rw [Hc.out] at hall
      go_wp2
      go_ret
      exact ⟨z, rfl, hall, rfl⟩
set_option maxHeartbeats 400000 in
theorem slices_min (a : Option Addr) (cap : Nat) (xs : List Int) (w : World) (hl : xs.length ≤ 1000000000) (h1 : 1 ≤ xs.length) (h : Sl w .i64 a xs) :
    Calls Tryz.prog 66 #[.slice a xs.length cap] w fun e w' => ∃ m : Int, e = .returned (.int .i64 m) ∧ Bx (Bot xs m) ∧ w = w' := by
  obtain ⟨x0, h0⟩ : ∃ x, xs[0]? = some x := ⟨_, List.getElem?_eq_getElem (by omega)⟩
  obtain ⟨b, off, rfl, hc0⟩ := h 0 x0 h0
  have H0 : Bx (Bot (xs.take 1) x0) := ⟨by rw [take_snoc_at h0]; exact ⟨by simp, by simp⟩⟩
  have Hs := Bx.mk h
  have Hc := Bx.mk (show Bot (xs.take xs.length) = Bot xs by rw [List.take_length])
  clear h h0
  rw [Nat.add_zero] at hc0
  generalize hn : xs.length = n at *
  have Hn := Bx.mk hn; clear hn
  go_enter Tryz.func66, Tryz.ntmps66
  go_wp2
  go_loop [3, 4] (fun m i => ∃ k : Nat, ∃ z : Int, 1 ≤ k ∧ k ≤ n ∧ i = .int .i64 k ∧ m = .int .i64 z ∧ Bx (Bot (xs.take k) z)) (fun _ i => n - (intOf i).toNat)
  case atStart => exact ⟨1, x0, by omega, by omega, rfl, rfl, H0⟩
  case round =>
    obtain ⟨k, z, hk1, hk, rfl, rfl, hall⟩ := hrel
    by_cases hlt : k < n
    · obtain ⟨x, hx⟩ := at_lt Hn hlt
      obtain ⟨b', off', hb, hc⟩ := Hs.out k x hx
      simp only [Option.some.injEq, Addr.mk.injEq, and_true] at hb
      obtain ⟨rfl, rfl⟩ := hb
      have hnext := Bx.mk (hall.out.step hx)
      clear hx hc0
      go_wp2
      all_goals
        go_round
        case rel => exact ⟨k+1, min z x, by omega, by omega, by go_num, by first | rfl | (congr 1; omega), hnext⟩
        case measure => simp [intOf]; omega
    · obtain rfl : k = n := by omega
      rw [Hc.out] at hall
      go_wp2
      go_ret
      exact ⟨z, rfl, hall, rfl⟩
end Go.Proofs.YtabclecmehdeoaaGreat
end
section
/- Store.Brick, by the program. -/
namespace Go.Proofs.YtabclecmehdeoaaGreat
open Go.RowKit Go.Sort Go.Maps
open Oct

theorem brick_len (sb : Nat) (a : Option Addr) (n cap : Nat) (hn : n ≠ 64) (_hl : n ≤ 1000000000) (w : World) :
    Calls Tryz.prog 30 #[.pointer (some ⟨sb, 0, none⟩), .slice a n cap] w fun e w' => e = ret2 0 1 ∧ w = w' := by
  have t1 : ((n : Int) != 64) = true := by simp; omega
  have t2 : ((n : Int) == 64) = false := by simp; omega
  have t3 : decide ((n : Int) = 64) = false := by simp; omega
  clear hn
  go_enter Tryz.func30, Tryz.ntmps30
  go_wp2_with fail
  go_ret2
  exact ⟨rfl, rfl⟩
theorem brick_bad (sb : Nat) (a : Option Addr) (cap : Nat) (xs : List Int) (hn : xs.length = 64) (hb : xs.all Pal.cell = false) (w : World) (h : Sl w .i64 a xs) :
    Calls Tryz.prog 30 #[.pointer (some ⟨sb, 0, none⟩), .slice a 64 cap] w fun e w' => e = ret2 0 1 ∧ w = w' := by
  have h1 := contains_b a cap xs w (by omega) h
  rw [hn, hb] at h1
  have h1 := Bx.mk h1
  clear h hn hb
  go_enter Tryz.func30, Tryz.ntmps30
  go_wp2_with fail
  refine h1.out.mono ?_
  rintro e w1 ⟨rfl, rfl⟩
  go_wp2_with fail
  go_ret2
  exact ⟨rfl, rfl⟩
theorem all_cell {xs : List Int} (h : xs.all Pal.cell = true) : ∀ x ∈ xs, 0 ≤ x ∧ x ≤ 255 := by
  intro x hx
  have := List.all_eq_true.1 h x hx
  simpa [Pal.cell] using this
set_option maxHeartbeats 1000000 in
theorem brick_any (w : World) (Far : Nat → Prop) (sb : Nat) (most : Int) (ts : List Tr) (a : Option Addr) (cap : Nat) (xs : List Int) (hn : xs.length = 64) (hb : xs.all Pal.cell = true) (h : Sl w .i64 a xs) (hG : Good ts) (hlen : ts.length ≤ 1000000000000) (hFar : ∀ k, Far k → k < w.heap.size) (hS : StoreIs w Far sb most ts) :
    Calls Tryz.prog 30 #[.pointer (some ⟨sb, 0, none⟩), .slice a 64 cap] w (Grew Far sb most ts (Tr.add (Tr.mkBrick xs) ts) (Tr.mkBrick xs) w) := by
  have h1 := contains_b a cap xs w (by omega) h
  have h2 := slices_max a cap xs w (by omega) (by omega) h
  have h3 := slices_min a cap xs w (by omega) (by omega) h
  rw [hn] at h1 h2 h3
  rw [hb] at h1
  have h1 := Bx.mk h1
  have h2 := Bx.mk h2
  have h3 := Bx.mk h3
  obtain ⟨x0, hx0⟩ : ∃ x, xs[0]? = some x := ⟨_, List.getElem?_eq_getElem (by omega)⟩
  obtain ⟨b, off, rfl, hc0⟩ := h 0 x0 hx0
  have hd : xs.headD 0 = x0 := by cases xs with
    | nil => simp at hx0
    | cons y r => simpa using hx0
  have hcells := all_cell hb
  by_cases hall : ∀ x ∈ xs, x = xs.headD 0
  · have hm : Tr.mkBrick xs = .uni x0 := by unfold Tr.mkBrick; rw [if_pos hall, hd]
    rw [hm]
    have h4 := Bx.mk (uniform_any w Far sb most ts x0 (hcells x0 (List.mem_of_getElem? hx0)) hG hlen hFar hS)
    have Hall := Bx.mk hall
    rw [Nat.add_zero] at hc0
    clear hall hm hcells hG hlen hFar hS hn hb h hx0 hd
    go_enter Tryz.func30, Tryz.ntmps30
    go_wp2_with fail
    refine h1.out.mono ?_
    rintro e w1 ⟨rfl, rfl⟩
    go_wp2_with fail
    refine h2.out.mono ?_
    rintro e w1 ⟨z1, rfl, hz1, rfl⟩
    go_wp2_with fail
    refine h3.out.mono ?_
    rintro e w1 ⟨z2, rfl, hz2, rfl⟩
    obtain rfl : z1 = z2 := (top_bot hz1.out hz2.out).2 Hall.out
    go_wp2_with fail
    refine h4.out.mono ?_
    rintro e w2 hg
    have Hg := Bx.mk hg
    obtain ⟨-, -, (⟨hf, rfl, hs⟩ | ⟨hf, rfl, us, hs⟩)⟩ := hg
    all_goals
      clear hf hs
      go_wp2_with fail
      go_ret2
      exact Hg.out
  · have hm : Tr.mkBrick xs = .brick xs := by unfold Tr.mkBrick; rw [if_neg hall]
    rw [hm]
    have hby : Bytes (.brick xs) := Bytes.brick ⟨hn, hcells⟩
    have hle : Leans ts (.brick xs) := fun d ch h => by cases h
    have h4 : Bx (∀ W, Below w.heap.size w W → Calls Tryz.prog 50 #[.pointer (some ⟨sb, 0, none⟩), .agg #[.int .i64 2, .int .i64 0, .string (strOfNums xs), .int .i64 2, .int .i64 0, .int .i64 0, .int .i64 0, .int .i64 0, .int .i64 0, .int .i64 0, .int .i64 0, .int .i64 0]] W (Grew Far sb most ts (Tr.add (.brick xs) ts) (.brick xs) W)) := ⟨fun W hW => by
      have hV : nodeV ts (.brick xs) = nodeA 2 0 (strOfNums xs) 2 0 0 0 0 0 0 0 0 := rfl
      have hk := nodeV_key hlen hle hby
      rw [hV] at hk
      rw [Tr.add_brick]
      exact make_any W Far sb most ts (.brick xs) 2 0 2 0 0 0 0 0 0 0 0 (strOfNums xs) hV hG hle hby hlen (fun k hk => Nat.lt_of_lt_of_le (hFar k hk) hW.size) hk (hS.later hW)⟩
    have Hall := Bx.mk hall
    have Hs := Bx.mk h
    have Hn := Bx.mk hn
    have Hc := Bx.mk hcells
    have hmk : ∀ W, (Instr.makeSlice 90 (.int .i64 64) (.int .i64 64)).run Tryz.prog W = .ok (.slice (some ⟨W.heap.size, 0, none⟩) 64 64) (W.alloc (.cells (madeCells #[.int .u8 0] 64) 5)) :=
      fun W => run_make_row' (P := Tryz.prog) 90 5 (.int .u8 0) 1 Tryz.underlying90 (by kernel_rfl) rfl .i64 .i64 64 (by decide) (by decide) W
    clear hall hm hcells hby hle hG hlen hFar hS hn hb h hx0 hd hc0
    go_enter Tryz.func30, Tryz.ntmps30
    go_wp2_with fail
    refine h1.out.mono ?_
    rintro e w1 ⟨rfl, rfl⟩
    go_wp2_with fail
    refine h2.out.mono ?_
    rintro e w1 ⟨z1, rfl, hz1, rfl⟩
    go_wp2_with fail
    refine h3.out.mono ?_
    rintro e w1 ⟨z2, rfl, hz2, rfl⟩
    have hne : (z1 == z2) = false := by simpa using fun e => Hall.out ((top_bot hz1.out hz2.out).1 e)
    clear hz1 hz2 h1 h2 h3
    go_wp2_with fail
    go_loopw [33] (fun i wr => ∃ k : Nat, k ≤ 64 ∧ i = .int .i64 k ∧ Bx (wr.rowIs w.heap.size 5 64 (fun j => .int .u8 (if j < k then xs.getD j 0 else 0))) ∧ Bx (Below w.heap.size w wr)) (fun i _ => 64 - (intOf i).toNat)
    case atStart => exact ⟨0, Nat.zero_le _, rfl, ⟨(World.rowIs_made _ _ _ _).congr (fun i _ => rfl)⟩, ⟨(Below.refl _ _).alloc (Nat.le_refl _) _⟩⟩
    case round =>
      obtain ⟨k, hk, rfl, hrow, hB⟩ := hrel
      have hS1 := Hs.out.below hB.out
      by_cases hlt : k < 64
      · obtain ⟨x, hx⟩ := at_lt Hn hlt
        obtain ⟨b', off', hb, hc⟩ := hS1 k x hx
        simp only [Option.some.injEq, Addr.mk.injEq, and_true] at hb
        obtain ⟨rfl, rfl⟩ := hb
        have hr := Hc.out x (List.mem_of_getElem? hx)
        have hxg : Bx (xs.getD k 0 = x) := ⟨by simp [List.getD, hx]⟩
        have b1 : (0 : Int) ≤ (k : Int) := by omega
        have b2 : (k : Int) < 64 := by omega
        have hcell := hrow.out.cell hlt
        have hfr := hrow.out.frozen k
        have hw8 : IntKind.u8.wrap x = x := by unfold IntKind.wrap; simp [IntKind.bits, IntKind.signed]; omega
        clear hS1 hx hmk
        go_wp2_with fail
        have hrow2 := Bx.mk ((hrow.out.set k (.int .u8 x)).congr (g := fun j => .int .u8 (if j < k + 1 then xs.getD j 0 else 0)) (fun j hj => by
          by_cases e : j = k
          · rw [e]; simp only [if_true]; rw [if_pos (by omega), hxg.out]
          · simp only [e, if_false]; by_cases h5 : j < k
            · rw [if_pos h5, if_pos (by omega)]
            · rw [if_neg h5, if_neg (by omega)]))
        have hB2 := Bx.mk (show Below w.heap.size w (wr.setCell ⟨w.heap.size, k, none⟩ (.int .u8 x)) from hB.out.setCell (Nat.le_refl _) _)
        clear hcell hfr
        go_roundw
        case rel => exact ⟨k + 1, by omega, by go_num, hrow2, hB2⟩
        case measure => simp [intOf]; omega
      · obtain rfl : k = 64 := by omega
        have hsl : Sl wr .u8 (some ⟨w.heap.size, 0, none⟩) xs := fun i x hx => ⟨w.heap.size, 0, rfl, by
          have hi : i < 64 := by have := (List.getElem?_eq_some_iff.1 hx).1; rw [Hn.out] at this; exact this
          have := hrow.out.cell hi
          simp only [hi, if_true] at this
          rw [Nat.zero_add, this]; simp [List.getD, hx]⟩
        have hcv := conv_str (P := Tryz.prog) 90 5 9 Tryz.underlying90 Tryz.underlying5 Tryz.underlying9 hsl 64 64 Hn.out.symm
        have h5 := Bx.mk (h4.out wr hB.out)
        clear hsl hS1 hmk
        generalize strOfNums xs = S at *
        go_wp2_with fail
        refine h5.out.mono ?_
        rintro e w2 hg
        have Hg := Bx.mk (hg.since hB.out)
        obtain ⟨-, -, (⟨hf, rfl, hs⟩ | ⟨hf, rfl, us, hs⟩)⟩ := hg
        all_goals
          clear hf hs
          go_wp2_with fail
          go_ret2
          exact Hg.out
end Go.Proofs.YtabclecmehdeoaaGreat
end
