import Derived.Test.YtabclecmehdeoaaGGri
import Derived.Deep.CutRange
section
/- Store.Inner, by the program. -/
namespace Go.Proofs.Ytabclecmehdeoaa
open Go.RowKit Go.Sort Go.Maps
open Oct

theorem idx_arr (x : Nat → Int) (k : Nat) (hk : k < 8) (W : World) : (Instr.index 57 (.agg #[.int .i64 (x 0), .int .i64 (x 1), .int .i64 (x 2), .int .i64 (x 3), .int .i64 (x 4), .int .i64 (x 5), .int .i64 (x 6), .int .i64 (x 7)]) (.int .i64 (k : Int))).run Try.prog W = .ok (.int .i64 (x k)) W := by
  have hu := Try.underlying57
  have h0 : k = 0 ∨ k = 1 ∨ k = 2 ∨ k = 3 ∨ k = 4 ∨ k = 5 ∨ k = 6 ∨ k = 7 := by omega
  have h1 : Try.prog.cellsOf 3 = 1 := by kernel_rfl
  rcases h0 with rfl | rfl | rfl | rfl | rfl | rfl | rfl | rfl
  all_goals
    simp [Instr.index, run_underlying hu, asIntOf, go_sem]
/-- the depth of a tree's node -/
def depT : Tr → Int
  | .uni _ => 0
  | .brick _ => 2
  | .node d _ => d
def okKid (t : Tr) (d : Int) : Prop := (∃ c, t = .uni c) ∨ depT t = d - 1
theorem inner_depth (w : World) (sb : Nat) (d : Int) (x : Nat → Int) (hd : d ≤ 2 ∨ 14 < d) :
    Calls Try.prog 24 #[.pointer (some ⟨sb, 0, none⟩), .int .i64 d, .agg #[.int .i64 (x 0), .int .i64 (x 1), .int .i64 (x 2), .int .i64 (x 3), .int .i64 (x 4), .int .i64 (x 5), .int .i64 (x 6), .int .i64 (x 7)]] w fun e w' => e = ret2 0 13 ∧ Below w.heap.size w w' := by
  by_cases h : d ≤ 2
  · have t1 : decide (d ≤ 2) = true := by simpa using h
    go_enter Try.func24, Try.ntmps24
    go_wp2_with fail
    go_ret2
    exact ⟨rfl, (Below.refl _ _).alloc (Nat.le_refl _) _⟩
  · have t1 : decide (d ≤ 2) = false := by simpa using h
    have t2 : decide (14 < d) = true := by simp; omega
    go_enter Try.func24, Try.ntmps24
    go_wp2_with fail
    go_ret2
    exact ⟨rfl, (Below.refl _ _).alloc (Nat.le_refl _) _⟩
set_option maxRecDepth 100000 in
set_option maxHeartbeats 2000000 in
theorem Inner_ok (w : World) (Far : Nat → Prop) (sb : Nat) (most : Int) (ts : List Tr) (d : Int) (hd : 3 ≤ d ∧ d ≤ 14) (x : Nat → Int) (HK : Bx (∀ k, k < 8 → ∃ t, t ∈ ts ∧ x k = idT ts t ∧ okKid t d)) (_hlen : ts.length ≤ 1000000000000) (hS : StoreIs w Far sb most ts) (R : Ending → World → Prop) (hR : ∀ e w', R e w' → ∃ i er, e = ret2 i er)
    (hin : Bx (∀ W, Below w.heap.size w W → Calls Try.prog 42 #[.pointer (some ⟨sb, 0, none⟩), .int .i64 d, .agg #[.int .i64 (x 0), .int .i64 (x 1), .int .i64 (x 2), .int .i64 (x 3), .int .i64 (x 4), .int .i64 (x 5), .int .i64 (x 6), .int .i64 (x 7)]] W R)) :
    Calls Try.prog 24 #[.pointer (some ⟨sb, 0, none⟩), .int .i64 d, .agg #[.int .i64 (x 0), .int .i64 (x 1), .int .i64 (x 2), .int .i64 (x 3), .int .i64 (x 4), .int .i64 (x 5), .int .i64 (x 6), .int .i64 (x 7)]] w R := by
  have t1 : decide (d ≤ 2) = false := by simp; omega
  have t2 : decide (14 < d) = false := by simp; omega
  have hsub : IntKind.i64.wrap (d - 1) = d - 1 := IntWalk.i64_in _ (by omega)
  go_enter Try.func24, Try.ntmps24
  go_wp2_with fail
  generalize hW : World.alloc w _ = W
  have hSz : w.heap.size + 1 ≤ W.heap.size := by rw [← hW]; simp
  have hB : Below w.heap.size w W := by rw [← hW]; exact (Below.refl _ _).alloc (Nat.le_refl _) _
  have ka : Bk W (w.heap.size) #[.int .i64 (x 0), .int .i64 (x 1), .int .i64 (x 2), .int .i64 (x 3), .int .i64 (x 4), .int .i64 (x 5), .int .i64 (x 6), .int .i64 (x 7)] 57 := by rw [← hW]; exact blk_new _ _ _ (by simp)
  clear hW
  have HS : Bx (StoreIs W Far sb most ts) := ⟨hS.later hB⟩
  have ca0 := ka.cell 0 rfl
  have ca1 := ka.cell 1 rfl
  have ca2 := ka.cell 2 rfl
  have ca3 := ka.cell 3 rfl
  have ca4 := ka.cell 4 rfl
  have ca5 := ka.cell 5 rfl
  have ca6 := ka.cell 6 rfl
  have ca7 := ka.cell 7 rfl
  go_wp2_with fail
  clear ca0 ca1 ca2 ca3 ca4 ca5 ca6 ca7
  go_loopw [17] (fun v wr => ∃ k : Nat, k ≤ 8 ∧ v = .int .i64 k ∧ wr = W) (fun i _ => 8 - (intOf i).toNat)
  case atStart => exact ⟨0, Nat.zero_le _, rfl, rfl⟩
  case round =>
    obtain ⟨k, hk, rfl, rfl⟩ := hrel
    by_cases hlt : k < 8
    · have t3 : decide ((k : Int) < 8) = true := by simp; omega
      have hidx := fun V => idx_arr x k (by omega) V
      obtain ⟨t, hm, hx, hok⟩ := HK.out k hlt
      cases t with
      | uni c =>
        clear hok
        obtain ⟨g, cap, mb, ks, hi, hc⟩ := Bx.node HS.out hm (k := 1) (c := c) rfl
        have cs1 := ks.cell 1 rfl
        have d0 := hc.out 0 _ (by omega) rfl
        have d3 := hc.out 3 _ (by omega) rfl
        rw [Nat.add_zero] at d0
        have b1 : (0 : Int) ≤ (idT ts (.uni c) : Int) := by omega
        have b2 : (idT ts (.uni c) : Int) < (ts.length : Int) := by omega
        have b3 : decide ((idT ts (.uni c) : Int) < 0) = false := by simp
        have b4 : decide ((ts.length : Int) ≤ (idT ts (.uni c) : Int)) = false := by simp; omega
        rw [hx] at hidx
        clear ks hc hm hx
        go_wp2_with fail
        go_roundw
        case rel => exact ⟨k + 1, by omega, by go_num, trivial⟩
        case measure => simp [intOf]; omega
      | brick l =>
        have e1 : (2 : Int) = d - 1 := hok.elim (fun ⟨c, h⟩ => by cases h) (fun h => h)
        have e2 : ((2 : Int) != d - 1) = false := by simp; omega
        clear hok
        obtain ⟨g, cap, mb, ks, hi, hc⟩ := Bx.node HS.out hm (k := 2) (s := strOfNums l) rfl
        have cs1 := ks.cell 1 rfl
        have d0 := hc.out 0 _ (by omega) rfl
        have d3 := hc.out 3 _ (by omega) rfl
        rw [Nat.add_zero] at d0
        have b1 : (0 : Int) ≤ (idT ts (.brick l) : Int) := by omega
        have b2 : (idT ts (.brick l) : Int) < (ts.length : Int) := by omega
        have b3 : decide ((idT ts (.brick l) : Int) < 0) = false := by simp
        have b4 : decide ((ts.length : Int) ≤ (idT ts (.brick l) : Int)) = false := by simp; omega
        rw [hx] at hidx
        clear ks hc hm hx
        go_wp2_with fail
        go_roundw
        case rel => exact ⟨k + 1, by omega, by go_num, trivial⟩
        case measure => simp [intOf]; omega
      | node dk ch =>
        have e1 : (dk : Int) = d - 1 := hok.elim (fun ⟨c, h⟩ => by cases h) (fun h => h)
        have e2 : ((dk : Int) != d - 1) = false := by simp; omega
        clear hok
        obtain ⟨g, cap, mb, ks, hi, hc⟩ := Bx.node HS.out hm (k := 3) (s := ByteArray.empty) rfl
        have cs1 := ks.cell 1 rfl
        have d0 := hc.out 0 _ (by omega) rfl
        have d3 := hc.out 3 _ (by omega) rfl
        rw [Nat.add_zero] at d0
        have b1 : (0 : Int) ≤ (idT ts (.node dk ch) : Int) := by omega
        have b2 : (idT ts (.node dk ch) : Int) < (ts.length : Int) := by omega
        have b3 : decide ((idT ts (.node dk ch) : Int) < 0) = false := by simp
        have b4 : decide ((ts.length : Int) ≤ (idT ts (.node dk ch) : Int)) = false := by simp; omega
        rw [hx] at hidx
        clear ks hc hm hx
        go_wp2_with fail
        go_roundw
        case rel => exact ⟨k + 1, by omega, by go_num, trivial⟩
        case measure => simp [intOf]; omega
    · obtain rfl : k = 8 := by omega
      have t3 : decide (((8 : Nat) : Int) < 8) = false := by decide
      have ca0 := ka.cell 0 rfl
      have ca1 := ka.cell 1 rfl
      have ca2 := ka.cell 2 rfl
      have ca3 := ka.cell 3 rfl
      have ca4 := ka.cell 4 rfl
      have ca5 := ka.cell 5 rfl
      have ca6 := ka.cell 6 rfl
      have ca7 := ka.cell 7 rfl
      go_wp2_with fail
      refine (hin.out _ hB).mono ?_
      intro e7 w7 hr
      have Hr := Bx.mk hr
      obtain ⟨i7, er7, rfl⟩ := hR _ _ hr
      clear hr
      go_wp2_with fail
      exact Hr.out
set_option maxRecDepth 100000 in
set_option maxHeartbeats 2000000 in
theorem Inner_bad (w : World) (Far : Nat → Prop) (sb : Nat) (most : Int) (ts : List Tr) (d : Int) (hd : 3 ≤ d ∧ d ≤ 14) (x : Nat → Int) (j : Nat) (hj : j < 8) (HK : Bx (∀ k, k < j → ∃ t, t ∈ ts ∧ x k = idT ts t ∧ okKid t d)) (HB : Bx (x j < 0 ∨ ∃ t, t ∈ ts ∧ x j = idT ts t ∧ ¬ okKid t d)) (_hlen : ts.length ≤ 1000000000000) (hS : StoreIs w Far sb most ts) :
    Calls Try.prog 24 #[.pointer (some ⟨sb, 0, none⟩), .int .i64 d, .agg #[.int .i64 (x 0), .int .i64 (x 1), .int .i64 (x 2), .int .i64 (x 3), .int .i64 (x 4), .int .i64 (x 5), .int .i64 (x 6), .int .i64 (x 7)]] w fun e w' => e = ret2 0 1 ∧ Below w.heap.size w w' := by
  have t1 : decide (d ≤ 2) = false := by simp; omega
  have t2 : decide (14 < d) = false := by simp; omega
  have hsub : IntKind.i64.wrap (d - 1) = d - 1 := IntWalk.i64_in _ (by omega)
  go_enter Try.func24, Try.ntmps24
  go_wp2_with fail
  generalize hW : World.alloc w _ = W
  have hSz : w.heap.size + 1 ≤ W.heap.size := by rw [← hW]; simp
  have hB : Below w.heap.size w W := by rw [← hW]; exact (Below.refl _ _).alloc (Nat.le_refl _) _
  have ka : Bk W (w.heap.size) #[.int .i64 (x 0), .int .i64 (x 1), .int .i64 (x 2), .int .i64 (x 3), .int .i64 (x 4), .int .i64 (x 5), .int .i64 (x 6), .int .i64 (x 7)] 57 := by rw [← hW]; exact blk_new _ _ _ (by simp)
  clear hW
  have HS : Bx (StoreIs W Far sb most ts) := ⟨hS.later hB⟩
  have ca0 := ka.cell 0 rfl
  have ca1 := ka.cell 1 rfl
  have ca2 := ka.cell 2 rfl
  have ca3 := ka.cell 3 rfl
  have ca4 := ka.cell 4 rfl
  have ca5 := ka.cell 5 rfl
  have ca6 := ka.cell 6 rfl
  have ca7 := ka.cell 7 rfl
  go_wp2_with fail
  clear ca0 ca1 ca2 ca3 ca4 ca5 ca6 ca7
  go_loopw [17] (fun v wr => ∃ k : Nat, k ≤ j ∧ v = .int .i64 k ∧ wr = W) (fun i _ => j - (intOf i).toNat)
  case atStart => exact ⟨0, Nat.zero_le _, rfl, rfl⟩
  case round =>
    obtain ⟨k, hk, rfl, rfl⟩ := hrel
    by_cases hlt : k < j
    · have t3 : decide ((k : Int) < 8) = true := by simp; omega
      have hidx := fun V => idx_arr x k (by omega) V
      obtain ⟨t, hm, hx, hok⟩ := HK.out k hlt
      cases t with
      | uni c =>
        clear hok
        obtain ⟨g, cap, mb, ks, hi, hc⟩ := Bx.node HS.out hm (k := 1) (c := c) rfl
        have cs1 := ks.cell 1 rfl
        have d0 := hc.out 0 _ (by omega) rfl
        have d3 := hc.out 3 _ (by omega) rfl
        rw [Nat.add_zero] at d0
        have b1 : (0 : Int) ≤ (idT ts (.uni c) : Int) := by omega
        have b2 : (idT ts (.uni c) : Int) < (ts.length : Int) := by omega
        have b3 : decide ((idT ts (.uni c) : Int) < 0) = false := by simp
        have b4 : decide ((ts.length : Int) ≤ (idT ts (.uni c) : Int)) = false := by simp; omega
        rw [hx] at hidx
        clear ks hc hm hx
        go_wp2_with fail
        go_roundw
        case rel => exact ⟨k + 1, by omega, by go_num, trivial⟩
        case measure => simp [intOf]; omega
      | brick l =>
        have e1 : (2 : Int) = d - 1 := hok.elim (fun ⟨c, h⟩ => by cases h) (fun h => h)
        have e2 : ((2 : Int) != d - 1) = false := by simp; omega
        clear hok
        obtain ⟨g, cap, mb, ks, hi, hc⟩ := Bx.node HS.out hm (k := 2) (s := strOfNums l) rfl
        have cs1 := ks.cell 1 rfl
        have d0 := hc.out 0 _ (by omega) rfl
        have d3 := hc.out 3 _ (by omega) rfl
        rw [Nat.add_zero] at d0
        have b1 : (0 : Int) ≤ (idT ts (.brick l) : Int) := by omega
        have b2 : (idT ts (.brick l) : Int) < (ts.length : Int) := by omega
        have b3 : decide ((idT ts (.brick l) : Int) < 0) = false := by simp
        have b4 : decide ((ts.length : Int) ≤ (idT ts (.brick l) : Int)) = false := by simp; omega
        rw [hx] at hidx
        clear ks hc hm hx
        go_wp2_with fail
        go_roundw
        case rel => exact ⟨k + 1, by omega, by go_num, trivial⟩
        case measure => simp [intOf]; omega
      | node dk ch =>
        have e1 : (dk : Int) = d - 1 := hok.elim (fun ⟨c, h⟩ => by cases h) (fun h => h)
        have e2 : ((dk : Int) != d - 1) = false := by simp; omega
        clear hok
        obtain ⟨g, cap, mb, ks, hi, hc⟩ := Bx.node HS.out hm (k := 3) (s := ByteArray.empty) rfl
        have cs1 := ks.cell 1 rfl
        have d0 := hc.out 0 _ (by omega) rfl
        have d3 := hc.out 3 _ (by omega) rfl
        rw [Nat.add_zero] at d0
        have b1 : (0 : Int) ≤ (idT ts (.node dk ch) : Int) := by omega
        have b2 : (idT ts (.node dk ch) : Int) < (ts.length : Int) := by omega
        have b3 : decide ((idT ts (.node dk ch) : Int) < 0) = false := by simp
        have b4 : decide ((ts.length : Int) ≤ (idT ts (.node dk ch) : Int)) = false := by simp; omega
        rw [hx] at hidx
        clear ks hc hm hx
        go_wp2_with fail
        go_roundw
        case rel => exact ⟨k + 1, by omega, by go_num, trivial⟩
        case measure => simp [intOf]; omega
    · obtain rfl : k = j := by omega
      have t3 : decide ((k : Int) < 8) = true := by simp; omega
      have hidx := fun V => idx_arr x k (by omega) V
      rcases HB.out with hneg | ⟨t, hm, hx, hno⟩
      · have t4 : decide (x k < 0) = true := by simpa using hneg
        go_wp2_with fail
        go_ret2
        exact ⟨rfl, hB⟩
      · cases t with
        | uni c => exact absurd (.inl ⟨c, rfl⟩) hno
        | brick l =>
          have e2 : ((2 : Int) != d - 1) = true := by
            have : ¬ (2 : Int) = d - 1 := fun h => hno (.inr h)
            simpa using this
          clear hno
          obtain ⟨g, cap, mb, ks, hi, hc⟩ := Bx.node HS.out hm (k := 2) (s := strOfNums l) rfl
          have cs1 := ks.cell 1 rfl
          have d0 := hc.out 0 _ (by omega) rfl
          have d3 := hc.out 3 _ (by omega) rfl
          rw [Nat.add_zero] at d0
          have b1 : (0 : Int) ≤ (idT ts (.brick l) : Int) := by omega
          have b2 : (idT ts (.brick l) : Int) < (ts.length : Int) := by omega
          have b3 : decide ((idT ts (.brick l) : Int) < 0) = false := by simp
          have b4 : decide ((ts.length : Int) ≤ (idT ts (.brick l) : Int)) = false := by simp; omega
          rw [hx] at hidx
          clear ks hc hm hx
          go_wp2_with fail
          go_ret2
          exact ⟨rfl, hB⟩
        | node dk ch =>
          have e2 : ((dk : Int) != d - 1) = true := by
            have : ¬ (dk : Int) = d - 1 := fun h => hno (.inr h)
            simpa using this
          clear hno
          obtain ⟨g, cap, mb, ks, hi, hc⟩ := Bx.node HS.out hm (k := 3) (s := ByteArray.empty) rfl
          have cs1 := ks.cell 1 rfl
          have d0 := hc.out 0 _ (by omega) rfl
          have d3 := hc.out 3 _ (by omega) rfl
          rw [Nat.add_zero] at d0
          have b1 : (0 : Int) ≤ (idT ts (.node dk ch) : Int) := by omega
          have b2 : (idT ts (.node dk ch) : Int) < (ts.length : Int) := by omega
          have b3 : decide ((idT ts (.node dk ch) : Int) < 0) = false := by simp
          have b4 : decide ((ts.length : Int) ≤ (idT ts (.node dk ch) : Int)) = false := by simp; omega
          rw [hx] at hidx
          clear ks hc hm hx
          go_wp2_with fail
          go_ret2
          exact ⟨rfl, hB⟩
end Go.Proofs.Ytabclecmehdeoaa
end
section
/- What OctreeMakesNodes holds of the store and of the ids that it has made; what Inner answers there. -/
namespace Go.Proofs.Ytabclecmehdeoaa
open Go.RowKit Go.Sort Go.Maps
open Oct

theorem Own.far {w w' : World} {Far : Nat → Prop} {B : Nat} {e : TypeId} {k : IntKind} {v : Value} {xs : List Int} (h : Own w B e k v xs) (hk : Keeps Far w w') (hf : ∀ g, v.ownBlock = some g → Far g) : Own w' B e k v xs := by
  refine ⟨h.1, ?_⟩
  rcases h.2 with hn | ⟨g, cap, cur, rfl, hb, hgg, rest⟩
  · exact .inl hn
  · exact .inr ⟨g, cap, cur, rfl, hb, by rw [hk.block g (hf g rfl) (Array.getElem?_eq_some_iff.1 hgg).1]; exact hgg, rest⟩
/-- a tree that is no inner node -/
def Leaf (t : Tr) : Prop := (∃ c, t = .uni c) ∨ ∃ l, t = .brick l
/-- the numbers are ids of leaves -/
def Kids (ts : List Tr) (zs : List Int) : Prop := ∀ z ∈ zs, ∃ t, t ∈ ts ∧ z = (idT ts t : Int) ∧ Leaf t
theorem Kids.later {ts ts' : List Tr} {zs : List Int} (h : Kids ts zs) (hp : ts <+: ts') : Kids ts' zs := fun z hz => by
  obtain ⟨t, ht, rfl, hl⟩ := h z hz
  exact ⟨t, hp.subset ht, by rw [idT_prefix hp ht], hl⟩
theorem Kids.snoc {ts : List Tr} {zs : List Int} {t : Tr} (h : Kids ts zs) (ht : t ∈ ts) (hl : Leaf t) : Kids ts (zs ++ [(idT ts t : Int)]) := fun z hz => by
  rcases List.mem_append.1 hz with h1 | h1
  · exact h z h1
  · rw [List.mem_singleton] at h1
    exact ⟨t, ht, h1, hl⟩
theorem leaf_mk (l : List Int) : Leaf (Tr.mkBrick l) := by
  unfold Tr.mkBrick
  split
  · exact .inl ⟨_, rfl⟩
  · exact .inr ⟨_, rfl⟩
theorem add_leaf {t : Tr} (hl : Leaf t) (ts : List Tr) : (Tr.add t ts).length ≤ ts.length + 1 := by
  have h : Tr.add t ts = Tr.ins t ts := by
    rcases hl with ⟨c, rfl⟩ | ⟨l, rfl⟩
    · exact Tr.add_uni ..
    · exact Tr.add_brick ..
  rw [h]; unfold Tr.ins; split <;> simp
theorem add_inner_len {d : Nat} {ch : Fin 8 → Tr} {ts : List Tr} (hG : Good ts) (h : ∀ i, ch i ∈ ts) : (Tr.add (Tr.mkInner d ch) ts).length ≤ ts.length + 1 := by
  rw [Tr.inner_add hG.closed, addK_same h]
  split
  · omega
  · unfold Tr.ins; split <;> simp
theorem Kids.pick {ts : List Tr} {zs : List Int} (h : Kids ts zs) (x : Nat → Int) (hx : ∀ k, x k ∈ zs) : ∃ q : Nat → Tr, ∀ k, q k ∈ ts ∧ x k = (idT ts (q k) : Int) ∧ Leaf (q k) :=
  ⟨fun k => (h (x k) (hx k)).choose, fun k => (h (x k) (hx k)).choose_spec⟩
/-- what lies in memory while the ids are made -/
structure NodI (w : World) (Far : Nat → Prop) (sb : Nat) (bl : List (Nat × Array Value × TypeId)) (ts : List Tr) (zs : List Int) (v : Value) (wr : World) : Prop where
  st : StoreIs wr Far sb 1000 ts
  far : ∀ j, Far j → j < wr.heap.size
  old : ∀ j, j < w.heap.size → Far j
  bel : Below w.heap.size w wr
  good : Good ts
  kids : Kids ts zs
  own : Own wr w.heap.size 3 .i64 v zs
  row : ∀ g, v.ownBlock = some g → Far g
  kb : ∀ x ∈ bl, Bk wr x.1 x.2.1 x.2.2 ∧ Far x.1
  ap : ∀ x ∈ bl, v.ownBlock ≠ some x.1
section
variable {w wr w' : World} {Far : Nat → Prop} {sb : Nat} {bl : List (Nat × Array Value × TypeId)} {ts ts' : List Tr} {zs : List Int} {v : Value}
theorem NodI.later (h : NodI w Far sb bl ts zs v wr) (hb : Below wr.heap.size wr w') : NodI w Far sb bl ts zs v w' :=
  ⟨h.st.later hb, fun j hj => Nat.lt_of_lt_of_le (h.far j hj) hb.size, h.old, h.bel.trans (hb.mono h.bel.size), h.good, h.kids, h.own.below hb, h.row, fun x hx => ⟨(h.kb x hx).1.later hb, (h.kb x hx).2⟩, h.ap⟩
theorem NodI.made (h : NodI w Far sb bl ts zs v wr) (hk : Keeps Far wr w') (hs : StoreIs w' Far sb 1000 ts') (hp : ts <+: ts') (hg : Good ts') : NodI w Far sb bl ts' zs v w' :=
  ⟨hs, fun j hj => Nat.lt_of_lt_of_le (h.far j hj) hk.size, h.old, below_of_keeps h.bel hk h.old, hg, h.kids.later hp, h.own.far hk h.row, h.row, fun x hx => ⟨(h.kb x hx).1.far hk (h.kb x hx).2, (h.kb x hx).2⟩, h.ap⟩
theorem NodI.block (h : NodI w Far sb bl ts zs v wr) (vs : Array Value) (t : TypeId) : NodI w (fun j => Far j ∨ j = wr.heap.size) sb ((wr.heap.size, vs, t) :: bl) ts zs v (wr.alloc (.cells vs t)) := by
  have hb : Below wr.heap.size wr (wr.alloc (.cells vs t)) := (Below.refl _ _).alloc (Nat.le_refl _) _
  have h2 := h.later hb
  refine ⟨(h.st.widen fun k hk => hk.imp id fun e => by rw [e]; exact Nat.le_refl _).later hb, fun j hj => ?_, fun j hj => .inl (h.old j hj), h2.bel, h.good, h.kids, h2.own, fun g hg => .inl (h.row g hg), fun x hx => ?_, fun x hx => ?_⟩
  · rcases hj with hj | rfl
    · exact h2.far j hj
    · simp
  · rcases List.mem_cons.1 hx with rfl | hx
    · exact ⟨blk_new _ _ _ rfl, .inr rfl⟩
    · exact ⟨(h2.kb x hx).1, .inl (h.kb x hx).2⟩
  · rcases List.mem_cons.1 hx with rfl | hx
    · intro e
      exact Nat.lt_irrefl _ (h.own.lt _ e).2
    · exact h.ap x hx
theorem NodI.push {z : Int} {v1 : Value} {w1 : World} (h : NodI w Far sb bl ts zs v wr) (hg : wr.grownBy w1 v.ownBlock) (hown : Own w1 w.heap.size 3 .i64 v1 (zs ++ [z])) (hv : v1.ownBlock = v.ownBlock ∨ v1.ownBlock = some wr.heap.size)
    (hz : ∃ t, t ∈ ts ∧ z = (idT ts t : Int) ∧ Leaf t) : NodI w (fun j => Far j ∨ v1.ownBlock = some j) sb bl ts (zs ++ [z]) v1 w1 := by
  have hst : StoreIs w1 (fun j => Far j ∨ v1.ownBlock = some j) sb 1000 ts := by
    have h1 : StoreIs wr (fun j => Far j ∨ v1.ownBlock = some j) sb 1000 ts := h.st.widen fun k hk => by
      rcases hk with hk | hk
      · exact .inl hk
      · rcases hv with e | e
        · rw [e] at hk; exact .inl (h.row k hk)
        · rw [e] at hk; injection hk with hk; exact .inr (by omega)
    cases hvo : v.ownBlock with
    | none =>
      rw [hvo] at hg
      exact h1.later ⟨hg.os, hg.tape, hg.output, hg.size, fun i hi => hg.block i hi (by simp)⟩
    | some g => rw [hvo] at hg; exact h1.apart hg (.inl (h.row g hvo))
  refine ⟨hst, fun j hj => ?_, fun j hj => .inl (h.old j hj), ?_, h.good, ?_, hown, fun g hg => .inr hg, fun x hx => ⟨?_, .inl (h.kb x hx).2⟩, fun x hx => ?_⟩
  · rcases hj with hj | hj
    · exact Nat.lt_of_lt_of_le (h.far j hj) hg.size
    · exact (hown.lt j hj).2
  · exact h.bel.grown hg h.bel.size (fun g e => (h.own.lt g e).1)
  · obtain ⟨t, ht, rfl, hl⟩ := hz
    exact h.kids.snoc ht hl
  · exact (h.kb x hx).1.grownO hg (h.ap x hx)
  · rcases hv with e | e
    · rw [e]; exact h.ap x hx
    · rw [e]; intro e2; injection e2 with e2
      exact Nat.lt_irrefl _ (e2 ▸ (h.kb x hx).1.lt)
theorem NodI.row0 {zs0 : List Int} {v0 : Value} (h : NodI w Far sb bl ts zs0 v0 wr) : NodI w (fun j => Far j ∨ j = wr.heap.size) sb bl ts [] (.slice (some ⟨wr.heap.size, 0, none⟩) 0 0) (wr.alloc (.cells #[] 3)) := by
  have h2 := h.block #[] 3
  refine ⟨h2.st, h2.far, h2.old, h2.bel, h2.good, fun z hz => (by cases hz), Own.lit _ _ _ _ _ _ 0 h.bel.size (by decide) rfl rfl, fun g hg => ?_, fun x hx => h2.kb x (List.mem_cons_of_mem _ hx), fun x hx e => ?_⟩
  · simp only [Value.ownBlock, Option.some.injEq] at hg
    exact .inr hg.symm
  · simp only [Value.ownBlock, Option.some.injEq] at e
    exact Nat.lt_irrefl _ (e ▸ (h.kb x hx).1.lt)
/-- what lies in memory while the children are chosen -/
structure ChI (w : World) (Far : Nat → Prop) (sb : Nat) (bl : List (Nat × Array Value × TypeId)) (ts : List Tr) (zs : List Int) (v : Value) (gk : Nat) (x : Nat → Int) (k : Nat) (wr : World) : Prop where
  ni : NodI w Far sb bl ts zs v wr
  row8 : wr.rowIs gk 57 8 (fun j => .int .i64 (if j < k then x j else 0))
  gf : Far gk
  ga : ∀ y ∈ bl, y.1 ≠ gk
  gv : v.ownBlock ≠ some gk
  gl : w.heap.size ≤ gk
theorem ChI.later {gk k : Nat} {x : Nat → Int} (h : ChI w Far sb bl ts zs v gk x k wr) (hb : Below wr.heap.size wr w') : ChI w Far sb bl ts zs v gk x k w' :=
  ⟨h.ni.later hb, h.row8.of_block (hb.block gk h.row8.lt), h.gf, h.ga, h.gv, h.gl⟩
theorem ChI.made {gk k : Nat} {x : Nat → Int} (h : ChI w Far sb bl ts zs v gk x k wr) (hk : Keeps Far wr w') (hs : StoreIs w' Far sb 1000 ts') (hp : ts <+: ts') (hg : Good ts') : ChI w Far sb bl ts' zs v gk x k w' :=
  ⟨h.ni.made hk hs hp hg, rowIs_far h.row8 hk h.gf, h.gf, h.ga, h.gv, h.gl⟩
theorem ChI.put {gk k : Nat} {x : Nat → Int} (h : ChI w Far sb bl ts zs v gk x k wr) : ChI w Far sb bl ts zs v gk x (k + 1) (wr.setCell ⟨gk, k, none⟩ (.int .i64 (x k))) := by
  have hg := grown_setCell wr ⟨gk, k, none⟩ (.int .i64 (x k))
  refine ⟨⟨h.ni.st.apart hg h.gf, fun j hj => ?_, h.ni.old, h.ni.bel.setCell h.gl _, h.ni.good, h.ni.kids, h.ni.own.grown hg (.inr h.gv), h.ni.row, fun y hy => ⟨(h.ni.kb y hy).1.grownO hg (fun e => h.ga y hy (by injection e with e; exact e.symm)), (h.ni.kb y hy).2⟩, h.ni.ap⟩, ?_, h.gf, h.ga, h.gv, h.gl⟩
  · rw [size_setCell]; exact h.ni.far j hj
  · refine (h.row8.set k _).congr (fun j hj => ?_)
    by_cases e : j = k
    · subst e; rw [if_pos rfl, if_pos (by omega)]
    · rw [if_neg e]
      by_cases h5 : j < k
      · rw [if_pos h5, if_pos (by omega)]
      · rw [if_neg h5, if_neg (by omega)]
theorem NodI.kids8 (h : NodI w Far sb bl ts zs v wr) (x : Nat → Int) : ChI w (fun j => Far j ∨ j = wr.heap.size) sb bl ts zs v wr.heap.size x 0 (wr.alloc (.cells #[.int .i64 0, .int .i64 0, .int .i64 0, .int .i64 0, .int .i64 0, .int .i64 0, .int .i64 0, .int .i64 0] 57)) := by
  have h2 := h.block #[.int .i64 0, .int .i64 0, .int .i64 0, .int .i64 0, .int .i64 0, .int .i64 0, .int .i64 0, .int .i64 0] 57
  refine ⟨⟨h2.st, h2.far, h2.old, h2.bel, h2.good, h2.kids, h2.own, h2.row, fun y hy => h2.kb y (List.mem_cons_of_mem _ hy), h.ap⟩, ?_, .inr rfl, fun y hy e => Nat.lt_irrefl _ (e ▸ (h.kb y hy).1.lt), fun e => Nat.lt_irrefl _ (h.own.lt _ e).2, h.bel.size⟩
  refine World.rowIs_alloc wr _ _ _ (fun i hi => ?_)
  have hi8 : i < 8 := hi
  rcases i with _ | _ | _ | _ | _ | _ | _ | _ | i
  all_goals first | rfl | omega
/-- the cells of a block of eight, by number -/
theorem cell8 {b : Nat} {k : IntKind} {p : Nat → Int} {t : TypeId} (h : Bk wr b #[.int k (p 0), .int k (p 1), .int k (p 2), .int k (p 3), .int k (p 4), .int k (p 5), .int k (p 6), .int k (p 7)] t) {i : Nat} (hi : i < 8) : wr.cell? ⟨b, i, none⟩ = some (.int k (p i)) := by
  have h0 : i = 0 ∨ i = 1 ∨ i = 2 ∨ i = 3 ∨ i = 4 ∨ i = 5 ∨ i = 6 ∨ i = 7 := by omega
  rcases h0 with rfl | rfl | rfl | rfl | rfl | rfl | rfl | rfl
  all_goals exact h.cell _ rfl
end
theorem grew_leaf {Far : Nat → Prop} {sb : Nat} {ts : List Tr} {t : Tr} {w w' : World} {e : Ending} (h : Grew Far sb 1000 ts (Tr.add t ts) t w e w') (hl : Leaf t) (hn : ts.length ≤ 900) : e = ret2 (idT (Tr.add t ts) t : Int) 0 ∧ StoreIs w' Far sb 1000 (Tr.add t ts) ∧ Keeps Far w w' := by
  have := add_leaf hl ts
  rcases h.way with ⟨h1, h2, h3⟩ | ⟨h1, -⟩
  · exact ⟨h2, h3, h.keeps⟩
  · exact absurd (.inr (by omega)) h1
theorem wf_mk {xs : List Int} (hn : xs.length = 64) (hb : xs.all Pal.cell = true) : Tr.WF (Tr.mkBrick xs) := by
  have hc := all_cell hb
  unfold Tr.mkBrick
  split
  · exact hc _ (by cases xs with
      | nil => simp at hn
      | cons x r => simp)
  · exact ⟨hn, hc⟩
theorem brick_no (sb : Nat) (a : Option Addr) (cap : Nat) (xs : List Int) (hl : xs.length ≤ 1000) (h : Pal.brick xs = false) (w : World) (hs : Sl w .i64 a xs) :
    Calls Try.prog 19 #[.pointer (some ⟨sb, 0, none⟩), .slice a xs.length cap] w fun e w' => e = ret2 0 1 ∧ w = w' := by
  by_cases hn : xs.length = 64
  · have hb : xs.all Pal.cell = false := by simpa [Pal.brick, hn] using h
    have := brick_bad sb a cap xs hn hb w hs
    rw [hn]; exact this
  · exact brick_len sb a _ cap hn (by omega) w
def sameX (x : Nat → Int) (k : Nat) : Bool := (List.range k).all fun j => x j == x 0
def flatX (q : Nat → Tr) (k : Nat) : Bool := (List.range k).all fun j => kindT (q j) == 1
theorem sameX_succ (x : Nat → Int) (k : Nat) : sameX x (k + 1) = (sameX x k && (x k == x 0)) := by
  unfold sameX; rw [List.range_succ, List.all_append]; simp
theorem flatX_succ (q : Nat → Tr) (k : Nat) : flatX q (k + 1) = (flatX q k && (kindT (q k) == 1)) := by
  unfold flatX; rw [List.range_succ, List.all_append]; simp
theorem sameX_iff (x : Nat → Int) (k : Nat) : sameX x k = true ↔ ∀ j, j < k → x j = x 0 := by
  unfold sameX; rw [List.all_eq_true]; simp
theorem flatX_iff (q : Nat → Tr) (k : Nat) : flatX q k = true ↔ ∀ j, j < k → kindT (q j) = 1 := by
  unfold flatX; rw [List.all_eq_true]; simp
theorem kind_uni {t : Tr} (h : kindT t = 1) : ∃ c, t = .uni c := by
  cases t with
  | uni c => exact ⟨c, rfl⟩
  | brick l => exact absurd h (by show ¬ (2 : Int) = 1; omega)
  | node d ch => exact absurd h (by show ¬ (3 : Int) = 1; omega)
/-- Inner, with a store of these trees, has this answer, and leaves these trees -/
def Steps (ts ts' : List Tr) (d x0 x1 x2 x3 x4 x5 x6 x7 i er : Int) : Prop := ∀ (W : World) (Far : Nat → Prop) (sb : Nat), (∀ j, Far j → j < W.heap.size) → StoreIs W Far sb 1000 ts →
  Calls Try.prog 24 #[.pointer (some ⟨sb, 0, none⟩), .int .i64 d, .agg #[.int .i64 x0, .int .i64 x1, .int .i64 x2, .int .i64 x3, .int .i64 x4, .int .i64 x5, .int .i64 x6, .int .i64 x7]] W fun e w' => e = ret2 i er ∧ StoreIs w' Far sb 1000 ts' ∧ Keeps Far W w'
theorem step_yes {ts : List Tr} {d : Nat} (hd : 3 ≤ d ∧ d ≤ 14) (q : Nat → Tr) (hq : ∀ k, k < 8 → q k ∈ ts ∧ okKid (q k) d) (hG : Good ts) (hlen : ts.length ≤ 900) :
    Steps ts (Tr.add (Tr.mkInner d (fun i => q i.val)) ts) d (idT ts (q 0)) (idT ts (q 1)) (idT ts (q 2)) (idT ts (q 3)) (idT ts (q 4)) (idT ts (q 5)) (idT ts (q 6)) (idT ts (q 7)) (idT (Tr.add (Tr.mkInner d (fun i => q i.val)) ts) (Tr.mkInner d (fun i => q i.val)) : Int) 0 := by
  intro W Far sb hlt hS
  have hl := add_inner_len (d := d) (ch := fun i => q i.val) hG (fun i => (hq i.val i.isLt).1)
  refine Inner_ok W Far sb 1000 ts d (by omega) (fun k => (idT ts (q k) : Int)) ⟨fun k hk => ⟨q k, (hq k hk).1, rfl, (hq k hk).2⟩⟩ (by omega) hS _ (fun e w' h => ⟨_, _, h.1⟩) ⟨fun V hb => ?_⟩
  refine (inner_any V Far sb 1000 ts d (by omega) (fun i => q i.val) (fun i => (hq i.val i.isLt).1) hG (by omega) (fun k hk => Nat.lt_of_lt_of_le (hlt k hk) hb.size) (hS.later hb)).mono fun e w' hg => ?_
  rcases hg.way with ⟨h1, h2, h3⟩ | ⟨h1, -⟩
  · exact ⟨h2, h3, (Keeps.below hb).trans hg.keeps⟩
  · exact absurd (.inr (by omega)) h1
theorem step_bad {ts : List Tr} {d : Int} (hd : 3 ≤ d ∧ d ≤ 14) (x : Nat → Int) (j : Nat) (hj : j < 8) (HK : ∀ k, k < j → ∃ t, t ∈ ts ∧ x k = idT ts t ∧ okKid t d) (HB : x j < 0 ∨ ∃ t, t ∈ ts ∧ x j = idT ts t ∧ ¬ okKid t d) (hlen : ts.length ≤ 900) :
    Steps ts ts d (x 0) (x 1) (x 2) (x 3) (x 4) (x 5) (x 6) (x 7) 0 1 := fun W Far sb _ hS =>
  (Inner_bad W Far sb 1000 ts d hd x j hj ⟨HK⟩ ⟨HB⟩ (by omega) hS).mono fun _ _ ⟨he, hb⟩ => ⟨he, hS.later hb, Keeps.below hb⟩
theorem step_depth (ts : List Tr) {d : Int} (hd : d ≤ 2 ∨ 14 < d) (x : Nat → Int) : Steps ts ts d (x 0) (x 1) (x 2) (x 3) (x 4) (x 5) (x 6) (x 7) 0 13 := fun W _ sb _ hS =>
  (inner_depth W sb d x hd).mono fun _ _ ⟨he, hb⟩ => ⟨he, hS.later hb, Keeps.below hb⟩
theorem first_bad {P : Nat → Prop} : ∀ n, (∃ k, k < n ∧ ¬ P k) → ∃ j, j < n ∧ (∀ k, k < j → P k) ∧ ¬ P j
  | 0, ⟨k, hk, _⟩ => absurd hk (Nat.not_lt_zero k)
  | n + 1, ⟨k, hk, hp⟩ => by
    by_cases h : ∃ k, k < n ∧ ¬ P k
    · obtain ⟨j, h1, h2⟩ := first_bad n h
      exact ⟨j, by omega, h2⟩
    · refine ⟨n, by omega, fun i hi => Classical.byContradiction fun hc => h ⟨i, hi, hc⟩, ?_⟩
      by_cases e : k = n
      · exact e ▸ hp
      · exact absurd ⟨k, by omega, hp⟩ h
theorem okKid_leaf {t : Tr} (h : Leaf t) : okKid t 3 := by
  rcases h with ⟨c, rfl⟩ | ⟨l, rfl⟩
  · exact .inl ⟨c, rfl⟩
  · exact .inr rfl
theorem tail_one {ts : List Tr} (q : Nat → Tr) (x : Nat → Int) (hq : ∀ k, k < 8 → q k ∈ ts ∧ x k = (idT ts (q k) : Int) ∧ Leaf (q k)) (hG : Good ts) (hlen : ts.length ≤ 3) (c : Int) (h : ∀ k, k < 8 → q k = .uni c) :
    Steps ts ts 3 (x 0) (x 1) (x 2) (x 3) (x 4) (x 5) (x 6) (x 7) (x 0) 0 := by
  have hs := step_yes (ts := ts) (d := 3) (by omega) q (fun k hk => ⟨(hq k hk).1, okKid_leaf (hq k hk).2.2⟩) hG (by omega)
  have hm : Tr.mkInner 3 (fun i : Fin 8 => q i.val) = q 0 := by
    unfold Tr.mkInner
    rw [if_pos ⟨⟨c, h 0 (by omega)⟩, fun i => by show q i.val = q 0; rw [h i.val i.isLt, h 0 (by omega)]⟩]; rfl
  rw [hm, Tr.add_same _ _ (hq 0 (by omega)).1] at hs
  rw [(hq 0 (by omega)).2.1, (hq 1 (by omega)).2.1, (hq 2 (by omega)).2.1, (hq 3 (by omega)).2.1, (hq 4 (by omega)).2.1, (hq 5 (by omega)).2.1, (hq 6 (by omega)).2.1, (hq 7 (by omega)).2.1]
  exact hs
theorem mk_node {q : Nat → Tr} (h : ¬ ∃ c, ∀ k, k < 8 → q k = .uni c) (d : Nat) : Tr.mkInner d (fun i : Fin 8 => q i.val) = .node d (fun i => q i.val) := by
  unfold Tr.mkInner
  rw [if_neg]
  rintro ⟨⟨c, hc⟩, hall⟩
  exact h ⟨c, fun k hk => (hall ⟨k, hk⟩).trans hc⟩
def KindIs (ts : List Tr) (i v : Int) : Prop := ∀ (W : World) (Far : Nat → Prop) (sb : Nat), StoreIs W Far sb 1000 ts → Calls Try.prog 23 #[.pointer (some ⟨sb, 0, none⟩), .int .i64 i] W fun e w' => e = .returned (.int .i64 v) ∧ Below W.heap.size W w'
def DepthIs (ts : List Tr) (i v : Int) : Prop := ∀ (W : World) (Far : Nat → Prop) (sb : Nat), StoreIs W Far sb 1000 ts → Calls Try.prog 25 #[.pointer (some ⟨sb, 0, none⟩), .int .i64 i] W fun e w' => e = .returned (.int .i64 v) ∧ Below W.heap.size W w'
def KidsAre (ts : List Tr) (i x0 x1 x2 x3 x4 x5 x6 x7 : Int) : Prop := ∀ (W : World) (Far : Nat → Prop) (sb : Nat), StoreIs W Far sb 1000 ts → Calls Try.prog 26 #[.pointer (some ⟨sb, 0, none⟩), .int .i64 i] W fun e w' => e = .returned (.agg #[.int .i64 x0, .int .i64 x1, .int .i64 x2, .int .i64 x3, .int .i64 x4, .int .i64 x5, .int .i64 x6, .int .i64 x7]) ∧ Below W.heap.size W w'
theorem kind_is {ts : List Tr} {t : Tr} (ht : t ∈ ts) (hlen : ts.length ≤ 900) : KindIs ts (idT ts t) (kindT t) := fun W Far sb hS =>
  (kind_any Far sb 1000 ts _ t (idT_get ht) (kindT t) (by cases t <;> rfl) (by omega) W hS).mono fun _ _ ⟨he, hb⟩ => ⟨he, by subst hb; exact Below.refl _ _⟩
theorem depth_is {ts : List Tr} {t : Tr} (ht : t ∈ ts) (hlen : ts.length ≤ 900) : DepthIs ts (idT ts t) (depT t) := fun W Far sb hS =>
  (depth_any Far sb 1000 ts _ t (idT_get ht) (depT t) (by cases t <;> rfl) (by omega) W hS).mono fun _ _ ⟨he, hb⟩ => ⟨he, by subst hb; exact Below.refl _ _⟩
theorem kids_are {ts ts0 : List Tr} {d : Nat} {q : Nat → Tr} (ht : Tr.node d (fun i : Fin 8 => q i.val) ∈ ts) (hp : ts0 <+: ts) (hq : ∀ k, k < 8 → q k ∈ ts0) (_hlen : ts.length ≤ 900) :
    KidsAre ts (idT ts (Tr.node d (fun i : Fin 8 => q i.val))) (idT ts0 (q 0)) (idT ts0 (q 1)) (idT ts0 (q 2)) (idT ts0 (q 3)) (idT ts0 (q 4)) (idT ts0 (q 5)) (idT ts0 (q 6)) (idT ts0 (q 7)) := fun W Far sb hS => by
  have e := fun k (hk : k < 8) => idT_prefix hp (hq k hk)
  refine children_any Far sb 1000 ts _ _ (idT_get ht) _ _ _ _ _ _ _ _ (fun j u hu => ?_) W hS
  match j with
  | 0 => simp at hu; subst hu; rw [← e 0 (by omega)]; rfl
  | 1 => simp at hu; subst hu; rw [← e 1 (by omega)]; rfl
  | 2 => simp at hu; subst hu; rw [← e 2 (by omega)]; rfl
  | 3 => simp at hu; subst hu; rw [← e 3 (by omega)]; rfl
  | 4 => simp at hu; subst hu; rw [← e 4 (by omega)]; rfl
  | 5 => simp at hu; subst hu; rw [← e 5 (by omega)]; rfl
  | 6 => simp at hu; subst hu; rw [← e 6 (by omega)]; rfl
  | 7 => simp at hu; subst hu; rw [← e 7 (by omega)]; rfl
  | j + 8 => simp at hu
theorem tail_end {ts : List Tr} {q : Fin 8 → Tr} (hm : Tr.node 3 q ∈ ts) (hG : Good ts) (hlen : ts.length ≤ 9) :
    ∃ (ts' : List Tr) (u : Int), ts <+: ts' ∧ ts'.length ≤ ts.length + 1 ∧ Steps ts ts 3 (idT ts (.node 3 q) : Int) (idT ts (.node 3 q) : Int) (idT ts (.node 3 q) : Int) (idT ts (.node 3 q) : Int) (idT ts (.node 3 q) : Int) (idT ts (.node 3 q) : Int) (idT ts (.node 3 q) : Int) (idT ts (.node 3 q) : Int) 0 1 ∧ Steps ts ts 4 (idT ts (.node 3 q) : Int) (idT ts (.node 3 q) : Int) (idT ts (.node 3 q) : Int) (idT ts (.node 3 q) : Int) (idT ts (.node 3 q) : Int) (idT ts (.node 3 q) : Int) (idT ts (.node 3 q) : Int) (-1) 0 1 ∧ Steps ts ts' 4 (idT ts (.node 3 q) : Int) (idT ts (.node 3 q) : Int) (idT ts (.node 3 q) : Int) (idT ts (.node 3 q) : Int) (idT ts (.node 3 q) : Int) (idT ts (.node 3 q) : Int) (idT ts (.node 3 q) : Int) (idT ts (.node 3 q) : Int) u 0 ∧ DepthIs ts' u 4 := by
  have hk3 : ¬ okKid (.node 3 q) 3 := by
    rintro (⟨c, h⟩ | h)
    · cases h
    · have : (3 : Int) = 3 - 1 := h
      omega
  have hk4 : okKid (.node 3 q) 4 := .inr rfl
  have h1 := step_bad (ts := ts) (d := 3) (by omega) (fun _ => (idT ts (.node 3 q) : Int)) 0 (by omega) (fun k hk => absurd hk (Nat.not_lt_zero k)) (.inr ⟨_, hm, rfl, hk3⟩) (by omega)
  have h2 := step_bad (ts := ts) (d := 4) (by omega) (fun k => if k < 7 then (idT ts (.node 3 q) : Int) else -1) 7 (by omega) (fun k hk => ⟨_, hm, if_pos hk, hk4⟩) (.inl (by simp)) (by omega)
  have h3 := step_yes (ts := ts) (d := 4) (by omega) (fun _ => Tr.node 3 q) (fun k _ => ⟨hm, hk4⟩) hG (by omega)
  have hl := add_inner_len (d := 4) (ch := fun _ => Tr.node 3 q) hG (fun _ => hm)
  have hn : Tr.mkInner 4 (fun _ : Fin 8 => Tr.node 3 q) = .node 4 (fun _ => Tr.node 3 q) := by
    unfold Tr.mkInner
    rw [if_neg]
    rintro ⟨⟨c, hc⟩, -⟩
    cases hc
  refine ⟨_, _, Tr.add_prefix _ _, hl, h1, h2, h3, ?_⟩
  rw [hn] at hl ⊢
  exact depth_is (Tr.mem_add _ _) (by omega)
theorem tail_two {ts : List Tr} (q : Nat → Tr) (x : Nat → Int) (hq : ∀ k, k < 8 → q k ∈ ts ∧ x k = (idT ts (q k) : Int) ∧ Leaf (q k)) (hG : Good ts) (hlen : ts.length ≤ 3) (h : ¬ ∃ c, ∀ k, k < 8 → q k = .uni c) (dd : Int) :
    ∃ (ts1 ts2 ts3 : List Tr) (n0 k0 u0 er : Int), Steps ts ts1 3 (x 0) (x 1) (x 2) (x 3) (x 4) (x 5) (x 6) (x 7) n0 0 ∧ Steps ts1 ts1 3 (x 0) (x 1) (x 2) (x 3) (x 4) (x 5) (x 6) (x 7) n0 0 ∧ Steps ts1 ts2 dd (x 0) (x 1) (x 2) (x 3) (x 4) (x 5) (x 6) (x 7) k0 er ∧ Steps ts2 ts2 3 n0 n0 n0 n0 n0 n0 n0 n0 0 1 ∧ Steps ts2 ts2 4 n0 n0 n0 n0 n0 n0 n0 (-1) 0 1 ∧ Steps ts2 ts3 4 n0 n0 n0 n0 n0 n0 n0 n0 u0 0 ∧
      KindIs ts3 n0 3 ∧ DepthIs ts3 n0 3 ∧ KidsAre ts3 n0 (x 0) (x 1) (x 2) (x 3) (x 4) (x 5) (x 6) (x 7) ∧ DepthIs ts3 u0 4 ∧
      ((dd ≤ 2 ∨ 14 < dd) ∧ er = 13 ∨ (3 ≤ dd ∧ dd ≤ 14) ∧ (dd ≠ 3 ∧ ∃ k, k < 8 ∧ kindT (q k) ≠ 1) ∧ er = 1 ∨ (3 ≤ dd ∧ dd ≤ 14) ∧ (dd = 3 ∨ ∀ k, k < 8 → kindT (q k) = 1) ∧ er = 0 ∧ DepthIs ts3 k0 dd ∧ KidsAre ts3 k0 (x 0) (x 1) (x 2) (x 3) (x 4) (x 5) (x 6) (x 7)) := by
  have e0 := (hq 0 (by omega)).2.1
  have e1 := (hq 1 (by omega)).2.1
  have e2 := (hq 2 (by omega)).2.1
  have e3 := (hq 3 (by omega)).2.1
  have e4 := (hq 4 (by omega)).2.1
  have e5 := (hq 5 (by omega)).2.1
  have e6 := (hq 6 (by omega)).2.1
  have e7 := (hq 7 (by omega)).2.1
  have hL : ∀ k, k < 8 → okKid (q k) 3 := fun k hk => okKid_leaf (hq k hk).2.2
  have s1 := step_yes (ts := ts) (d := 3) (by omega) q (fun k hk => ⟨(hq k hk).1, hL k hk⟩) hG (by omega)
  have hG1 := Good.inner hG (ch := fun i : Fin 8 => q i.val) (d := 3) (fun i => (hq i.val i.isLt).1) (by omega)
  have hl1 := add_inner_len (d := 3) (ch := fun i : Fin 8 => q i.val) hG (fun i => (hq i.val i.isLt).1)
  rw [mk_node h] at s1 hG1 hl1
  obtain ⟨ts1, ht1⟩ : ∃ ts1, ts1 = Tr.add (.node 3 (fun i : Fin 8 => q i.val)) ts := ⟨_, rfl⟩
  have hp1 := Tr.add_prefix (.node 3 (fun i : Fin 8 => q i.val)) ts
  have hm1 := Tr.mem_add (.node 3 (fun i : Fin 8 => q i.val)) ts
  rw [← ht1] at s1 hG1 hl1 hp1 hm1
  have hx : ∀ k, k < 8 → x k = (idT ts1 (q k) : Int) := fun k hk => by rw [(hq k hk).2.1, idT_prefix hp1 (hq k hk).1]
  have s2 := step_yes (ts := ts1) (d := 3) (by omega) q (fun k hk => ⟨hp1.subset (hq k hk).1, hL k hk⟩) hG1 (by omega)
  rw [mk_node h, Tr.add_same _ _ hm1] at s2
  -- the end, for whatever the third call leaves
  have fin : ∀ (ts2 : List Tr) (k0 er : Int), ts1 <+: ts2 → Good ts2 → ts2.length ≤ 5 → Steps ts1 ts2 dd (x 0) (x 1) (x 2) (x 3) (x 4) (x 5) (x 6) (x 7) k0 er →
      (∀ ts3 : List Tr, ts2 <+: ts3 → ts3.length ≤ 6 → ((dd ≤ 2 ∨ 14 < dd) ∧ er = 13 ∨ (3 ≤ dd ∧ dd ≤ 14) ∧ (dd ≠ 3 ∧ ∃ k, k < 8 ∧ kindT (q k) ≠ 1) ∧ er = 1 ∨ (3 ≤ dd ∧ dd ≤ 14) ∧ (dd = 3 ∨ ∀ k, k < 8 → kindT (q k) = 1) ∧ er = 0 ∧ DepthIs ts3 k0 dd ∧ KidsAre ts3 k0 (x 0) (x 1) (x 2) (x 3) (x 4) (x 5) (x 6) (x 7))) →
      ∃ (ts1 ts2 ts3 : List Tr) (n0 k0 u0 er : Int), Steps ts ts1 3 (x 0) (x 1) (x 2) (x 3) (x 4) (x 5) (x 6) (x 7) n0 0 ∧ Steps ts1 ts1 3 (x 0) (x 1) (x 2) (x 3) (x 4) (x 5) (x 6) (x 7) n0 0 ∧ Steps ts1 ts2 dd (x 0) (x 1) (x 2) (x 3) (x 4) (x 5) (x 6) (x 7) k0 er ∧ Steps ts2 ts2 3 n0 n0 n0 n0 n0 n0 n0 n0 0 1 ∧ Steps ts2 ts2 4 n0 n0 n0 n0 n0 n0 n0 (-1) 0 1 ∧ Steps ts2 ts3 4 n0 n0 n0 n0 n0 n0 n0 n0 u0 0 ∧
        KindIs ts3 n0 3 ∧ DepthIs ts3 n0 3 ∧ KidsAre ts3 n0 (x 0) (x 1) (x 2) (x 3) (x 4) (x 5) (x 6) (x 7) ∧ DepthIs ts3 u0 4 ∧
        ((dd ≤ 2 ∨ 14 < dd) ∧ er = 13 ∨ (3 ≤ dd ∧ dd ≤ 14) ∧ (dd ≠ 3 ∧ ∃ k, k < 8 ∧ kindT (q k) ≠ 1) ∧ er = 1 ∨ (3 ≤ dd ∧ dd ≤ 14) ∧ (dd = 3 ∨ ∀ k, k < 8 → kindT (q k) = 1) ∧ er = 0 ∧ DepthIs ts3 k0 dd ∧ KidsAre ts3 k0 (x 0) (x 1) (x 2) (x 3) (x 4) (x 5) (x 6) (x 7)) := by
    intro ts2 k0 er hp2 hG2 hl2 s3 hlast
    have hm2 := hp2.subset hm1
    obtain ⟨ts3, u0, hp3, hl3, s4, s5, s6, hd⟩ := tail_end hm2 hG2 (by omega)
    have hm3 := hp3.subset hm2
    have hk := kind_is hm3 (by omega)
    have hdp := depth_is hm3 (by omega)
    have hc := kids_are hm3 (((hp1.trans hp2).trans hp3)) (fun k hk => (hq k hk).1) (by omega)
    have i3 : idT ts3 (Tr.node 3 fun i : Fin 8 => q i.val) = idT ts1 (Tr.node 3 fun i : Fin 8 => q i.val) := idT_prefix (hp2.trans hp3) hm1
    have i2 : idT ts2 (Tr.node 3 fun i : Fin 8 => q i.val) = idT ts1 (Tr.node 3 fun i : Fin 8 => q i.val) := idT_prefix hp2 hm1
    rw [i3] at hk hdp hc
    rw [i2] at s4 s5 s6
    refine ⟨ts1, ts2, ts3, (idT ts1 (Tr.node 3 fun i : Fin 8 => q i.val) : Int), k0, u0, er, ?_, ?_, s3, s4, s5, s6, hk, hdp, ?_, hd, hlast ts3 hp3 (by omega)⟩
    · rw [e0, e1, e2, e3, e4, e5, e6, e7]; exact s1
    · rw [hx 0 (by omega), hx 1 (by omega), hx 2 (by omega), hx 3 (by omega), hx 4 (by omega), hx 5 (by omega), hx 6 (by omega), hx 7 (by omega)]; exact s2
    · rw [e0, e1, e2, e3, e4, e5, e6, e7]; exact hc
  by_cases hdd : 3 ≤ dd ∧ dd ≤ 14
  · obtain ⟨d, rfl⟩ : ∃ d : Nat, dd = d := ⟨dd.toNat, by omega⟩
    by_cases hok : ∀ k, k < 8 → okKid (q k) d
    · have s3 := step_yes (ts := ts1) (d := d) (by omega) q (fun k hk => ⟨hp1.subset (hq k hk).1, hok k hk⟩) hG1 (by omega)
      have hG2 := Good.inner hG1 (ch := fun i : Fin 8 => q i.val) (d := d) (fun i => hp1.subset (hq i.val i.isLt).1) (by omega)
      have hl2 := add_inner_len (d := d) (ch := fun i : Fin 8 => q i.val) hG1 (fun i => hp1.subset (hq i.val i.isLt).1)
      rw [mk_node h] at s3 hG2 hl2
      refine fin _ _ _ (Tr.add_prefix _ _) hG2 (by omega) (by rw [hx 0 (by omega), hx 1 (by omega), hx 2 (by omega), hx 3 (by omega), hx 4 (by omega), hx 5 (by omega), hx 6 (by omega), hx 7 (by omega)]; exact s3) ?_
      intro ts3 hp3 hl3
      have hm := hp3.subset (Tr.mem_add (.node d (fun i : Fin 8 => q i.val)) ts1)
      have i3 := idT_prefix hp3 (Tr.mem_add (.node d (fun i : Fin 8 => q i.val)) ts1)
      have hdp := depth_is hm (by omega)
      have hc := kids_are hm (((hp1.trans (Tr.add_prefix _ _)).trans hp3)) (fun k hk => (hq k hk).1) (by omega)
      rw [i3] at hdp hc
      refine .inr (.inr ⟨hdd, ?_, rfl, hdp, ?_⟩)
      · by_cases e : (d : Int) = 3
        · exact .inl e
        · refine .inr fun k hk => ?_
          rcases hok k hk with ⟨c, hc⟩ | hc
          · rw [hc]; rfl
          · rcases (hq k hk).2.2 with ⟨c, h1⟩ | ⟨l, h1⟩
            · rw [h1]; rfl
            · rw [h1] at hc
              have : (2 : Int) = (d : Int) - 1 := hc
              omega
      · rw [e0, e1, e2, e3, e4, e5, e6, e7]; exact hc
    · obtain ⟨j, hj, hlo, hno⟩ := first_bad 8 (P := fun k => okKid (q k) d) (Classical.byContradiction fun hc => hok fun k hk => Classical.byContradiction fun hp => hc ⟨k, hk, hp⟩)
      refine fin ts1 0 1 (List.prefix_refl _) hG1 (by omega) (step_bad (ts := ts1) (d := (d : Int)) hdd x j hj (fun k hk => ⟨q k, hp1.subset (hq k (by omega)).1, hx k (by omega), hlo k hk⟩) (.inr ⟨q j, hp1.subset (hq j hj).1, hx j hj, hno⟩) (by omega)) (fun ts3 _ _ => .inr (.inl ⟨hdd, ⟨fun e => hno ?_, j, hj, fun e => hno ?_⟩, rfl⟩))
      · rw [e]; exact hL j hj
      · rcases (hq j hj).2.2 with ⟨c, h1⟩ | ⟨l, h1⟩
        · exact .inl ⟨c, h1⟩
        · rw [h1] at e; have : (2 : Int) = 1 := e; omega
  · exact fin ts1 0 13 (List.prefix_refl _) hG1 (by omega) (step_depth ts1 (by omega) x) (fun ts3 _ _ => .inl ⟨by omega, rfl⟩)
theorem all_uni {ts : List Tr} {q : Nat → Tr} {x : Nat → Int} (hq : ∀ k, k < 8 → q k ∈ ts ∧ x k = (idT ts (q k) : Int) ∧ Leaf (q k)) (h1 : flatX q 8 = true) (h2 : sameX x 8 = true) : ∃ c, ∀ k, k < 8 → q k = .uni c := by
  obtain ⟨c, hc⟩ := kind_uni ((flatX_iff q 8).1 h1 0 (by omega))
  refine ⟨c, fun k hk => ?_⟩
  have h := (sameX_iff x 8).1 h2 k hk
  rw [(hq k hk).2.1, (hq 0 (by omega)).2.1] at h
  rw [← hc]
  exact idT_inj (hq k hk).1 (hq 0 (by omega)).1 (by omega)
theorem not_uni {ts : List Tr} {q : Nat → Tr} {x : Nat → Int} (hq : ∀ k, k < 8 → q k ∈ ts ∧ x k = (idT ts (q k) : Int) ∧ Leaf (q k)) (h : flatX q 8 = false ∨ sameX x 8 = false) : ¬ ∃ c, ∀ k, k < 8 → q k = .uni c := by
  rintro ⟨c, hc⟩
  have h1 : flatX q 8 = true := (flatX_iff q 8).2 fun k hk => by rw [hc k hk]; rfl
  have h2 : sameX x 8 = true := (sameX_iff x 8).2 fun k hk => by rw [(hq k hk).2.1, (hq 0 (by omega)).2.1, hc k hk, hc 0 (by omega)]
  rcases h with h | h
  · rw [h1] at h; cases h
  · rw [h2] at h; cases h
theorem eql_arr_same (a0 a1 a2 a3 a4 a5 a6 a7 : Int) (w : World) : (binOp .eql 57 (.agg #[.int .i64 a0, .int .i64 a1, .int .i64 a2, .int .i64 a3, .int .i64 a4, .int .i64 a5, .int .i64 a6, .int .i64 a7]) (.agg #[.int .i64 a0, .int .i64 a1, .int .i64 a2, .int .i64 a3, .int .i64 a4, .int .i64 a5, .int .i64 a6, .int .i64 a7])).run Try.prog w = .ok (.bool true) w := by
  rw [eql_arr]; simp
theorem neq_arr_same (a0 a1 a2 a3 a4 a5 a6 a7 : Int) (w : World) : (binOp .neq 57 (.agg #[.int .i64 a0, .int .i64 a1, .int .i64 a2, .int .i64 a3, .int .i64 a4, .int .i64 a5, .int .i64 a6, .int .i64 a7]) (.agg #[.int .i64 a0, .int .i64 a1, .int .i64 a2, .int .i64 a3, .int .i64 a4, .int .i64 a5, .int .i64 a6, .int .i64 a7])).run Try.prog w = .ok (.bool false) w := by
  obtain ⟨i, hi⟩ : ∃ i, Try.prog.info? 3 = some i := Option.isSome_iff_exists.1 (by kernel_rfl)
  have hc : Try.prog.cellsOf 3 = 1 := by kernel_rfl
  rw [run_neq_struct, run_equalIn_array (n := 8) w 9999 _ _ Try.underlying57 hi, hc]
  rw [show List.range 8 = [0, 1, 2, 3, 4, 5, 6, 7] by decide]
  simp only [Op.eqItems]
  go_simp
/-- a Boolean that says whether -/
structure BoolIs (b : Bool) (P : Prop) : Prop where
  fwd : b = true → P
  bwd : P → b = true
structure ErIs (b : Bool) (b1 er : Int) : Prop where
  yes : b = true → er = 13
  no : b = false → b1 = er
/-- what lies in memory behind the children -/
structure TlI (w : World) (Far : Nat → Prop) (sb : Nat) (ts : List Tr) (gk : Nat) (x : Nat → Int) (wr : World) : Prop where
  st : StoreIs wr Far sb 1000 ts
  far : ∀ j, Far j → j < wr.heap.size
  old : ∀ j, j < w.heap.size → Far j
  bel : Below w.heap.size w wr
  row8 : wr.rowIs gk 57 8 (fun j => .int .i64 (x j))
  gf : Far gk
section
variable {w wr w' : World} {Far : Nat → Prop} {sb gk : Nat} {bl : List (Nat × Array Value × TypeId)} {ts ts' : List Tr} {zs : List Int} {v : Value} {x : Nat → Int}
theorem ChI.tl (h : ChI w Far sb bl ts zs v gk x 8 wr) : TlI w Far sb ts gk x wr := ⟨h.ni.st, h.ni.far, h.ni.old, h.ni.bel, h.row8.congr (fun j hj => by rw [if_pos hj]), h.gf⟩
theorem TlI.made (h : TlI w Far sb ts gk x wr) (hk : Keeps Far wr w') (hs : StoreIs w' Far sb 1000 ts') : TlI w Far sb ts' gk x w' :=
  ⟨hs, fun j hj => Nat.lt_of_lt_of_le (h.far j hj) hk.size, h.old, below_of_keeps h.bel hk h.old, rowIs_far h.row8 hk h.gf, h.gf⟩
theorem TlI.later (h : TlI w Far sb ts gk x wr) (hb : Below wr.heap.size wr w') : TlI w Far sb ts gk x w' := h.made (Keeps.below hb) (h.st.later hb)
end
end Go.Proofs.Ytabclecmehdeoaa
end
section
/- The walk of OctreeMakesNodes. -/
namespace Go.Proofs.Ytabclecmehdeoaa
open Go.RowKit Go.Sort Go.Maps
open Oct

set_option maxRecDepth 100000 in
set_option maxHeartbeats 4000000 in
theorem nodes_many (ca cb : Option Addr) (capa capb : Nat) (xs ys : List Int) (c dd : Int) (p : Nat → Int) (w : World) (hl : 80 < xs.length ∨ 80 < ys.length) : Calls Try.prog 5 #[.slice ca xs.length capa, .slice cb ys.length capb, .int .i64 c, .agg #[.int .u8 (p 0), .int .u8 (p 1), .int .u8 (p 2), .int .u8 (p 3), .int .u8 (p 4), .int .u8 (p 5), .int .u8 (p 6), .int .u8 (p 7)], .int .i64 dd] w fun e' w' => e' = .returned (.bool true) ∧ Below w.heap.size w w' := by
  by_cases h1 : 80 < xs.length
  · have t1 : decide ((80 : Int) < (xs.length : Int)) = true := by simp; omega
    go_enter Try.func5, Try.ntmps5
    go_wp2_with fail
    generalize hW : World.alloc w _ = W
    have hB : Below w.heap.size w W := by rw [← hW]; exact (Below.refl _ _).alloc (Nat.le_refl _) _
    have kp : Bk W (w.heap.size) #[.int .u8 (p 0), .int .u8 (p 1), .int .u8 (p 2), .int .u8 (p 3), .int .u8 (p 4), .int .u8 (p 5), .int .u8 (p 6), .int .u8 (p 7)] 49 := by rw [← hW]; exact blk_new _ _ _ (by simp)
    clear hW
    refine (sanity_true _).mono ?_
    rintro _ w1 ⟨rfl, hb⟩
    replace hB := hB.trans (hb.mono hB.size)
    replace kp := kp.later hb
    clear hb
    go_wp2_with fail
    refine (newStore_any 1000 _).mono ?_
    rintro _ w2 ⟨sb, rfl, hS, hb⟩
    replace hB := hB.trans (hb.mono hB.size)
    clear hb kp hS
    go_wp2_with fail
    go_ret
    exact ⟨rfl, hB⟩
  · have t1 : decide ((80 : Int) < (xs.length : Int)) = false := by simp; omega
    have t2 : decide ((80 : Int) < (ys.length : Int)) = true := by simp; omega
    go_enter Try.func5, Try.ntmps5
    go_wp2_with fail
    generalize hW : World.alloc w _ = W
    have hB : Below w.heap.size w W := by rw [← hW]; exact (Below.refl _ _).alloc (Nat.le_refl _) _
    have kp : Bk W (w.heap.size) #[.int .u8 (p 0), .int .u8 (p 1), .int .u8 (p 2), .int .u8 (p 3), .int .u8 (p 4), .int .u8 (p 5), .int .u8 (p 6), .int .u8 (p 7)] 49 := by rw [← hW]; exact blk_new _ _ _ (by simp)
    clear hW
    refine (sanity_true _).mono ?_
    rintro _ w1 ⟨rfl, hb⟩
    replace hB := hB.trans (hb.mono hB.size)
    replace kp := kp.later hb
    clear hb
    go_wp2_with fail
    refine (newStore_any 1000 _).mono ?_
    rintro _ w2 ⟨sb, rfl, hS, hb⟩
    replace hB := hB.trans (hb.mono hB.size)
    clear hb kp hS
    go_wp2_with fail
    go_ret
    exact ⟨rfl, hB⟩
end Go.Proofs.Ytabclecmehdeoaa
end
section
/- The walk of OctreeMakesNodes, and the whole. -/
namespace Go.Proofs.Ytabclecmehdeoaa
open Go.RowKit Go.Sort Go.Maps
open Oct

set_option maxRecDepth 100000 in
set_option maxHeartbeats 4000000 in
theorem nodes_few (ca cb : Option Addr) (capa capb : Nat) (xs ys : List Int) (c dd : Int) (p : Nat → Int) (w : World) (hl : xs.length ≤ 80) (hl2 : ys.length ≤ 80) (hcap : xs.length ≤ capa) (hcap2 : ys.length ≤ capb) (hp : ∀ k, 0 ≤ p k ∧ p k ≤ 255) (hsx : Sl w .i64 ca xs) (hsy : Sl w .i64 cb ys)  : Calls Try.prog 5 #[.slice ca xs.length capa, .slice cb ys.length capb, .int .i64 c, .agg #[.int .u8 (p 0), .int .u8 (p 1), .int .u8 (p 2), .int .u8 (p 3), .int .u8 (p 4), .int .u8 (p 5), .int .u8 (p 6), .int .u8 (p 7)], .int .i64 dd] w fun e' w' => e' = .returned (.bool true) ∧ Below w.heap.size w w' := by
  have t1 : decide ((80 : Int) < (xs.length : Int)) = false := by simp; omega
  have t2 : decide ((80 : Int) < (ys.length : Int)) = false := by simp; omega
  have Hp := Bx.mk hp
  have Hsx := Bx.mk hsx
  have Hsy := Bx.mk hsy
  clear hp hsx hsy
  go_enter Try.func5, Try.ntmps5
  go_wp2_with fail
  generalize hW : World.alloc w _ = W
  have hB : Below w.heap.size w W := by rw [← hW]; exact (Below.refl _ _).alloc (Nat.le_refl _) _
  have kp : Bk W (w.heap.size) #[.int .u8 (p 0), .int .u8 (p 1), .int .u8 (p 2), .int .u8 (p 3), .int .u8 (p 4), .int .u8 (p 5), .int .u8 (p 6), .int .u8 (p 7)] 49 := by rw [← hW]; exact blk_new _ _ _ (by simp)
  clear hW
  refine (sanity_true _).mono ?_
  rintro _ w1 ⟨rfl, hb⟩
  replace hB := hB.trans (hb.mono hB.size)
  replace kp := kp.later hb
  clear hb
  go_wp2_with fail
  refine (newStore_any 1000 _).mono ?_
  rintro _ w2 ⟨sb, rfl, hS, hb⟩
  have HI : Bx (NodI w (fun k => k < w1.heap.size) sb [(w.heap.size, #[.int .u8 (p 0), .int .u8 (p 1), .int .u8 (p 2), .int .u8 (p 3), .int .u8 (p 4), .int .u8 (p 5), .int .u8 (p 6), .int .u8 (p 7)], 49)] [] [] (.slice none 0 0) w2) := ⟨⟨hS, fun j hj => Nat.lt_of_lt_of_le hj hb.size, fun j hj => Nat.lt_of_lt_of_le hj hB.size, hB.trans (hb.mono hB.size), good_nil, fun z hz => (by cases hz), Own.nil _ _ _ _, fun g hg => (by cases hg), fun x hx => (by
    rw [List.mem_singleton] at hx; subst hx; exact ⟨kp.later hb, kp.lt⟩), fun x hx e => (by cases e)⟩⟩
  clear hb hB kp hS
  go_upto_region 6 with fail
  have HI2 := Bx.mk HI.out.row0
  clear HI
  generalize World.alloc w2 (Obj.cells #[] 3) = w3 at *
  generalize w2.heap.size = g0 at *
  generalize hFar : (fun j => j < w1.heap.size ∨ j = g0) = Far at *
  clear hFar
  go_cut [14, 15] from 59 to 64 (fun v14 v15 wx => ∃ (z er : Int) (ts : List Tr), v14 = .int .i64 z ∧ v15 = .int .i64 er ∧ Bx (NodI w Far sb [(w.heap.size, #[.int .u8 (p 0), .int .u8 (p 1), .int .u8 (p 2), .int .u8 (p 3), .int .u8 (p 4), .int .u8 (p 5), .int .u8 (p 6), .int .u8 (p 7)], 49)] ts [] (.slice (some ⟨g0, 0, none⟩) 0 0) wx ∧ ts.length ≤ 1 ∧ ((0 ≤ c ∧ c ≤ 255) ∧ er = 0 ∧ (∃ t, t ∈ ts ∧ z = (idT ts t : Int) ∧ Leaf t) ∨ ¬ (0 ≤ c ∧ c ≤ 255) ∧ er = 1)))
  case first =>
    by_cases hc : 0 ≤ c ∧ c ≤ 255
    · have Hc := Bx.mk hc
      have hu := Bx.mk (uniform_any _ Far sb 1000 [] c hc good_nil (by simp) HI2.out.far HI2.out.st)
      clear hc
      go_wp2_with fail
      refine hu.out.mono ?_
      rintro _ w4 hg
      obtain ⟨rfl, hs, hk⟩ := grew_leaf hg (.inl ⟨c, rfl⟩) (by simp)
      have HI := Bx.mk (HI2.out.made hk hs (Tr.add_prefix _ _) (Good.uni good_nil Hc.out))
      have HZ := Bx.mk (show ∃ t, t ∈ Tr.add (.uni c) [] ∧ (idT (Tr.add (.uni c) []) (.uni c) : Int) = (idT (Tr.add (.uni c) []) t : Int) ∧ Leaf t from ⟨_, Tr.mem_add _ _, rfl, .inl ⟨c, rfl⟩⟩)
      have HT := Bx.mk (show (Tr.add (.uni c) []).length ≤ 1 from add_leaf (.inl ⟨c, rfl⟩) [])
      clear hg hs hk HI2 hu
      generalize (idT (Tr.add (.uni c) []) (.uni c) : Int) = z at *
      generalize Tr.add (.uni c) [] = ts at *
      go_wp2_with fail
      go_meet
      exact ⟨z, 0, ts, rfl, rfl, ⟨HI.out, HT.out, .inl ⟨Hc.out, rfl, HZ.out⟩⟩⟩
    · have Hc := Bx.mk hc
      have hu := Bx.mk (uniform_err sb c hc w3)
      clear hc
      go_wp2_with fail
      refine hu.out.mono ?_
      rintro _ _ ⟨rfl, rfl⟩
      go_wp2_with fail
      go_meet
      exact ⟨0, 1, [], rfl, rfl, ⟨HI2.out, by simp, .inr ⟨Hc.out, rfl⟩⟩⟩
  case rest =>
  clear HI2
  obtain ⟨z, er, ts, rfl, rfl, HU⟩ := hcut
  generalize wc = w4 at *
  go_upto_region 7 with fail
  go_cut [73] from 65 to 73 (fun v wx => v = .bool false ∧ wx = w4)
  case first =>
    rcases HU.out.2.2 with ⟨hc, rfl, -⟩ | ⟨hc, rfl⟩
    · have t3 : decide (0 ≤ c) = true := by simpa using hc.1
      have t4 : decide (c ≤ 255) = true := by simpa using hc.2
      clear hc
      go_wp2_with fail
      go_meet
      exact ⟨rfl, rfl⟩
    · by_cases h0 : 0 ≤ c
      · have t3 : decide (0 ≤ c) = true := by simpa using h0
        have t4 : decide (c ≤ 255) = false := by simp; omega
        clear hc
        go_wp2_with fail
        go_meet
        exact ⟨rfl, rfl⟩
      · have t3 : decide (0 ≤ c) = false := by simpa using h0
        clear hc
        go_wp2_with fail
        go_meet
        exact ⟨rfl, rfl⟩
  case rest =>
  obtain ⟨rfl, hw⟩ := hcut
  replace hw := hw.symm
  subst hw
  go_upto_if 75 with fail
  go_cut [13] from 76 to 79 (fun v wx => ∃ (Far' : Nat → Prop) (zs : List Int), Bx (NodI w Far' sb [(w.heap.size, #[.int .u8 (p 0), .int .u8 (p 1), .int .u8 (p 2), .int .u8 (p 3), .int .u8 (p 4), .int .u8 (p 5), .int .u8 (p 6), .int .u8 (p 7)], 49)] ts zs v wx ∧ ts.length ≤ 1 ∧ zs.length ≤ 1))
  case first =>
    rcases HU.out with ⟨hI, hT, (⟨hc, rfl, hz⟩ | ⟨hc, rfl⟩)⟩
    · have HI := Bx.mk hI
      have HZ := Bx.mk hz
      have HT := Bx.mk hT
      clear hI hT hc hz HU
      have hle : w.heap.size ≤ w4.heap.size := HI.out.bel.size
      go_wp2_with (first
        | (at_builtin
           refine wpList_append_int rfl _ _ 26 rfl 3 .i64 (.int .i64 0) 8 (by omega) Try.underlying26 (by kernel_rfl) rfl w.heap.size _ [] rfl (HI.out.own.alloc _) z ⟨w4.heap.size, 0, none⟩ 1 rfl (cell_new _ _ _) (by simp) (le_alloc hle _) ?_
           intro v5 w5 hown hg hv))
      have HR := Bx.mk ((HI.out.later (below_lit _ _)).push hg hown hv HZ.out)
      clear hown hg hv HI HZ hle
      go_meet
      exact ⟨_, [] ++ [z], ⟨HR.out, HT.out, by simp⟩⟩
    · have HI := Bx.mk hI
      have HT := Bx.mk hT
      clear hI hT hc HU
      go_wp2_with fail
      go_meet
      exact ⟨_, [], ⟨HI.out, HT.out, by simp⟩⟩
  case rest =>
  clear HU
  obtain ⟨Far', zs, HI2⟩ := hcut
  generalize wc = w5 at *
  rename_i v5
  have HT := Bx.mk HI2.out.2
  replace HI2 := Bx.mk HI2.out.1
  go_wp2_with fail
  have HI := Bx.mk (HI2.out.block #[.slice ca xs.length capa, .slice cb ys.length capb] 26)
  clear HI2
  have HTs := Bx.mk (show ts.length ≤ 0 + 1 ∧ zs.length ≤ 0 + 1 from HT.out)
  clear t1 t2 HT
  generalize World.alloc w5 (Obj.cells #[.slice ca xs.length capa, .slice cb ys.length capb] 26) = w6 at *
  generalize w5.heap.size = gl at *
  go_loopw [13, 17] (fun v13 v17 wr => ∃ (i : Nat) (Far' : Nat → Prop) (ts' : List Tr) (zs' : List Int), i ≤ 2 ∧ v17 = .int .i64 i ∧ Bx (ts'.length ≤ i + 1 ∧ zs'.length ≤ i + 1) ∧ Bx (NodI w Far' sb [(gl, #[.slice ca xs.length capa, .slice cb ys.length capb], 26), (w.heap.size, #[.int .u8 (p 0), .int .u8 (p 1), .int .u8 (p 2), .int .u8 (p 3), .int .u8 (p 4), .int .u8 (p 5), .int .u8 (p 6), .int .u8 (p 7)], 49)] ts' zs' v13 wr)) (fun _ i _ => 2 - (intOf i).toNat)
  case atStart => exact ⟨0, _, _, _, Nat.zero_le _, rfl, HTs, HI⟩
  case round =>
    clear HI HTs
    obtain ⟨i, Far', ts', zs', hi, rfl, HT, HI⟩ := hrel
    by_cases hlt : i < 2
    · have t0 : decide ((i : Int) < 2) = true := by simp; omega
      obtain ⟨la, ll, lc, hlv, hLs, hll, hlc⟩ : ∃ la ll lc, (#[.slice ca xs.length capa, .slice cb ys.length capb] : Array Value)[i]? = some (.slice la ll.length lc) ∧ Sl w .i64 la ll ∧ ll.length ≤ 80 ∧ ll.length ≤ lc := by
        rcases (show i = 0 ∨ i = 1 by omega) with rfl | rfl
        · exact ⟨ca, xs, capa, rfl, Hsx.out, hl, hcap⟩
        · exact ⟨cb, ys, capb, rfl, Hsy.out, hl2, hcap2⟩
      have b1 : (0 : Int) ≤ (i : Int) := by omega
      have b2 : (i : Int) < 2 := by omega
      have Hlv := Bx.mk hlv
      have HLs := Bx.mk hLs
      clear hlv hLs
      cases hb : Pal.brick ll with
      | false =>
        have cl := (HI.out.kb _ List.mem_cons_self).1.cell i Hlv.out
        have HBr := Bx.mk (brick_no sb la lc ll (by omega) hb wr (HLs.out.below HI.out.bel))
        have HRb := Bx.mk (ref_brick la lc ll wr (by omega) (HLs.out.below HI.out.bel))
        rw [hb] at HRb
        go_wp2_with fail
        refine HBr.out.mono ?_
        rintro _ _ ⟨rfl, rfl⟩
        go_wp2_with fail
        refine HRb.out.mono ?_
        rintro _ _ ⟨rfl, rfl⟩
        go_wp2_with fail
        go_roundw
        case rel => exact ⟨i + 1, Far', ts', zs', by omega, by go_num, ⟨by have := HT.out; omega⟩, HI⟩
        case measure => simp [intOf]; omega
      | true =>
        have h64 : ll.length = 64 := by unfold Pal.brick at hb; simp at hb; exact hb.1
        have hal : ll.all Pal.cell = true := by unfold Pal.brick at hb; simp only [Bool.and_eq_true] at hb; exact hb.2
        rw [h64] at Hlv
        have hG1 := good_add _ HI.out.good (wf_mk h64 hal)
        have HBr := Bx.mk (brick_any wr Far' sb 1000 ts' la lc ll h64 hal (HLs.out.below HI.out.bel) HI.out.good (by have := HT.out; omega) HI.out.far HI.out.st)
        have cl := (HI.out.kb _ List.mem_cons_self).1.cell i Hlv.out
        have H64 := Bx.mk h64
        have Hal := Bx.mk hal
        have HG1 := Bx.mk hG1
        have Hb := Bx.mk hb
        clear h64 hal hG1 hb hll hlc
        go_wp2_with fail
        refine HBr.out.mono ?_
        rintro _ w7 hg
        obtain ⟨rfl, hs, hk⟩ := grew_leaf hg (leaf_mk ll) (by have := HT.out; omega)
        have HI3 := Bx.mk (HI.out.made hk hs (Tr.add_prefix _ _) HG1.out)
        have HT3 := Bx.mk (show (Tr.add (Tr.mkBrick ll) ts').length ≤ i + 1 + 1 ∧ ∀ z, (zs' ++ [z]).length ≤ i + 1 + 1 from ⟨Nat.le_trans (add_leaf (leaf_mk ll) ts') (Nat.add_le_add_right HT.out.1 1), fun z => by rw [List.length_append]; exact Nat.add_le_add_right HT.out.2 1⟩)
        have HZ := Bx.mk (show ∃ t, t ∈ Tr.add (Tr.mkBrick ll) ts' ∧ (idT (Tr.add (Tr.mkBrick ll) ts') (Tr.mkBrick ll) : Int) = (idT (Tr.add (Tr.mkBrick ll) ts') t : Int) ∧ Leaf t from ⟨_, Tr.mem_add _ _, rfl, leaf_mk ll⟩)
        clear hg hs hk HBr HI cl
        have HRb := ref_brick la lc ll w7 (by have := H64.out; omega) (HLs.out.below HI3.out.bel)
        rw [H64.out, Hb.out] at HRb
        replace HRb := Bx.mk HRb
        have HRB := Bx.mk fun W (h : Below w7.heap.size w7 W) => ref9_brick la lc ll W H64.out Hal.out ((HLs.out.below HI3.out.bel).below h)
        have HDe := Bx.mk fun W (h : Below w7.heap.size w7 W) => describes_leaf W Far' sb 1000 _ ll H64.out Hal.out (Tr.mem_add _ _) HG1.out (by have := HT3.out; omega) (HI3.out.st.later h)
        generalize (idT (Tr.add (Tr.mkBrick ll) ts') (Tr.mkBrick ll) : Int) = z7 at *
        generalize strOfNums (Tr.enc (Tr.mkBrick ll)) = S7 at *
        have cl := (HI3.out.kb _ List.mem_cons_self).1.cell i Hlv.out
        go_wp2_with fail
        refine HRb.out.mono ?_
        rintro _ _ ⟨rfl, rfl⟩
        have cl := (HI3.out.kb _ List.mem_cons_self).1.cell i Hlv.out
        go_wp2_with fail
        refine (HRB.out _ (Below.refl _ _)).mono ?_
        rintro _ w8 ⟨rfl, hb8⟩
        have HB8 := Bx.mk hb8
        clear hb8 cl
        go_wp2_with fail
        refine (HDe.out _ HB8.out).mono ?_
        rintro _ w9 ⟨rfl, hb9⟩
        have HI9 := Bx.mk (HI3.out.later (HB8.out.trans (hb9.mono HB8.out.size)))
        have hle := HI9.out.bel.size
        have Hl9 := Bx.mk (show zs'.length ≤ 1000000000 from by have := HT.out; omega)
        clear hb9 HB8 HI3 HDe HRB HRb HG1
        go_wp2_with (first
          | (at_builtin
             refine wpList_append_int rfl _ _ 26 rfl 3 .i64 (.int .i64 0) 8 (by omega) Try.underlying26 (by kernel_rfl) rfl w.heap.size _ zs' rfl (HI9.out.own.alloc _) z7 ⟨w9.heap.size, 0, none⟩ 1 rfl (cell_new _ _ _) Hl9.out (le_alloc hle _) ?_
             intro v10 w10 hown hg hv))
        have HI2 := Bx.mk ((HI9.out.later (below_lit _ _)).push hg hown hv HZ.out)
        clear hown hg hv HI9 HZ hle
        go_roundw
        case rel => exact ⟨i + 1, _, _, _, by omega, by go_num, ⟨HT3.out.1, HT3.out.2 _⟩, HI2⟩
        case measure => simp [intOf]; omega
    · obtain rfl : i = 2 := by omega
      have t0 : decide ((2 : Int) < 2) = false := by decide
      rw [show ((2 : Nat) : Int) = 2 from rfl]
      by_cases h0 : zs'.length = 0
      · obtain ⟨pa, pc, rfl, -⟩ := HI.out.own.form
        have t3 : ((zs'.length : Int) == 0) = true := by rw [h0]; rfl
        go_wp2_with fail
        go_ret
        exact ⟨rfl, HI.out.bel⟩
      · obtain ⟨g1, cap1, rfl, -, -, -, -, -⟩ := HI.out.own.at (by omega)
        have t3 : ((zs'.length : Int) == 0) = false := beq_eq_false_iff_ne.2 (by omega)
        have t3' : (zs'.length : Int) ≠ 0 := by omega
        have hpos : 0 < zs'.length := by omega
        obtain ⟨x, hx⟩ : ∃ x : Nat → Int, ∀ k, zs'[(p k).toNat % zs'.length]? = some (x k) := ⟨fun k => zs'[(p k).toNat % zs'.length]'(Nat.mod_lt _ hpos), fun k => List.getElem?_eq_getElem _⟩
        obtain ⟨q, hq⟩ := HI.out.kids.pick x (fun k => List.mem_of_getElem? (hx k))
        have HC := Bx.mk (HI.out.kids8 x)
        have HX := Bx.mk hx
        have HQ := Bx.mk hq
        clear hx hq HI
        go_wp2_with fail
        generalize World.alloc wr _ = w7 at *
        generalize wr.heap.size = gk at *
        generalize hFar : (fun j => Far' j ∨ j = gk) = Far3 at *
        clear hFar
        go_loopw [22, 23, 24] (fun v22 v23 v24 wr => ∃ k : Nat, k ≤ 8 ∧ v24 = .int .i64 k ∧ v22 = .bool (sameX x k) ∧ v23 = .bool (flatX q k) ∧ Bx (ChI w Far3 sb [(gl, #[.slice ca xs.length capa, .slice cb ys.length capb], 26), (w.heap.size, #[.int .u8 (p 0), .int .u8 (p 1), .int .u8 (p 2), .int .u8 (p 3), .int .u8 (p 4), .int .u8 (p 5), .int .u8 (p 6), .int .u8 (p 7)], 49)] ts' zs' (.slice (some ⟨g1, 0, none⟩) zs'.length cap1) gk x k wr)) (fun _ _ i _ => 8 - (intOf i).toNat)
        case atStart => exact ⟨0, Nat.zero_le _, rfl, rfl, rfl, HC⟩
        case round =>
          clear HC
          obtain ⟨k, hk, rfl, rfl, rfl, HC⟩ := hrel
          by_cases hlt : k < 8
          · have t4 : decide ((k : Int) < 8) = true := by simp; omega
            have b1 : (0 : Int) ≤ (k : Int) := by omega
            have b2 : (k : Int) < 8 := by omega
            have cp := cell8 (HC.out.ni.kb _ (List.mem_cons_of_mem _ List.mem_cons_self)).1 hlt
            have hpk := Hp.out k
            have hmod : (p k) % (zs'.length : Int) = (((p k).toNat % zs'.length : Nat) : Int) := by
              rw [Int.natCast_emod, Int.toNat_of_nonneg hpk.1]
            have hmlt : (p k).toNat % zs'.length < zs'.length := Nat.mod_lt _ hpos
            have hxk := HX.out k
            obtain ⟨g2, cap2, he, -, -, hcz, -, -⟩ := HC.out.ni.own.at hpos
            injection he with he1 he2 he3
            injection he1 with he1
            injection he1 with he1
            subst he1
            have cz := hcz _ _ hxk
            generalize (p k).toNat % zs'.length = m at *
            have hw8 : IntKind.i64.wrap (p k) = p k := IntWalk.i64_in _ (by omega)
            have b3 : (0 : Int) ≤ (m : Int) := by omega
            have b4 : (m : Int) < (zs'.length : Int) := by omega
            have b5 : 0 ≤ p k := hpk.1
            have cr := HC.out.row8.cell hlt
            have fr := HC.out.row8.frozen k
            have HS := Bx.mk (sameX_succ x k)
            have HF := Bx.mk (flatX_succ q k)
            have HK := Bx.mk (kind_is (HQ.out k).1 (by have := HT.out; omega))
            rw [← (HQ.out k).2.1] at HK
            have HC2 := Bx.mk HC.out.put
            clear hcz hxk HC he3
            go_wp2_with fail
            clear cp cz cr fr hmod hw8 b5 hpk
            generalize World.setCell wr _ _ = W at *
            cases hs : sameX x k with
            | false =>
              rw [hs] at HS
              refine wp_region_quiet_below (by kernel_rfl) (by kernel_rfl) ?_
              repeat (first | go_big_quiet_step ((fail)) | quiet_step (fail))
              refine wpQuiet_nil ?_
              rintro _ ⟨⟨dq, osq⟩, rfl⟩
              have HC3 := Bx.mk (HC2.out.later (below_regrown W dq osq))
              clear HC2 
              generalize grow (redrawn W dq) osq = W2 at *
              cases hf : flatX q k with
              | false =>
                rw [hf] at HF
                go_wp2_with fail
                go_roundw
                case rel => exact ⟨k + 1, by omega, by go_num, by rw [HS.out]; rfl, by rw [HF.out]; rfl, HC3⟩
                case measure => simp [intOf]; omega
              | true =>
                rw [hf] at HF
                have d1 := HC3.out.row8.cell hlt
                simp only [Nat.lt_succ_self, if_true] at d1
                go_wp2_with fail
                refine (HK.out _ _ _ HC3.out.ni.st).mono ?_
                rintro _ W3 ⟨rfl, hb⟩
                have HC4 := Bx.mk (HC3.out.later hb)
                clear hb HC3 d1
                go_wp2_with fail
                go_roundw
                case rel => exact ⟨k + 1, by omega, by go_num, by rw [HS.out]; rfl, by rw [HF.out]; rfl, HC4⟩
                case measure => simp [intOf]; omega
            | true =>
              rw [hs] at HS
              have d1 := HC2.out.row8.cell hlt
              have d2 := HC2.out.row8.cell (show 0 < 8 by omega)
              simp only [Nat.lt_succ_self, Nat.zero_lt_succ, if_true] at d1 d2
              have qc1 : ∀ dk osk, (grow (redrawn W dk) osk).cell? ⟨gk, k, none⟩ = some (.int .i64 (x k)) := cell_regrown d1
              have qc2 : ∀ dk osk, (grow (redrawn W dk) osk).cell? ⟨gk, 0, none⟩ = some (.int .i64 (x 0)) := cell_regrown d2
              clear d1 d2
              refine wp_region_quiet_below (by kernel_rfl) (by kernel_rfl) ?_
              repeat (first | go_big_quiet_step ((fail)) | quiet_step (fail))
              refine wpQuiet_nil ?_
              rintro _ ⟨⟨dq, osq⟩, rfl⟩
              have HC3 := Bx.mk (HC2.out.later (below_regrown W dq osq))
              clear HC2 qc1 qc2
              generalize grow (redrawn W dq) osq = W2 at *
              cases hf : flatX q k with
              | false =>
                rw [hf] at HF
                go_wp2_with fail
                go_roundw
                case rel => exact ⟨k + 1, by omega, by go_num, by rw [HS.out]; rfl, by rw [HF.out]; rfl, HC3⟩
                case measure => simp [intOf]; omega
              | true =>
                rw [hf] at HF
                have d1 := HC3.out.row8.cell hlt
                simp only [Nat.lt_succ_self, if_true] at d1
                go_wp2_with fail
                refine (HK.out _ _ _ HC3.out.ni.st).mono ?_
                rintro _ W3 ⟨rfl, hb⟩
                have HC4 := Bx.mk (HC3.out.later hb)
                clear hb HC3 d1
                go_wp2_with fail
                go_roundw
                case rel => exact ⟨k + 1, by omega, by go_num, by rw [HS.out]; rfl, by rw [HF.out]; rfl, HC4⟩
                case measure => simp [intOf]; omega
          · obtain rfl : k = 8 := by omega
            have t4 : decide ((8 : Int) < 8) = false := by decide
            rw [show ((8 : Nat) : Int) = 8 from rfl]
            have HQ8 := Bx.mk (show ∀ k, k < 8 → q k ∈ ts' ∧ x k = (idT ts' (q k) : Int) ∧ Leaf (q k) from fun k _ => HQ.out k)
            clear HQ HX Hp Hsx Hsy
            by_cases hA : flatX q 8 = true ∧ sameX x 8 = true
            · obtain ⟨hf, hs⟩ := hA
              rw [hf, hs]
              · skip
                obtain ⟨c0, hc0⟩ := all_uni HQ8.out hf hs
                clear hf hs
                have HS1 := Bx.mk (tail_one q x HQ8.out HC.out.ni.good (by have := HT.out; omega) c0 hc0)
                clear hc0 HQ8
                have d0 := HC.out.row8.cell (show 0 < 8 by omega)
                have d1 := HC.out.row8.cell (show 1 < 8 by omega)
                have d2 := HC.out.row8.cell (show 2 < 8 by omega)
                have d3 := HC.out.row8.cell (show 3 < 8 by omega)
                have d4 := HC.out.row8.cell (show 4 < 8 by omega)
                have d5 := HC.out.row8.cell (show 5 < 8 by omega)
                have d6 := HC.out.row8.cell (show 6 < 8 by omega)
                have d7 := HC.out.row8.cell (show 7 < 8 by omega)
                simp only [Nat.reduceLT, if_true] at d0 d1 d2 d3 d4 d5 d6 d7
                go_wp2_with fail
                refine (HS1.out _ _ _ HC.out.ni.far HC.out.ni.st).mono ?_
                rintro _ W1 ⟨rfl, hs1, hk1⟩
                have HC1 := Bx.mk (HC.out.made hk1 hs1 (List.prefix_refl _) HC.out.ni.good)
                clear hs1 hk1 HC d0 d1 d2 d3 d4 d5 d6 d7
                have d0 := HC1.out.row8.cell (show 0 < 8 by omega)
                have d1 := HC1.out.row8.cell (show 1 < 8 by omega)
                have d2 := HC1.out.row8.cell (show 2 < 8 by omega)
                have d3 := HC1.out.row8.cell (show 3 < 8 by omega)
                have d4 := HC1.out.row8.cell (show 4 < 8 by omega)
                have d5 := HC1.out.row8.cell (show 5 < 8 by omega)
                have d6 := HC1.out.row8.cell (show 6 < 8 by omega)
                have d7 := HC1.out.row8.cell (show 7 < 8 by omega)
                simp only [Nat.reduceLT, if_true] at d0 d1 d2 d3 d4 d5 d6 d7
                go_wp2_with fail
                refine (HS1.out _ _ _ HC1.out.ni.far HC1.out.ni.st).mono ?_
                rintro _ W2 ⟨rfl, hs1, hk1⟩
                have HC2 := Bx.mk (HC1.out.made hk1 hs1 (List.prefix_refl _) HC1.out.ni.good)
                clear hs1 hk1 HC1 d0 d1 d2 d3 d4 d5 d6 d7 HS1
                have d0 := HC2.out.row8.cell (show 0 < 8 by omega)
                simp only [show (0 : Nat) < 8 from by omega, if_true] at d0
                go_wp2_with fail
                go_ret
                exact ⟨rfl, HC2.out.ni.bel⟩
            · have HN := Bx.mk (not_uni HQ8.out (by
                cases hf : flatX q 8 with
                | false => exact .inl rfl
                | true =>
                  cases hs : sameX x 8 with
                  | false => exact .inr rfl
                  | true => exact absurd ⟨hf, hs⟩ hA))
              have HFl := Bx.mk (flatX_iff q 8)
              have HA := Bx.mk hA
              clear hA
              generalize sameX x 8 = sm at *
              generalize flatX q 8 = fl at *
              obtain ⟨ts1, ts2, ts3, n0, k0, u0, er, s1, s2, s3, s4, s5, s6, rk, rd, rc, ru, hcase⟩ := tail_two q x HQ8.out HC.out.ni.good (by have := HT.out; omega) HN.out dd
              have S1 := Bx.mk s1
              have S2 := Bx.mk s2
              have S3 := Bx.mk s3
              have S4 := Bx.mk s4
              have S5 := Bx.mk s5
              have S6 := Bx.mk s6
              have Rk := Bx.mk rk
              have Rd := Bx.mk rd
              have Rc := Bx.mk rc
              have Ru := Bx.mk ru
              have HCs := Bx.mk hcase
              have H0 := Bx.mk HC.out.tl
              have eqA := fun W : World => eql_arr_same (x 0) (x 1) (x 2) (x 3) (x 4) (x 5) (x 6) (x 7) W
              have neA := fun W : World => neq_arr_same (x 0) (x 1) (x 2) (x 3) (x 4) (x 5) (x 6) (x 7) W
              clear s1 s2 s3 s4 s5 s6 rk rd rc ru hcase HC HN HQ8
              have d0 := H0.out.row8.cell (show 0 < 8 by omega)
              have d1 := H0.out.row8.cell (show 1 < 8 by omega)
              have d2 := H0.out.row8.cell (show 2 < 8 by omega)
              have d3 := H0.out.row8.cell (show 3 < 8 by omega)
              have d4 := H0.out.row8.cell (show 4 < 8 by omega)
              have d5 := H0.out.row8.cell (show 5 < 8 by omega)
              have d6 := H0.out.row8.cell (show 6 < 8 by omega)
              have d7 := H0.out.row8.cell (show 7 < 8 by omega)
              go_wp2_with fail
              refine (S1.out _ _ _ H0.out.far H0.out.st).mono ?_
              rintro _ W1 ⟨rfl, hs1, hk1⟩
              have H1 := Bx.mk (H0.out.made hk1 hs1)
              clear hs1 hk1 H0 S1 d0 d1 d2 d3 d4 d5 d6 d7
              have d0 := H1.out.row8.cell (show 0 < 8 by omega)
              have d1 := H1.out.row8.cell (show 1 < 8 by omega)
              have d2 := H1.out.row8.cell (show 2 < 8 by omega)
              have d3 := H1.out.row8.cell (show 3 < 8 by omega)
              have d4 := H1.out.row8.cell (show 4 < 8 by omega)
              have d5 := H1.out.row8.cell (show 5 < 8 by omega)
              have d6 := H1.out.row8.cell (show 6 < 8 by omega)
              have d7 := H1.out.row8.cell (show 7 < 8 by omega)
              go_wp2_with fail
              refine (S2.out _ _ _ H1.out.far H1.out.st).mono ?_
              rintro _ W2 ⟨rfl, hs1, hk1⟩
              have H2 := Bx.mk (H1.out.made hk1 hs1)
              clear hs1 hk1 H1 S2 d0 d1 d2 d3 d4 d5 d6 d7
              go_upto_region 36 with fail
              go_cut [188] from 185 to 188 (fun v wx => v = .bool false ∧ wx = W2)
              case first =>
                cases fl with
                | false =>
                  go_wp2_with fail
                  go_meet
                  exact ⟨rfl, rfl⟩
                | true =>
                  cases sm with
                  | false =>
                    go_wp2_with fail
                    go_meet
                    exact ⟨rfl, rfl⟩
                  | true => exact absurd ⟨rfl, rfl⟩ HA.out
              case rest =>
              obtain ⟨rfl, hw⟩ := hcut
              replace hw := hw.symm
              subst hw
              have d0 := H2.out.row8.cell (show 0 < 8 by omega)
              have d1 := H2.out.row8.cell (show 1 < 8 by omega)
              have d2 := H2.out.row8.cell (show 2 < 8 by omega)
              have d3 := H2.out.row8.cell (show 3 < 8 by omega)
              have d4 := H2.out.row8.cell (show 4 < 8 by omega)
              have d5 := H2.out.row8.cell (show 5 < 8 by omega)
              have d6 := H2.out.row8.cell (show 6 < 8 by omega)
              have d7 := H2.out.row8.cell (show 7 < 8 by omega)
              go_wp2_with fail
              refine (S3.out _ _ _ H2.out.far H2.out.st).mono ?_
              rintro _ W3 ⟨rfl, hs1, hk1⟩
              have H3 := Bx.mk (H2.out.made hk1 hs1)
              clear hs1 hk1 H2 S3 d0 d1 d2 d3 d4 d5 d6 d7
              go_upto_region 40 with fail
              go_cut [208] from 203 to 208 (fun v wx => ∃ b : Bool, v = .bool b ∧ BoolIs b (fl = false ∧ dd ≠ 3) ∧ wx = W3)
              case first =>
                cases fl with
                | true =>
                  go_wp2_with fail
                  go_meet
                  exact ⟨false, rfl, ⟨fun h => (by cases h), fun h => (by cases h.1)⟩, rfl⟩
                | false =>
                  by_cases h3 : dd = 3
                  · have t5 : (dd != 3) = false := by rw [h3]; rfl
                    have H3x := Bx.mk h3
                    clear h3
                    go_wp2_with fail
                    go_meet
                    exact ⟨false, rfl, ⟨fun h => (by cases h), fun h => absurd H3x.out h.2⟩, rfl⟩
                  · have t5 : (dd != 3) = true := by simpa using h3
                    have H3x := Bx.mk h3
                    clear h3
                    go_wp2_with fail
                    go_meet
                    exact ⟨true, rfl, ⟨fun _ => ⟨(by first | rfl | trivial), H3x.out⟩, fun _ => rfl⟩, rfl⟩
              case rest =>
              obtain ⟨b40, rfl, HB40, hw⟩ := hcut
              replace hw := hw.symm
              subst hw
              go_upto_if 208 with fail
              go_cut [31] from 208 to 208 (fun v wx => ∃ b1 : Int, v = .int .i64 b1 ∧ Bx ((fl = false ∧ dd ≠ 3) ∧ b1 = 1 ∨ ¬ (fl = false ∧ dd ≠ 3) ∧ b1 = 0) ∧ wx = W3)
              case first =>
                cases b40 with
                | true =>
                  go_wp2_with fail
                  go_meet
                  exact ⟨1, rfl, ⟨.inl ⟨HB40.fwd rfl, rfl⟩⟩, rfl⟩
                | false =>
                  go_wp2_with fail
                  go_meet
                  exact ⟨0, rfl, ⟨.inr ⟨fun h => Bool.noConfusion (HB40.bwd h), rfl⟩⟩, rfl⟩
              case rest =>
              obtain ⟨b1, rfl, HB1, hw⟩ := hcut
              replace hw := hw.symm
              subst hw
              clear HB40
              go_upto_region 42 with fail
              go_cut [214] from 209 to 214 (fun v wx => ∃ b : Bool, v = .bool b ∧ BoolIs b (dd ≤ 2 ∨ 14 < dd) ∧ wx = W3)
              case first =>
                by_cases h3 : dd < 3
                · have t6 : decide (dd < 3) = true := by simpa using h3
                  have HH : BoolIs true (dd ≤ 2 ∨ 14 < dd) := ⟨fun _ => by omega, fun _ => rfl⟩
                  clear h3
                  go_wp2_with fail
                  go_meet
                  exact ⟨true, rfl, HH, rfl⟩
                · have t6 : decide (dd < 3) = false := by simpa using h3
                  by_cases h4 : 14 < dd
                  · have t7 : decide (14 < dd) = true := by simpa using h4
                    have HH : BoolIs true (dd ≤ 2 ∨ 14 < dd) := ⟨fun _ => by omega, fun _ => rfl⟩
                    clear h3 h4
                    go_wp2_with fail
                    go_meet
                    exact ⟨true, rfl, HH, rfl⟩
                  · have t7 : decide (14 < dd) = false := by simpa using h4
                    have HH : BoolIs false (dd ≤ 2 ∨ 14 < dd) := ⟨fun h => Bool.noConfusion h, fun _ => by omega⟩
                    clear h3 h4
                    go_wp2_with fail
                    go_meet
                    exact ⟨false, rfl, HH, rfl⟩
              case rest =>
              obtain ⟨b42, rfl, HB42, hw⟩ := hcut
              replace hw := hw.symm
              subst hw
              have HEs : ErIs b42 b1 er := by
                have h1 := HB1.out
                have hfl := HFl.out
                refine ⟨fun hb => ?_, fun hb => ?_⟩
                · have hd := HB42.fwd hb
                  rcases HCs.out with ⟨_, h⟩ | ⟨h, _⟩ | ⟨h, _⟩
                  · exact h
                  · omega
                  · omega
                · have hd : ¬ (dd ≤ 2 ∨ 14 < dd) := fun h => by rw [HB42.bwd h] at hb; cases hb
                  rcases HCs.out with ⟨h, _⟩ | ⟨_, ⟨h3, k, hk, hne⟩, h⟩ | ⟨_, h3, h, _⟩
                  · exact absurd h hd
                  · rcases h1 with ⟨_, h1⟩ | ⟨h1, _⟩
                    · rw [h1, h]
                    · refine absurd ⟨?_, h3⟩ h1
                      cases hf : fl with
                      | false => rfl
                      | true => exact absurd (hfl.1 hf k hk) hne
                  · rcases h1 with ⟨⟨h4, h5⟩, _⟩ | ⟨_, h1⟩
                    · rcases h3 with h3 | h3
                      · exact absurd h3 h5
                      · rw [hfl.2 h3] at h4; cases h4
                    · rw [h1, h]
              go_upto_if 214 with fail
              go_cut [31] from 214 to 214 (fun v wx => v = .int .i64 er ∧ wx = W3)
              case first =>
                cases b42 with
                | true =>
                  go_wp2_with fail
                  go_meet
                  exact ⟨by rw [HEs.yes rfl], rfl⟩
                | false =>
                  go_wp2_with fail
                  go_meet
                  exact ⟨by rw [HEs.no rfl], rfl⟩
              case rest =>
              obtain ⟨rfl, hw⟩ := hcut
              replace hw := hw.symm
              subst hw
              clear HEs HB42 HB1 HFl
              go_wp2_with fail
              refine (S4.out _ _ _ H3.out.far H3.out.st).mono ?_
              rintro _ W4 ⟨rfl, hs1, hk1⟩
              have H4 := Bx.mk (H3.out.made hk1 hs1)
              clear hs1 hk1 H3 S4
              go_wp2_with fail
              refine (S5.out _ _ _ H4.out.far H4.out.st).mono ?_
              rintro _ W5 ⟨rfl, hs1, hk1⟩
              have H5 := Bx.mk (H4.out.made hk1 hs1)
              clear hs1 hk1 H4 S5
              go_wp2_with fail
              refine (S6.out _ _ _ H5.out.far H5.out.st).mono ?_
              rintro _ W6 ⟨rfl, hs1, hk1⟩
              have H6 := Bx.mk (H5.out.made hk1 hs1)
              clear hs1 hk1 H5 S6
              go_wp2_with fail
              have d0 : ∀ dk osk, (grow (redrawn W6 dk) osk).cell? ⟨gk, 0, none⟩ = some (.int .i64 (x 0)) := cell_regrown (H6.out.row8.cell (show 0 < 8 by omega))
              have d1 : ∀ dk osk, (grow (redrawn W6 dk) osk).cell? ⟨gk, 1, none⟩ = some (.int .i64 (x 1)) := cell_regrown (H6.out.row8.cell (show 1 < 8 by omega))
              have d2 : ∀ dk osk, (grow (redrawn W6 dk) osk).cell? ⟨gk, 2, none⟩ = some (.int .i64 (x 2)) := cell_regrown (H6.out.row8.cell (show 2 < 8 by omega))
              have d3 : ∀ dk osk, (grow (redrawn W6 dk) osk).cell? ⟨gk, 3, none⟩ = some (.int .i64 (x 3)) := cell_regrown (H6.out.row8.cell (show 3 < 8 by omega))
              have d4 : ∀ dk osk, (grow (redrawn W6 dk) osk).cell? ⟨gk, 4, none⟩ = some (.int .i64 (x 4)) := cell_regrown (H6.out.row8.cell (show 4 < 8 by omega))
              have d5 : ∀ dk osk, (grow (redrawn W6 dk) osk).cell? ⟨gk, 5, none⟩ = some (.int .i64 (x 5)) := cell_regrown (H6.out.row8.cell (show 5 < 8 by omega))
              have d6 : ∀ dk osk, (grow (redrawn W6 dk) osk).cell? ⟨gk, 6, none⟩ = some (.int .i64 (x 6)) := cell_regrown (H6.out.row8.cell (show 6 < 8 by omega))
              have d7 : ∀ dk osk, (grow (redrawn W6 dk) osk).cell? ⟨gk, 7, none⟩ = some (.int .i64 (x 7)) := cell_regrown (H6.out.row8.cell (show 7 < 8 by omega))
              have q0 := Bx.mk fun dk osk => Calls.regrown_of (Rk.out (grow (redrawn W6 dk) osk) _ _ (H6.out.st.later (below_regrown W6 dk osk)))
              have q1 := Bx.mk fun dk osk => Calls.regrown_of (Rd.out (grow (redrawn W6 dk) osk) _ _ (H6.out.st.later (below_regrown W6 dk osk)))
              have q2 := Bx.mk fun dk osk => Calls.regrown_of (Rc.out (grow (redrawn W6 dk) osk) _ _ (H6.out.st.later (below_regrown W6 dk osk)))
              refine wp_region_quiet_below (by kernel_rfl) (by kernel_rfl) ?_
              repeat (first | go_big_quiet_step ((first | with_reducible exact q0.out _ _ | with_reducible exact q1.out _ _ | with_reducible exact q2.out _ _)) | quiet_step (first | with_reducible exact q0.out _ _ | with_reducible exact q1.out _ _ | with_reducible exact q2.out _ _))
              refine wpQuiet_nil ?_
              rintro _ ⟨⟨dq, osq⟩, rfl⟩
              have H7 := Bx.mk (H6.out.later (below_regrown W6 dq osq))
              clear H6 d0 d1 d2 d3 d4 d5 d6 d7 q0 q1 q2
              generalize grow (redrawn W6 dq) osq = W7 at *
              go_upto_region 48 with fail
              go_cut [293] from 273 to 293 (fun v wx => v = .bool false ∧ Bx (TlI w Far3 sb ts3 gk x wx))
              case first =>
                rcases HCs.out with ⟨_, rfl⟩ | ⟨_, _, rfl⟩ | ⟨_, _, rfl, rdk, rck⟩
                · clear HCs
                  refine wp_region_quiet_below (by kernel_rfl) (by kernel_rfl) ?_
                  repeat (first | go_big_quiet_step ((fail)) | quiet_step (fail))
                  refine wpQuiet_nil ?_
                  rintro _ ⟨⟨dq, osq⟩, rfl⟩
                  have H8 := Bx.mk (H7.out.later (below_regrown W7 dq osq))
                  clear H7
                  generalize grow (redrawn W7 dq) osq = W8 at *
                  go_wp2_with fail
                  go_meet
                  exact ⟨rfl, H8⟩
                · clear HCs
                  refine wp_region_quiet_below (by kernel_rfl) (by kernel_rfl) ?_
                  repeat (first | go_big_quiet_step ((fail)) | quiet_step (fail))
                  refine wpQuiet_nil ?_
                  rintro _ ⟨⟨dq, osq⟩, rfl⟩
                  have H8 := Bx.mk (H7.out.later (below_regrown W7 dq osq))
                  clear H7
                  generalize grow (redrawn W7 dq) osq = W8 at *
                  go_wp2_with fail
                  go_meet
                  exact ⟨rfl, H8⟩
                · clear HCs
                  have RK := Bx.mk rdk
                  have RC := Bx.mk rck
                  clear rdk rck
                  have d0 : ∀ dk osk, (grow (redrawn W7 dk) osk).cell? ⟨gk, 0, none⟩ = some (.int .i64 (x 0)) := cell_regrown (H7.out.row8.cell (show 0 < 8 by omega))
                  have d1 : ∀ dk osk, (grow (redrawn W7 dk) osk).cell? ⟨gk, 1, none⟩ = some (.int .i64 (x 1)) := cell_regrown (H7.out.row8.cell (show 1 < 8 by omega))
                  have d2 : ∀ dk osk, (grow (redrawn W7 dk) osk).cell? ⟨gk, 2, none⟩ = some (.int .i64 (x 2)) := cell_regrown (H7.out.row8.cell (show 2 < 8 by omega))
                  have d3 : ∀ dk osk, (grow (redrawn W7 dk) osk).cell? ⟨gk, 3, none⟩ = some (.int .i64 (x 3)) := cell_regrown (H7.out.row8.cell (show 3 < 8 by omega))
                  have d4 : ∀ dk osk, (grow (redrawn W7 dk) osk).cell? ⟨gk, 4, none⟩ = some (.int .i64 (x 4)) := cell_regrown (H7.out.row8.cell (show 4 < 8 by omega))
                  have d5 : ∀ dk osk, (grow (redrawn W7 dk) osk).cell? ⟨gk, 5, none⟩ = some (.int .i64 (x 5)) := cell_regrown (H7.out.row8.cell (show 5 < 8 by omega))
                  have d6 : ∀ dk osk, (grow (redrawn W7 dk) osk).cell? ⟨gk, 6, none⟩ = some (.int .i64 (x 6)) := cell_regrown (H7.out.row8.cell (show 6 < 8 by omega))
                  have d7 : ∀ dk osk, (grow (redrawn W7 dk) osk).cell? ⟨gk, 7, none⟩ = some (.int .i64 (x 7)) := cell_regrown (H7.out.row8.cell (show 7 < 8 by omega))
                  have q0 := Bx.mk fun dk osk => Calls.regrown_of (RK.out (grow (redrawn W7 dk) osk) _ _ (H7.out.st.later (below_regrown W7 dk osk)))
                  have q1 := Bx.mk fun dk osk => Calls.regrown_of (RC.out (grow (redrawn W7 dk) osk) _ _ (H7.out.st.later (below_regrown W7 dk osk)))
                  refine wp_region_quiet_below (by kernel_rfl) (by kernel_rfl) ?_
                  repeat (first | go_big_quiet_step ((first | with_reducible exact q0.out _ _ | with_reducible exact q1.out _ _)) | quiet_step (first | with_reducible exact q0.out _ _ | with_reducible exact q1.out _ _))
                  refine wpQuiet_nil ?_
                  rintro _ ⟨⟨dq, osq⟩, rfl⟩
                  have H8 := Bx.mk (H7.out.later (below_regrown W7 dq osq))
                  clear H7 d0 d1 d2 d3 d4 d5 d6 d7 q0 q1
                  generalize grow (redrawn W7 dq) osq = W8 at *
                  go_wp2_with fail
                  go_meet
                  exact ⟨rfl, H8⟩
              case rest =>
              clear H7 HCs
              obtain ⟨rfl, H8⟩ := hcut
              go_wp2_with fail
              refine (Ru.out _ _ _ H8.out.st).mono ?_
              rintro _ W9 ⟨rfl, hb⟩
              have HB := Bx.mk (H8.out.later hb).bel
              clear hb H8
              go_wp2_with fail
              go_ret
              exact ⟨rfl, HB.out⟩
theorem nodes_true (ca cb : Option Addr) (capa capb : Nat) (xs ys : List Int) (c dd : Int) (p : Nat → Int) (w : World) (hcap : xs.length ≤ capa) (hcap2 : ys.length ≤ capb) (hp : ∀ k, 0 ≤ p k ∧ p k ≤ 255) (hsx : Sl w .i64 ca xs) (hsy : Sl w .i64 cb ys) : Calls Try.prog 5 #[.slice ca xs.length capa, .slice cb ys.length capb, .int .i64 c, .agg #[.int .u8 (p 0), .int .u8 (p 1), .int .u8 (p 2), .int .u8 (p 3), .int .u8 (p 4), .int .u8 (p 5), .int .u8 (p 6), .int .u8 (p 7)], .int .i64 dd] w fun e' w' => e' = .returned (.bool true) ∧ Below w.heap.size w w' := by
  by_cases h1 : 80 < xs.length
  · exact nodes_many ca cb capa capb xs ys c dd p w (.inl h1)
  · by_cases h2 : 80 < ys.length
    · exact nodes_many ca cb capa capb xs ys c dd p w (.inr h2)
    · exact nodes_few ca cb capa capb xs ys c dd p w (by omega) (by omega) hcap hcap2 hp hsx hsy
end Go.Proofs.Ytabclecmehdeoaa
end
