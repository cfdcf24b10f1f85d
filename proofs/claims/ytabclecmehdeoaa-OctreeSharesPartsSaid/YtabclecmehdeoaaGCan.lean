import Derived.Test.YtabclecmehdeoaaGGen
section
/- A function turned into another, point by point. No program. -/
namespace Go.Proofs.Ytabclecmehdeoaa
open Oct

/-- the function after i steps -/
def fs (F H : Pt → Int) (pt : Nat → Pt) : Nat → Pt → Int
  | 0 => F
  | i + 1 => Tr.upd (fs F H pt i) (pt i) (H (pt i))
/-- equal so far -/
def qs (F H : Pt → Int) (pt : Nat → Pt) : Nat → Bool
  | 0 => true
  | i + 1 => qs F H pt i && (F (pt i) == H (pt i))
/-- the nodes after i steps -/
noncomputable def tss (m : Nat) (F H : Pt → Int) (pt : Nat → Pt) (ts : List Tr) : Nat → List Tr
  | 0 => ts
  | i + 1 => Tr.add (trF m (fs F H pt (i + 1))) (tss m F H pt ts i)
theorem fs_at (F H : Pt → Int) (pt : Nat → Pt) (p : Pt) : ∀ i, fs F H pt i p = H p ∨ (fs F H pt i p = F p ∧ ∀ j, j < i → pt j ≠ p)
  | 0 => .inr ⟨rfl, fun j hj => by omega⟩
  | i + 1 => by
    unfold fs
    by_cases h : p = pt i
    · left; rw [← h, upd_at]
    · rw [upd_off h]
      rcases fs_at F H pt p i with h1 | ⟨h1, h2⟩
      · exact .inl h1
      · refine .inr ⟨h1, fun j hj e => ?_⟩
        by_cases hji : j = i
        · exact h (by rw [← e, hji])
        · exact h2 j (by omega) e
theorem fs_end {F H : Pt → Int} {pt : Nat → Pt} {n : Nat} (h : ∀ p, F p ≠ H p → ∃ j, j < n ∧ pt j = p) : fs F H pt n = H := by
  funext p
  rcases fs_at F H pt p n with h1 | ⟨h1, h2⟩
  · exact h1
  · rw [h1]
    apply Classical.byContradiction
    intro hne
    obtain ⟨j, hj, e⟩ := h p hne
    exact h2 j hj e
theorem qs_iff (F H : Pt → Int) (pt : Nat → Pt) : ∀ i, qs F H pt i = true ↔ ∀ j, j < i → F (pt j) = H (pt j)
  | 0 => ⟨fun _ j hj => by omega, fun _ => rfl⟩
  | i + 1 => by
    unfold qs
    rw [Bool.and_eq_true, qs_iff F H pt i, beq_iff_eq]
    refine ⟨fun ⟨h1, h2⟩ j hj => ?_, fun h => ⟨fun j hj => h j (by omega), h i (by omega)⟩⟩
    by_cases hji : j = i
    · rw [hji]; exact h2
    · exact h1 j (by omega)
theorem qs_end {F H : Pt → Int} {pt : Nat → Pt} {n : Nat} (h : ∀ p, F p ≠ H p → ∃ j, j < n ∧ pt j = p) : qs F H pt n = true ↔ F = H := by
  rw [qs_iff]
  refine ⟨fun h1 => funext fun p => ?_, fun e j _ => by rw [e]⟩
  apply Classical.byContradiction
  intro hne
  obtain ⟨j, hj, e⟩ := h p hne
  exact hne (by rw [← e]; exact h1 j hj)
theorem fs_fn {m : Nat} {F H : Pt → Int} (hF : FnC m F) (hH : FnC m H) {pt : Nat → Pt} {n : Nat} (hp : ∀ j, j < n → inB (pt j) (cubeB (2 ^ (m + 2))) = true) : ∀ i, i ≤ n → FnC m (fs F H pt i)
  | 0, _ => hF
  | i + 1, hi => (fs_fn hF hH hp i (by omega)).upd (hp i (by omega)) (hH.range _)
structure TssOk (m : Nat) (f : Pt → Int) (ts us : List Tr) (i : Nat) : Prop where
  good : Good us
  mem : trF m f ∈ us
  pre : ts <+: us
  len : us.length ≤ ts.length + 13 * i
theorem tss_ok {m : Nat} (hm : m ≤ 12) {F H : Pt → Int} (hF : FnC m F) (hH : FnC m H) {pt : Nat → Pt} {n : Nat} (hp : ∀ j, j < n → inB (pt j) (cubeB (2 ^ (m + 2))) = true) {ts : List Tr} (hG : Good ts) (ht : trF m F ∈ ts) :
    ∀ i, i ≤ n → TssOk m (fs F H pt i) ts (tss m F H pt ts i) i
  | 0, _ => ⟨hG, ht, List.prefix_refl _, by simp [tss]⟩
  | i + 1, hi => by
    have h := tss_ok hm hF hH hp hG ht i (by omega)
    have h1 := fs_fn hF hH hp i (by omega)
    have h2 := fs_fn hF hH hp (i + 1) hi
    unfold tss
    refine ⟨good_fn hm h2 h.good, Tr.mem_add _ _, h.pre.trans (Tr.add_prefix _ _), ?_⟩
    have := len_fn hm (hp i (by omega)) (hH.range (pt i)) h.good h.mem
    have h3 := h.len
    show (Tr.add (trF m (Tr.upd (fs F H pt i) (pt i) (H (pt i)))) (tss m F H pt ts i)).length ≤ _
    omega
/-- the point of a turn: first those of one box, then those of the other, from a place on -/
def turnPt (A B : Box) (na n turn i : Nat) : Pt := if (i + turn) % n < na then atB A (((i + turn) % n : Nat) : Int) else atB B ((((i + turn) % n : Nat) : Int) - na)
theorem turn_all {n turn k : Nat} (hk : k < n) : ∃ i, i < n ∧ (i + turn) % n = k := by
  have hd := Nat.div_add_mod turn n
  have hm := Nat.mod_lt turn (show 0 < n by omega)
  by_cases h : turn % n ≤ k
  · refine ⟨k - turn % n, by omega, ?_⟩
    rw [show k - turn % n + turn = k + n * (turn / n) by omega, Nat.add_mul_mod_self_left, Nat.mod_eq_of_lt hk]
  · refine ⟨k + n - turn % n, by omega, ?_⟩
    rw [show k + n - turn % n + turn = (k + n) + n * (turn / n) by omega, Nat.add_mul_mod_self_left, Nat.add_mod_right, Nat.mod_eq_of_lt hk]
theorem turn_in {A B : Box} {na nb n turn i : Nat} (ha : (na : Int) = volB A ∨ na = 0 ∧ volB A ≤ 0) (hb : (nb : Int) = volB B ∨ nb = 0 ∧ volB B ≤ 0) (hn : n = na + nb) (hi : i < n) : inB (turnPt A B na n turn i) A = true ∨ inB (turnPt A B na n turn i) B = true := by
  have hk := Nat.mod_lt (i + turn) (show 0 < n by omega)
  unfold turnPt
  split
  · exact .inl (atB_in (by omega) (by omega)).1
  · exact .inr (atB_in (by omega) (by omega)).1
theorem turn_cov {A B : Box} {na nb n turn : Nat} (ha : (na : Int) = volB A ∨ na = 0 ∧ volB A ≤ 0) (hb : (nb : Int) = volB B ∨ nb = 0 ∧ volB B ≤ 0) (hn : n = na + nb) {p : Pt} (h : inB p A = true ∨ inB p B = true) : ∃ i, i < n ∧ turnPt A B na n turn i = p := by
  rcases h with h | h
  · have hx := indexB_bd h
    obtain ⟨i, hi, e⟩ := turn_all (n := n) (turn := turn) (k := (indexB A p).toNat) (by omega)
    refine ⟨i, hi, ?_⟩
    unfold turnPt
    rw [e, if_pos (by omega), Int.toNat_of_nonneg hx.1, at_index h]
  · have hx := indexB_bd h
    obtain ⟨i, hi, e⟩ := turn_all (n := n) (turn := turn) (k := na + (indexB B p).toNat) (by omega)
    refine ⟨i, hi, ?_⟩
    unfold turnPt
    rw [e, if_neg (by omega), show ((na + (indexB B p).toNat : Nat) : Int) - na = indexB B p by omega, at_index h]
theorem cell_out {b : Box} {xs : List Int} {p : Pt} (h : inB p b = false) : cellG b xs p = 0 := by unfold cellG; rw [if_neg (by simp [h])]
theorem grid_vol {b : Box} {xs : List Int} {hcp : Nat} (HX : GoodG b xs hcp) : (xs.length : Int) = volB b ∨ xs.length = 0 ∧ volB b ≤ 0 := by
  have := HX.len
  omega
theorem box_in {b : Box} {n : Nat} (hC : emptyB b = true ∨ containsB ⟨⟨0, 0, 0⟩, ⟨2 ^ (n + 2), 2 ^ (n + 2), 2 ^ (n + 2)⟩⟩ b = true) {p : Pt} (hb : inB p b = true) : inB p (cubeB (2 ^ (n + 2))) = true := by
  have h1 := inB_iff.1 hb
  rcases hC with hC | hC
  · have := emptyB_iff'.1 hC
    omega
  · unfold containsB at hC
    rw [Bool.or_eq_true] at hC
    rcases hC with hC | hC
    · have := emptyB_iff'.1 hC
      omega
    · have h2 : inB p (meetB ⟨⟨0, 0, 0⟩, ⟨2 ^ (n + 2), 2 ^ (n + 2), 2 ^ (n + 2)⟩⟩ b) = true := by rw [of_decide_eq_true hC]; exact hb
      refine inB_iff.2 ?_
      unfold meetB at h2
      split at h2
      · have := inB_iff.1 h2
        simp only [Box.zero, Pt.zero] at this
        omega
      · have := inB_iff.1 h2
        simp only [joinB] at this
        simp only [cubeB, Pt.zero]
        omega
end Go.Proofs.Ytabclecmehdeoaa
end
section
/- The walk of OctreeIsCanonical. -/
namespace Go.Proofs.Ytabclecmehdeoaa
open Go.RowKit Go.Sort Go.Maps
open Oct

set_option maxRecDepth 100000 in
set_option maxHeartbeats 8000000 in
theorem canon_many (a b c d e f a2 b2 c2 d2 e2 f2 dd : Int) (turn : Nat) (ha hb : Option Addr) (hcp hcq : Nat) (xs ys : List Int) (w : World) (hl : ¬ xs.length ≤ 300) :
    Calls Try.prog 3 #[.agg #[.int .i64 a, .int .i64 b, .int .i64 c, .int .i64 d, .int .i64 e, .int .i64 f, .slice ha xs.length hcp], .agg #[.int .i64 a2, .int .i64 b2, .int .i64 c2, .int .i64 d2, .int .i64 e2, .int .i64 f2, .slice hb ys.length hcq], .int .i64 dd, .int .u16 (turn : Int)] w fun e' w' => e' = .returned (.bool true) ∧ Below w.heap.size w w' := by
  go_enter Try.func3, Try.ntmps3
  go_wp2_with fail
  generalize hW : World.alloc (World.alloc w _) _ = W
  have hSz : w.heap.size + 1 + 1 ≤ W.heap.size := by rw [← hW]; simp
  have hB : Below w.heap.size w W := by rw [← hW]; exact ((Below.refl _ _).alloc (Nat.le_refl _) _).alloc (by simp) _
  have kg : Bk W (w.heap.size) #[.int .i64 a, .int .i64 b, .int .i64 c, .int .i64 d, .int .i64 e, .int .i64 f, .slice ha xs.length hcp] 28 := by rw [← hW]; exact blk_old (blk_new _ _ _ (by simp))
  have kh : Bk W (w.heap.size + 1) #[.int .i64 a2, .int .i64 b2, .int .i64 c2, .int .i64 d2, .int .i64 e2, .int .i64 f2, .slice hb ys.length hcq] 28 := by rw [← hW]; exact blk_new _ _ _ (by simp)
  clear hW
  refine (sanity_true _).mono ?_
  rintro _ w1 ⟨rfl, hb0⟩
  replace hB := hB.trans (hb0.mono hB.size)
  replace kg := kg.later hb0
  replace kh := kh.later hb0
  replace hSz := Nat.le_trans hSz hb0.size
  clear hb0
  have cg0 := kg.cell 0 rfl
  have cg1 := kg.cell 1 rfl
  have cg2 := kg.cell 2 rfl
  have cg3 := kg.cell 3 rfl
  have cg4 := kg.cell 4 rfl
  have cg5 := kg.cell 5 rfl
  have cg6 := kg.cell 6 rfl
  go_wp2_with fail
  refine (few_no a b c d e f ha xs.length hcp hl _).mono ?_
  rintro _ w2 ⟨rfl, hb0⟩
  replace hB := hB.trans (hb0.mono hB.size)
  replace kg := kg.later hb0
  replace kh := kh.later hb0
  replace hSz := Nat.le_trans hSz hb0.size
  clear hb0
  clear cg0 cg1 cg2 cg3 cg4 cg5 cg6
  go_wp2_with fail
  go_ret
  exact ⟨rfl, hB⟩
set_option maxRecDepth 100000 in
set_option maxHeartbeats 8000000 in
theorem canon_many2 (a b c d e f a2 b2 c2 d2 e2 f2 dd : Int) (turn : Nat) (ha hb : Option Addr) (hcp hcq : Nat) (xs ys : List Int) (w : World) (hl : xs.length ≤ 300) (hl2 : ¬ ys.length ≤ 300) :
    Calls Try.prog 3 #[.agg #[.int .i64 a, .int .i64 b, .int .i64 c, .int .i64 d, .int .i64 e, .int .i64 f, .slice ha xs.length hcp], .agg #[.int .i64 a2, .int .i64 b2, .int .i64 c2, .int .i64 d2, .int .i64 e2, .int .i64 f2, .slice hb ys.length hcq], .int .i64 dd, .int .u16 (turn : Int)] w fun e' w' => e' = .returned (.bool true) ∧ Below w.heap.size w w' := by
  go_enter Try.func3, Try.ntmps3
  go_wp2_with fail
  generalize hW : World.alloc (World.alloc w _) _ = W
  have hSz : w.heap.size + 1 + 1 ≤ W.heap.size := by rw [← hW]; simp
  have hB : Below w.heap.size w W := by rw [← hW]; exact ((Below.refl _ _).alloc (Nat.le_refl _) _).alloc (by simp) _
  have kg : Bk W (w.heap.size) #[.int .i64 a, .int .i64 b, .int .i64 c, .int .i64 d, .int .i64 e, .int .i64 f, .slice ha xs.length hcp] 28 := by rw [← hW]; exact blk_old (blk_new _ _ _ (by simp))
  have kh : Bk W (w.heap.size + 1) #[.int .i64 a2, .int .i64 b2, .int .i64 c2, .int .i64 d2, .int .i64 e2, .int .i64 f2, .slice hb ys.length hcq] 28 := by rw [← hW]; exact blk_new _ _ _ (by simp)
  clear hW
  refine (sanity_true _).mono ?_
  rintro _ w1 ⟨rfl, hb0⟩
  replace hB := hB.trans (hb0.mono hB.size)
  replace kg := kg.later hb0
  replace kh := kh.later hb0
  replace hSz := Nat.le_trans hSz hb0.size
  clear hb0
  have cg0 := kg.cell 0 rfl
  have cg1 := kg.cell 1 rfl
  have cg2 := kg.cell 2 rfl
  have cg3 := kg.cell 3 rfl
  have cg4 := kg.cell 4 rfl
  have cg5 := kg.cell 5 rfl
  have cg6 := kg.cell 6 rfl
  go_wp2_with fail
  refine (few_yes a b c d e f ha xs.length hcp hl _).mono ?_
  rintro _ w2 ⟨rfl, hb0⟩
  replace hB := hB.trans (hb0.mono hB.size)
  replace kg := kg.later hb0
  replace kh := kh.later hb0
  replace hSz := Nat.le_trans hSz hb0.size
  clear hb0
  clear cg0 cg1 cg2 cg3 cg4 cg5 cg6
  have ch0 := kh.cell 0 rfl
  have ch1 := kh.cell 1 rfl
  have ch2 := kh.cell 2 rfl
  have ch3 := kh.cell 3 rfl
  have ch4 := kh.cell 4 rfl
  have ch5 := kh.cell 5 rfl
  have ch6 := kh.cell 6 rfl
  go_wp2_with fail
  refine (few_no a2 b2 c2 d2 e2 f2 hb ys.length hcq hl2 _).mono ?_
  rintro _ w3 ⟨rfl, hb0⟩
  replace hB := hB.trans (hb0.mono hB.size)
  replace kg := kg.later hb0
  replace kh := kh.later hb0
  replace hSz := Nat.le_trans hSz hb0.size
  clear hb0
  clear ch0 ch1 ch2 ch3 ch4 ch5 ch6
  go_wp2_with fail
  go_ret
  exact ⟨rfl, hB⟩
set_option maxRecDepth 100000 in
set_option maxHeartbeats 8000000 in
theorem canon_none (a b c d e f a2 b2 c2 d2 e2 f2 dd : Int) (turn : Nat) (ha hb : Option Addr) (hcp hcq : Nat) (xs ys : List Int) (w : World) (hl : xs.length ≤ 300) (hl2 : ys.length ≤ 300) (hsl : Sl w .i64 ha xs) (hE : fromE ⟨⟨a, b, c⟩, ⟨d, e, f⟩⟩ xs dd ≠ 0) :
    Calls Try.prog 3 #[.agg #[.int .i64 a, .int .i64 b, .int .i64 c, .int .i64 d, .int .i64 e, .int .i64 f, .slice ha xs.length hcp], .agg #[.int .i64 a2, .int .i64 b2, .int .i64 c2, .int .i64 d2, .int .i64 e2, .int .i64 f2, .slice hb ys.length hcq], .int .i64 dd, .int .u16 (turn : Int)] w fun e' w' => e' = .returned (.bool true) ∧ Below w.heap.size w w' := by
  have hbu := Bx.mk (fun W h => built_no a b c d e f dd ha hcp xs hl hE W h)
  have hsl := Bx.mk hsl
  clear hE
  go_enter Try.func3, Try.ntmps3
  go_wp2_with fail
  generalize hW : World.alloc (World.alloc w _) _ = W
  have hSz : w.heap.size + 1 + 1 ≤ W.heap.size := by rw [← hW]; simp
  have hB : Below w.heap.size w W := by rw [← hW]; exact ((Below.refl _ _).alloc (Nat.le_refl _) _).alloc (by simp) _
  have kg : Bk W (w.heap.size) #[.int .i64 a, .int .i64 b, .int .i64 c, .int .i64 d, .int .i64 e, .int .i64 f, .slice ha xs.length hcp] 28 := by rw [← hW]; exact blk_old (blk_new _ _ _ (by simp))
  have kh : Bk W (w.heap.size + 1) #[.int .i64 a2, .int .i64 b2, .int .i64 c2, .int .i64 d2, .int .i64 e2, .int .i64 f2, .slice hb ys.length hcq] 28 := by rw [← hW]; exact blk_new _ _ _ (by simp)
  clear hW
  refine (sanity_true _).mono ?_
  rintro _ w1 ⟨rfl, hb0⟩
  replace hB := hB.trans (hb0.mono hB.size)
  replace kg := kg.later hb0
  replace kh := kh.later hb0
  replace hSz := Nat.le_trans hSz hb0.size
  clear hb0
  have cg0 := kg.cell 0 rfl
  have cg1 := kg.cell 1 rfl
  have cg2 := kg.cell 2 rfl
  have cg3 := kg.cell 3 rfl
  have cg4 := kg.cell 4 rfl
  have cg5 := kg.cell 5 rfl
  have cg6 := kg.cell 6 rfl
  go_wp2_with fail
  refine (few_yes a b c d e f ha xs.length hcp hl _).mono ?_
  rintro _ w2 ⟨rfl, hb0⟩
  replace hB := hB.trans (hb0.mono hB.size)
  replace kg := kg.later hb0
  replace kh := kh.later hb0
  replace hSz := Nat.le_trans hSz hb0.size
  clear hb0
  clear cg0 cg1 cg2 cg3 cg4 cg5 cg6
  have ch0 := kh.cell 0 rfl
  have ch1 := kh.cell 1 rfl
  have ch2 := kh.cell 2 rfl
  have ch3 := kh.cell 3 rfl
  have ch4 := kh.cell 4 rfl
  have ch5 := kh.cell 5 rfl
  have ch6 := kh.cell 6 rfl
  go_wp2_with fail
  refine (few_yes a2 b2 c2 d2 e2 f2 hb ys.length hcq hl2 _).mono ?_
  rintro _ w3 ⟨rfl, hb0⟩
  replace hB := hB.trans (hb0.mono hB.size)
  replace kg := kg.later hb0
  replace kh := kh.later hb0
  replace hSz := Nat.le_trans hSz hb0.size
  clear hb0
  clear ch0 ch1 ch2 ch3 ch4 ch5 ch6
  have cg0 := kg.cell 0 rfl
  have cg1 := kg.cell 1 rfl
  have cg2 := kg.cell 2 rfl
  have cg3 := kg.cell 3 rfl
  have cg4 := kg.cell 4 rfl
  have cg5 := kg.cell 5 rfl
  have cg6 := kg.cell 6 rfl
  go_wp2_with fail
  refine (hbu.out _ (hsl.out.below hB)).mono ?_
  rintro _ w4 ⟨p, rfl, hb0⟩
  replace hB := hB.trans (hb0.mono hB.size)
  replace kg := kg.later hb0
  replace kh := kh.later hb0
  replace hSz := Nat.le_trans hSz hb0.size
  clear hb0
  clear cg0 cg1 cg2 cg3 cg4 cg5 cg6
  go_wp2_with fail
  go_ret
  exact ⟨rfl, hB⟩
set_option maxRecDepth 100000 in
set_option maxHeartbeats 8000000 in
theorem canon_err (a b c d e f a2 b2 c2 d2 e2 f2 dd : Int) (turn : Nat) (ha hb : Option Addr) (hcp hcq : Nat) (xs ys : List Int) (w : World) (hl : xs.length ≤ 300) (hl2 : ys.length ≤ 300) (hsl : Sl w .i64 ha xs) (hsm : Sl w .i64 hb ys) (i0 er : Int) (ts0 : List Tr)
    (hT : Bx (∀ W, Sl W .i64 ha xs → Calls Try.prog 9 #[.agg #[.int .i64 a, .int .i64 b, .int .i64 c, .int .i64 d, .int .i64 e, .int .i64 f, .slice ha xs.length hcp], .int .i64 dd] W fun e' w' => ∃ sb, e' = .returned (.tuple #[.pointer (some ⟨sb, 0, none⟩), .int .i64 i0, .bool true]) ∧ StoreIs w' (fun k => k < W.heap.size) sb 100000 ts0 ∧ Below W.heap.size W w'))
    (hz : (er == 0) = false) (hFr : Bx (∀ W sb, Sl W .i64 hb ys → Calls Try.prog 10 #[.pointer (some ⟨sb, 0, none⟩), .agg #[.int .i64 a2, .int .i64 b2, .int .i64 c2, .int .i64 d2, .int .i64 e2, .int .i64 f2, .slice hb ys.length hcq], .int .i64 dd] W fun e' w' => e' = ret2 0 er ∧ Below W.heap.size W w')) :
    Calls Try.prog 3 #[.agg #[.int .i64 a, .int .i64 b, .int .i64 c, .int .i64 d, .int .i64 e, .int .i64 f, .slice ha xs.length hcp], .agg #[.int .i64 a2, .int .i64 b2, .int .i64 c2, .int .i64 d2, .int .i64 e2, .int .i64 f2, .slice hb ys.length hcq], .int .i64 dd, .int .u16 (turn : Int)] w fun e' w' => e' = .returned (.bool true) ∧ Below w.heap.size w w' := by
  have hsl := Bx.mk hsl
  have hsm := Bx.mk hsm
  go_enter Try.func3, Try.ntmps3
  go_wp2_with fail
  generalize hW : World.alloc (World.alloc w _) _ = W
  have hSz : w.heap.size + 1 + 1 ≤ W.heap.size := by rw [← hW]; simp
  have hB : Below w.heap.size w W := by rw [← hW]; exact ((Below.refl _ _).alloc (Nat.le_refl _) _).alloc (by simp) _
  have kg : Bk W (w.heap.size) #[.int .i64 a, .int .i64 b, .int .i64 c, .int .i64 d, .int .i64 e, .int .i64 f, .slice ha xs.length hcp] 28 := by rw [← hW]; exact blk_old (blk_new _ _ _ (by simp))
  have kh : Bk W (w.heap.size + 1) #[.int .i64 a2, .int .i64 b2, .int .i64 c2, .int .i64 d2, .int .i64 e2, .int .i64 f2, .slice hb ys.length hcq] 28 := by rw [← hW]; exact blk_new _ _ _ (by simp)
  clear hW
  refine (sanity_true _).mono ?_
  rintro _ w1 ⟨rfl, hb0⟩
  replace hB := hB.trans (hb0.mono hB.size)
  replace kg := kg.later hb0
  replace kh := kh.later hb0
  replace hSz := Nat.le_trans hSz hb0.size
  clear hb0
  have cg0 := kg.cell 0 rfl
  have cg1 := kg.cell 1 rfl
  have cg2 := kg.cell 2 rfl
  have cg3 := kg.cell 3 rfl
  have cg4 := kg.cell 4 rfl
  have cg5 := kg.cell 5 rfl
  have cg6 := kg.cell 6 rfl
  go_wp2_with fail
  refine (few_yes a b c d e f ha xs.length hcp hl _).mono ?_
  rintro _ w2 ⟨rfl, hb0⟩
  replace hB := hB.trans (hb0.mono hB.size)
  replace kg := kg.later hb0
  replace kh := kh.later hb0
  replace hSz := Nat.le_trans hSz hb0.size
  clear hb0
  clear cg0 cg1 cg2 cg3 cg4 cg5 cg6
  have ch0 := kh.cell 0 rfl
  have ch1 := kh.cell 1 rfl
  have ch2 := kh.cell 2 rfl
  have ch3 := kh.cell 3 rfl
  have ch4 := kh.cell 4 rfl
  have ch5 := kh.cell 5 rfl
  have ch6 := kh.cell 6 rfl
  go_wp2_with fail
  refine (few_yes a2 b2 c2 d2 e2 f2 hb ys.length hcq hl2 _).mono ?_
  rintro _ w3 ⟨rfl, hb0⟩
  replace hB := hB.trans (hb0.mono hB.size)
  replace kg := kg.later hb0
  replace kh := kh.later hb0
  replace hSz := Nat.le_trans hSz hb0.size
  clear hb0
  clear ch0 ch1 ch2 ch3 ch4 ch5 ch6
  have cg0 := kg.cell 0 rfl
  have cg1 := kg.cell 1 rfl
  have cg2 := kg.cell 2 rfl
  have cg3 := kg.cell 3 rfl
  have cg4 := kg.cell 4 rfl
  have cg5 := kg.cell 5 rfl
  have cg6 := kg.cell 6 rfl
  go_wp2_with fail
  have hsl2 := hsl.out.below hB
  have hsm2 := hsm.out.below hB
  refine (hT.out _ hsl2).mono ?_
  rintro _ w4 ⟨sb, rfl, hS, hb0⟩
  have hinl : Bx (xs ≠ [] → ∀ b, ha.map (·.block) = some b → b < w3.heap.size) := ⟨fun hx b hb => by
    obtain ⟨x, r, rfl⟩ := List.exists_cons_of_ne_nil hx
    obtain ⟨b', off, h1, h2⟩ := hsl2 0 x rfl
    rw [h1] at hb
    simp only [Option.map_some, Option.some.injEq] at hb
    rw [← hb]; exact World.block_lt_of_cell? w3 _ h2⟩
  have hinm : Bx (ys ≠ [] → ∀ b, hb.map (·.block) = some b → b < w3.heap.size) := ⟨fun hx b hb => by
    obtain ⟨x, r, rfl⟩ := List.exists_cons_of_ne_nil hx
    obtain ⟨b', off, h1, h2⟩ := hsm2 0 x rfl
    rw [h1] at hb
    simp only [Option.map_some, Option.some.injEq] at hb
    rw [← hb]; exact World.block_lt_of_cell? w3 _ h2⟩
  have hing : Bx (w.heap.size < w3.heap.size) := ⟨kg.lt⟩
  have hinh : Bx (w.heap.size + 1 < w3.heap.size) := ⟨kh.lt⟩
  have hlo : Bx (∀ j, j < w.heap.size → j < w3.heap.size) := ⟨fun j hj => Nat.lt_of_lt_of_le hj hB.size⟩
  obtain ⟨Far, hFa⟩ : ∃ Far : Nat → Prop, Far = fun k => k < w3.heap.size := ⟨_, rfl⟩
  have hlt : ∀ j, Far j → j < w3.heap.size := fun j hj => by rw [hFa] at hj; exact hj
  rw [← hFa] at hS
  replace hinl : Bx (xs ≠ [] → ∀ b, ha.map (·.block) = some b → Far b) := by rw [hFa]; exact hinl
  replace hinm : Bx (ys ≠ [] → ∀ b, hb.map (·.block) = some b → Far b) := by rw [hFa]; exact hinm
  replace hing : Bx (Far w.heap.size) := by rw [hFa]; exact hing
  replace hinh : Bx (Far (w.heap.size + 1)) := by rw [hFa]; exact hinh
  replace hlo : Bx (∀ j, j < w.heap.size → Far j) := by rw [hFa]; exact hlo
  have hZ := hb0.size
  replace hsl : Bx (Sl w4 .i64 ha xs) := ⟨hsl2.below hb0⟩
  replace hsm : Bx (Sl w4 .i64 hb ys) := ⟨hsm2.below hb0⟩
  replace hS := Bx.mk hS
  have hlt := Bx.mk hlt
  replace hB := hB.trans (hb0.mono hB.size)
  replace kg := kg.later hb0
  replace kh := kh.later hb0
  replace hSz := Nat.le_trans hSz hb0.size
  clear hb0
  clear cg0 cg1 cg2 cg3 cg4 cg5 cg6
  replace hB := Bx.mk hB
  clear hsl2 hsm2 hT hFa hSz
  have ch0 := kh.cell 0 rfl
  have ch1 := kh.cell 1 rfl
  have ch2 := kh.cell 2 rfl
  have ch3 := kh.cell 3 rfl
  have ch4 := kh.cell 4 rfl
  have ch5 := kh.cell 5 rfl
  have ch6 := kh.cell 6 rfl
  go_wp2_with fail
  refine (hFr.out _ _ hsm.out).mono ?_
  rintro _ w5 ⟨rfl, hb0⟩
  replace hS := Bx.mk (hS.out.later hb0)
  have hk := Keeps.below (Far := Far) hb0
  replace hB := Bx.mk (below_of_keeps hB.out hk (fun j hj => hlo.out j hj))
  replace kg := kg.far hk (hing.out)
  replace kh := kh.far hk (hinh.out)
  replace hsl := Bx.mk (hsl.out.far hk (hinl.out))
  replace hsm := Bx.mk (hsm.out.far hk (hinm.out))
  replace hZ := Nat.le_trans hZ hk.size
  clear hb0 hk
  clear ch0 ch1 ch2 ch3 ch4 ch5 ch6
  go_wp2_with fail
  go_ret
  exact ⟨rfl, hB.out⟩
structure CanI (w : World) (Far : Nat → Prop) (sb S3 : Nat) (gv hv : Array Value) (ha : Option Addr) (xs : List Int) (hb : Option Addr) (ys : List Int) (ts : List Tr) (wr : World) : Prop where
  st : StoreIs wr Far sb 100000 ts
  bel : Below w.heap.size w wr
  kg : Bk wr w.heap.size gv 28
  kh : Bk wr (w.heap.size + 1) hv 28
  sl : Sl wr .i64 ha xs
  sm : Sl wr .i64 hb ys
  sz : S3 ≤ wr.heap.size
set_option maxRecDepth 100000 in
set_option maxHeartbeats 8000000 in
theorem canon_loop (a b c d e f a2 b2 c2 d2 e2 f2 dd : Int) (turn : Nat) (ha hb : Option Addr) (hcp hcq : Nat) (xs ys : List Int) (w : World) (hl : xs.length ≤ 300) (hl2 : ys.length ≤ 300) (hsl : Sl w .i64 ha xs) (hsm : Sl w .i64 hb ys) (ht16 : turn < 65536) (i0 ib : Int) (F H : Pt → Int) (ids : Nat → Int) (qv : Nat → Bool) (pt : Nat → Pt) (T : Nat → List Tr) (ts0 : List Tr)
    (hT : Bx (∀ W, Sl W .i64 ha xs → Calls Try.prog 9 #[.agg #[.int .i64 a, .int .i64 b, .int .i64 c, .int .i64 d, .int .i64 e, .int .i64 f, .slice ha xs.length hcp], .int .i64 dd] W fun e' w' => ∃ sb, e' = .returned (.tuple #[.pointer (some ⟨sb, 0, none⟩), .int .i64 i0, .bool true]) ∧ StoreIs w' (fun k => k < W.heap.size) sb 100000 ts0 ∧ Below W.heap.size W w'))
    (hFr : Bx (∀ (W : World) (Far : Nat → Prop) (sb : Nat), Sl W .i64 hb ys → (ys ≠ [] → ∀ b, hb.map (·.block) = some b → Far b) → (∀ j, Far j → j < W.heap.size) → StoreIs W Far sb 100000 ts0 → Calls Try.prog 10 #[.pointer (some ⟨sb, 0, none⟩), .agg #[.int .i64 a2, .int .i64 b2, .int .i64 c2, .int .i64 d2, .int .i64 e2, .int .i64 f2, .slice hb ys.length hcq], .int .i64 dd] W fun e' w' => e' = ret2 ib 0 ∧ StoreIs w' Far sb 100000 (T 0) ∧ Keeps Far W w'))
    (hA1 : Bx (∀ (W : World) (i : Nat), i < xs.length + ys.length → (i + turn) % (xs.length + ys.length) < xs.length → Calls Try.prog 11 #[.agg #[.int .i64 a, .int .i64 b, .int .i64 c, .int .i64 d, .int .i64 e, .int .i64 f], .int .i64 (((i + turn) % (xs.length + ys.length) : Nat) : Int)] W fun e' w' => e' = .returned (.tuple #[.agg #[.int .i64 (pt i).x, .int .i64 (pt i).y, .int .i64 (pt i).z], .bool true]) ∧ Below W.heap.size W w'))
    (hA2 : Bx (∀ (W : World) (i : Nat), ¬ (i + turn) % (xs.length + ys.length) < xs.length → Calls Try.prog 11 #[.agg #[.int .i64 a, .int .i64 b, .int .i64 c, .int .i64 d, .int .i64 e, .int .i64 f], .int .i64 (((i + turn) % (xs.length + ys.length) : Nat) : Int)] W fun e' w' => e' = .returned (.tuple #[.agg #[.int .i64 0, .int .i64 0, .int .i64 0], .bool false]) ∧ Below W.heap.size W w'))
    (hA3 : Bx (∀ (W : World) (i : Nat), i < xs.length + ys.length → ¬ (i + turn) % (xs.length + ys.length) < xs.length → Calls Try.prog 11 #[.agg #[.int .i64 a2, .int .i64 b2, .int .i64 c2, .int .i64 d2, .int .i64 e2, .int .i64 f2], .int .i64 ((((i + turn) % (xs.length + ys.length) : Nat) : Int) - (xs.length : Int))] W fun e' w' => e' = .returned (.tuple #[.agg #[.int .i64 (pt i).x, .int .i64 (pt i).y, .int .i64 (pt i).z], .bool true]) ∧ Below W.heap.size W w'))
    (hGg : Bx (∀ (W : World) (p : Pt), Sl W .i64 ha xs → Calls Try.prog 12 #[.agg #[.int .i64 a, .int .i64 b, .int .i64 c, .int .i64 d, .int .i64 e, .int .i64 f, .slice ha xs.length hcp], .agg #[.int .i64 p.x, .int .i64 p.y, .int .i64 p.z]] W fun e' w' => e' = .returned (.int .i64 (F p)) ∧ Below W.heap.size W w'))
    (hGh : Bx (∀ (W : World) (p : Pt), Sl W .i64 hb ys → Calls Try.prog 12 #[.agg #[.int .i64 a2, .int .i64 b2, .int .i64 c2, .int .i64 d2, .int .i64 e2, .int .i64 f2, .slice hb ys.length hcq], .agg #[.int .i64 p.x, .int .i64 p.y, .int .i64 p.z]] W fun e' w' => e' = .returned (.int .i64 (H p)) ∧ Below W.heap.size W w'))
    (hSet : Bx (∀ (W : World) (Far : Nat → Prop) (sb : Nat) (i : Nat), i < xs.length + ys.length → (∀ j, Far j → j < W.heap.size) → StoreIs W Far sb 100000 (T i) → Calls Try.prog 13 #[.pointer (some ⟨sb, 0, none⟩), .int .i64 (ids i), .int .i64 dd, .agg #[.int .i64 (pt i).x, .int .i64 (pt i).y, .int .i64 (pt i).z], .int .i64 (H (pt i))] W fun e' w' => e' = ret2 (ids (i + 1)) 0 ∧ StoreIs w' Far sb 100000 (T (i + 1)) ∧ Keeps Far W w'))
    (hi0 : ids 0 = i0) (hq0 : qv 0 = true) (hqs : Bx (∀ i, qv (i + 1) = (qv i && (F (pt i) == H (pt i))))) (hE1 : ids (xs.length + ys.length) = ib) (hE2 : i0 = ib ↔ qv (xs.length + ys.length) = true) :
    Calls Try.prog 3 #[.agg #[.int .i64 a, .int .i64 b, .int .i64 c, .int .i64 d, .int .i64 e, .int .i64 f, .slice ha xs.length hcp], .agg #[.int .i64 a2, .int .i64 b2, .int .i64 c2, .int .i64 d2, .int .i64 e2, .int .i64 f2, .slice hb ys.length hcq], .int .i64 dd, .int .u16 (turn : Int)] w fun e' w' => e' = .returned (.bool true) ∧ Below w.heap.size w w' := by
  have hsl := Bx.mk hsl
  have hsm := Bx.mk hsm
  go_enter Try.func3, Try.ntmps3
  go_wp2_with fail
  generalize hW : World.alloc (World.alloc w _) _ = W
  have hSz : w.heap.size + 1 + 1 ≤ W.heap.size := by rw [← hW]; simp
  have hB : Below w.heap.size w W := by rw [← hW]; exact ((Below.refl _ _).alloc (Nat.le_refl _) _).alloc (by simp) _
  have kg : Bk W (w.heap.size) #[.int .i64 a, .int .i64 b, .int .i64 c, .int .i64 d, .int .i64 e, .int .i64 f, .slice ha xs.length hcp] 28 := by rw [← hW]; exact blk_old (blk_new _ _ _ (by simp))
  have kh : Bk W (w.heap.size + 1) #[.int .i64 a2, .int .i64 b2, .int .i64 c2, .int .i64 d2, .int .i64 e2, .int .i64 f2, .slice hb ys.length hcq] 28 := by rw [← hW]; exact blk_new _ _ _ (by simp)
  clear hW
  refine (sanity_true _).mono ?_
  rintro _ w1 ⟨rfl, hb0⟩
  replace hB := hB.trans (hb0.mono hB.size)
  replace kg := kg.later hb0
  replace kh := kh.later hb0
  replace hSz := Nat.le_trans hSz hb0.size
  clear hb0
  have cg0 := kg.cell 0 rfl
  have cg1 := kg.cell 1 rfl
  have cg2 := kg.cell 2 rfl
  have cg3 := kg.cell 3 rfl
  have cg4 := kg.cell 4 rfl
  have cg5 := kg.cell 5 rfl
  have cg6 := kg.cell 6 rfl
  go_wp2_with fail
  refine (few_yes a b c d e f ha xs.length hcp hl _).mono ?_
  rintro _ w2 ⟨rfl, hb0⟩
  replace hB := hB.trans (hb0.mono hB.size)
  replace kg := kg.later hb0
  replace kh := kh.later hb0
  replace hSz := Nat.le_trans hSz hb0.size
  clear hb0
  clear cg0 cg1 cg2 cg3 cg4 cg5 cg6
  have ch0 := kh.cell 0 rfl
  have ch1 := kh.cell 1 rfl
  have ch2 := kh.cell 2 rfl
  have ch3 := kh.cell 3 rfl
  have ch4 := kh.cell 4 rfl
  have ch5 := kh.cell 5 rfl
  have ch6 := kh.cell 6 rfl
  go_wp2_with fail
  refine (few_yes a2 b2 c2 d2 e2 f2 hb ys.length hcq hl2 _).mono ?_
  rintro _ w3 ⟨rfl, hb0⟩
  replace hB := hB.trans (hb0.mono hB.size)
  replace kg := kg.later hb0
  replace kh := kh.later hb0
  replace hSz := Nat.le_trans hSz hb0.size
  clear hb0
  clear ch0 ch1 ch2 ch3 ch4 ch5 ch6
  have cg0 := kg.cell 0 rfl
  have cg1 := kg.cell 1 rfl
  have cg2 := kg.cell 2 rfl
  have cg3 := kg.cell 3 rfl
  have cg4 := kg.cell 4 rfl
  have cg5 := kg.cell 5 rfl
  have cg6 := kg.cell 6 rfl
  go_wp2_with fail
  have hsl2 := hsl.out.below hB
  have hsm2 := hsm.out.below hB
  refine (hT.out _ hsl2).mono ?_
  rintro _ w4 ⟨sb, rfl, hS, hb0⟩
  have hinl : Bx (xs ≠ [] → ∀ b, ha.map (·.block) = some b → b < w3.heap.size) := ⟨fun hx b hb => by
    obtain ⟨x, r, rfl⟩ := List.exists_cons_of_ne_nil hx
    obtain ⟨b', off, h1, h2⟩ := hsl2 0 x rfl
    rw [h1] at hb
    simp only [Option.map_some, Option.some.injEq] at hb
    rw [← hb]; exact World.block_lt_of_cell? w3 _ h2⟩
  have hinm : Bx (ys ≠ [] → ∀ b, hb.map (·.block) = some b → b < w3.heap.size) := ⟨fun hx b hb => by
    obtain ⟨x, r, rfl⟩ := List.exists_cons_of_ne_nil hx
    obtain ⟨b', off, h1, h2⟩ := hsm2 0 x rfl
    rw [h1] at hb
    simp only [Option.map_some, Option.some.injEq] at hb
    rw [← hb]; exact World.block_lt_of_cell? w3 _ h2⟩
  have hing : Bx (w.heap.size < w3.heap.size) := ⟨kg.lt⟩
  have hinh : Bx (w.heap.size + 1 < w3.heap.size) := ⟨kh.lt⟩
  have hlo : Bx (∀ j, j < w.heap.size → j < w3.heap.size) := ⟨fun j hj => Nat.lt_of_lt_of_le hj hB.size⟩
  obtain ⟨Far, hFa⟩ : ∃ Far : Nat → Prop, Far = fun k => k < w3.heap.size := ⟨_, rfl⟩
  have hlt : ∀ j, Far j → j < w3.heap.size := fun j hj => by rw [hFa] at hj; exact hj
  rw [← hFa] at hS
  replace hinl : Bx (xs ≠ [] → ∀ b, ha.map (·.block) = some b → Far b) := by rw [hFa]; exact hinl
  replace hinm : Bx (ys ≠ [] → ∀ b, hb.map (·.block) = some b → Far b) := by rw [hFa]; exact hinm
  replace hing : Bx (Far w.heap.size) := by rw [hFa]; exact hing
  replace hinh : Bx (Far (w.heap.size + 1)) := by rw [hFa]; exact hinh
  replace hlo : Bx (∀ j, j < w.heap.size → Far j) := by rw [hFa]; exact hlo
  have hZ := hb0.size
  replace hsl : Bx (Sl w4 .i64 ha xs) := ⟨hsl2.below hb0⟩
  replace hsm : Bx (Sl w4 .i64 hb ys) := ⟨hsm2.below hb0⟩
  replace hS := Bx.mk hS
  have hlt := Bx.mk hlt
  replace hB := hB.trans (hb0.mono hB.size)
  replace kg := kg.later hb0
  replace kh := kh.later hb0
  replace hSz := Nat.le_trans hSz hb0.size
  clear hb0
  clear cg0 cg1 cg2 cg3 cg4 cg5 cg6
  replace hB := Bx.mk hB
  clear hsl2 hsm2 hT hFa hSz
  have ch0 := kh.cell 0 rfl
  have ch1 := kh.cell 1 rfl
  have ch2 := kh.cell 2 rfl
  have ch3 := kh.cell 3 rfl
  have ch4 := kh.cell 4 rfl
  have ch5 := kh.cell 5 rfl
  have ch6 := kh.cell 6 rfl
  go_wp2_with fail
  refine (hFr.out _ _ _ hsm.out hinm.out (fun j hj => Nat.lt_of_lt_of_le (hlt.out j hj) hZ) hS.out).mono ?_
  rintro _ w5 ⟨rfl, hs, hk⟩
  replace hS := Bx.mk hs
  clear hs hFr
  replace hB := Bx.mk (below_of_keeps hB.out hk (fun j hj => hlo.out j hj))
  replace kg := kg.far hk (hing.out)
  replace kh := kh.far hk (hinh.out)
  replace hsl := Bx.mk (hsl.out.far hk (hinl.out))
  replace hsm := Bx.mk (hsm.out.far hk (hinm.out))
  replace hZ := Nat.le_trans hZ hk.size
  clear hk
  clear ch0 ch1 ch2 ch3 ch4 ch5 ch6
  have cg0 := kg.cell 0 rfl
  have cg1 := kg.cell 1 rfl
  have cg2 := kg.cell 2 rfl
  have cg3 := kg.cell 3 rfl
  have cg4 := kg.cell 4 rfl
  have cg5 := kg.cell 5 rfl
  have cg6 := kg.cell 6 rfl
  have ch0 := kh.cell 0 rfl
  have ch1 := kh.cell 1 rfl
  have ch2 := kh.cell 2 rfl
  have ch3 := kh.cell 3 rfl
  have ch4 := kh.cell 4 rfl
  have ch5 := kh.cell 5 rfl
  have ch6 := kh.cell 6 rfl
  have hw1 : IntKind.i64.wrap ((xs.length : Int) + (ys.length : Int)) = (xs.length : Int) + (ys.length : Int) := IntWalk.i64_in _ (by omega)
  go_wp2_with fail
  clear cg0 cg1 cg2 cg3 cg4 cg5 cg6 ch0 ch1 ch2 ch3 ch4 ch5 ch6
  obtain ⟨S3, hS3⟩ : ∃ S3, S3 = w3.heap.size := ⟨_, rfl⟩
  rw [← hS3] at hlt hZ
  have HI : Bx (CanI w Far sb S3 #[.int .i64 a, .int .i64 b, .int .i64 c, .int .i64 d, .int .i64 e, .int .i64 f, .slice ha xs.length hcp] #[.int .i64 a2, .int .i64 b2, .int .i64 c2, .int .i64 d2, .int .i64 e2, .int .i64 f2, .slice hb ys.length hcq] ha xs hb ys (T 0) w5) := ⟨⟨hS.out, hB.out, kg, kh, hsl.out, hsm.out, hZ⟩⟩
  clear hS hB kg kh hsl hsm hZ hS3
  go_loopw [16, 17, 18] (fun v16 v17 v18 wr => ∃ i : Nat, i ≤ xs.length + ys.length ∧ v16 = .bool (qv i) ∧ v17 = .int .i64 (ids i) ∧ v18 = .int .i64 i ∧ Bx (CanI w Far sb S3 #[.int .i64 a, .int .i64 b, .int .i64 c, .int .i64 d, .int .i64 e, .int .i64 f, .slice ha xs.length hcp] #[.int .i64 a2, .int .i64 b2, .int .i64 c2, .int .i64 d2, .int .i64 e2, .int .i64 f2, .slice hb ys.length hcq] ha xs hb ys (T i) wr)) (fun _ _ i _ => xs.length + ys.length - (intOf i).toNat)
  case atStart => exact ⟨0, Nat.zero_le _, by rw [hq0], by rw [hi0], rfl, HI⟩
  case round =>
    clear HI
    obtain ⟨i, hi, rfl, rfl, rfl, HI⟩ := hrel
    obtain ⟨hS0, hB0, kg, kh, hsl0, hsm0, hZ⟩ := HI.out
    have hS := Bx.mk hS0
    have hB := Bx.mk hB0
    have hsl := Bx.mk hsl0
    have hsm := Bx.mk hsm0
    clear HI hS0 hB0 hsl0 hsm0
    by_cases hlt2 : i < xs.length + ys.length
    · have t0 : decide ((i : Int) < (xs.length : Int) + (ys.length : Int)) = true := by simp; omega
      obtain ⟨k, hk⟩ : ∃ k, k = (i + turn) % (xs.length + ys.length) := ⟨_, rfl⟩
      have hkl : k < xs.length + ys.length := by rw [hk]; exact Nat.mod_lt _ (by omega)
      have t1 : IntKind.i64.wrap ((i : Int) + (turn : Int)) = (i : Int) + (turn : Int) := IntWalk.i64_in _ (by omega)
      have t1b : IntKind.i64.wrap (turn : Int) = (turn : Int) := IntWalk.i64_in _ (by omega)
      have t2 : ((xs.length : Int) + (ys.length : Int) == 0) = false := by simp; omega
      have t2' : ((xs.length : Int) + (ys.length : Int)) ≠ 0 := by omega
      have t3 : ((i : Int) + (turn : Int)).tmod ((xs.length : Int) + (ys.length : Int)) = (k : Int) := by rw [Int.tmod_eq_emod_of_nonneg (by omega), hk]; simp
      have t3' : Bx (((i : Int) + (turn : Int)) % ((xs.length : Int) + (ys.length : Int)) = (k : Int)) := ⟨by rw [hk]; simp⟩
      have t4 : IntKind.i64.wrap (k : Int) = (k : Int) := IntWalk.i64_in _ (by omega)
      have e1 := hA1.out (i := i)
      have e2' := hA2.out (i := i)
      have e3 := hA3.out (i := i)
      have es := hSet.out (i := i)
      rw [← hk] at e1 e2' e3
      have hqi := hqs.out i
      rcases hpt : pt i with ⟨px, py, pz⟩
      simp only [hpt] at e1 e2' e3 es hqi
      rw [← t3'.out] at e1 e2' e3
      have e1 := Bx.mk e1
      have e2' := Bx.mk e2'
      have e3 := Bx.mk e3
      have es := Bx.mk es
      clear hA1 hA2 hA3 hSet
      by_cases hkg : k < xs.length
      · have t5 : ¬ (xs.length : Int) ≤ ((i : Int) + (turn : Int)) % ((xs.length : Int) + (ys.length : Int)) := by rw [t3'.out]; omega
        have t5' : ((i : Int) + (turn : Int)) % ((xs.length : Int) + (ys.length : Int)) < (xs.length : Int) := by rw [t3'.out]; omega
        have cg0 := kg.cell 0 rfl
        have cg1 := kg.cell 1 rfl
        have cg2 := kg.cell 2 rfl
        have cg3 := kg.cell 3 rfl
        have cg4 := kg.cell 4 rfl
        have cg5 := kg.cell 5 rfl
        have cg6 := kg.cell 6 rfl
        go_wp2_with fail
        refine (e1.out _ hlt2 hkg).mono ?_
        rintro _ w6 ⟨rfl, hb0⟩
        replace hS := Bx.mk (hS.out.later hb0)
        have hk := Keeps.below (Far := Far) hb0
        replace hB := Bx.mk (below_of_keeps hB.out hk (fun j hj => hlo.out j hj))
        replace kg := kg.far hk (hing.out)
        replace kh := kh.far hk (hinh.out)
        replace hsl := Bx.mk (hsl.out.far hk (hinl.out))
        replace hsm := Bx.mk (hsm.out.far hk (hinm.out))
        replace hZ := Nat.le_trans hZ hk.size
        clear hb0 hk
        replace hS := Bx.mk (hS.out.widen (Far' := fun j => Far j ∨ j = w6.heap.size) (fun k hk => hk.imp id (fun e => by rw [e]; exact Nat.le_refl _)))
        clear cg0 cg1 cg2 cg3 cg4 cg5 cg6
        have ca6 : ∀ o, (w6.alloc o).cell? ⟨w.heap.size, 6, none⟩ = some (.slice ha xs.length hcp) := fun o => Bk.cell (blk_old kg) 6 rfl
        go_wp2_with fail
        generalize hW : World.alloc w6 _ = W7
        have hb0 : Below w6.heap.size w6 W7 := by rw [← hW]; exact (Below.refl _ _).alloc (Nat.le_refl _) _
        have kp : Bk W7 w6.heap.size #[.int .i64 px, .int .i64 py, .int .i64 pz] 23 := by rw [← hW]; exact blk_new _ _ _ (by simp)
        clear hW ca6
        replace hS := Bx.mk (hS.out.later hb0)
        have hk := Keeps.below (Far := Far) hb0
        replace hB := Bx.mk (below_of_keeps hB.out hk (fun j hj => hlo.out j hj))
        replace kg := kg.far hk (hing.out)
        replace kh := kh.far hk (hinh.out)
        replace hsl := Bx.mk (hsl.out.far hk (hinl.out))
        replace hsm := Bx.mk (hsm.out.far hk (hinm.out))
        replace hZ := Nat.le_trans hZ hk.size
        clear hb0 hk
        cases hq : qv i with
        | false =>
          have cg0 : ∀ dk osk, (grow (redrawn W7 dk) osk).cell? ⟨w.heap.size, 0, none⟩ = some (.int .i64 a) := cell_regrown (kg.cell 0 rfl)
          have cg1 : ∀ dk osk, (grow (redrawn W7 dk) osk).cell? ⟨w.heap.size, 1, none⟩ = some (.int .i64 b) := cell_regrown (kg.cell 1 rfl)
          have cg2 : ∀ dk osk, (grow (redrawn W7 dk) osk).cell? ⟨w.heap.size, 2, none⟩ = some (.int .i64 c) := cell_regrown (kg.cell 2 rfl)
          have cg3 : ∀ dk osk, (grow (redrawn W7 dk) osk).cell? ⟨w.heap.size, 3, none⟩ = some (.int .i64 d) := cell_regrown (kg.cell 3 rfl)
          have cg4 : ∀ dk osk, (grow (redrawn W7 dk) osk).cell? ⟨w.heap.size, 4, none⟩ = some (.int .i64 e) := cell_regrown (kg.cell 4 rfl)
          have cg5 : ∀ dk osk, (grow (redrawn W7 dk) osk).cell? ⟨w.heap.size, 5, none⟩ = some (.int .i64 f) := cell_regrown (kg.cell 5 rfl)
          have cg6 : ∀ dk osk, (grow (redrawn W7 dk) osk).cell? ⟨w.heap.size, 6, none⟩ = some (.slice ha xs.length hcp) := cell_regrown (kg.cell 6 rfl)
          have ch0 : ∀ dk osk, (grow (redrawn W7 dk) osk).cell? ⟨w.heap.size + 1, 0, none⟩ = some (.int .i64 a2) := cell_regrown (kh.cell 0 rfl)
          have ch1 : ∀ dk osk, (grow (redrawn W7 dk) osk).cell? ⟨w.heap.size + 1, 1, none⟩ = some (.int .i64 b2) := cell_regrown (kh.cell 1 rfl)
          have ch2 : ∀ dk osk, (grow (redrawn W7 dk) osk).cell? ⟨w.heap.size + 1, 2, none⟩ = some (.int .i64 c2) := cell_regrown (kh.cell 2 rfl)
          have ch3 : ∀ dk osk, (grow (redrawn W7 dk) osk).cell? ⟨w.heap.size + 1, 3, none⟩ = some (.int .i64 d2) := cell_regrown (kh.cell 3 rfl)
          have ch4 : ∀ dk osk, (grow (redrawn W7 dk) osk).cell? ⟨w.heap.size + 1, 4, none⟩ = some (.int .i64 e2) := cell_regrown (kh.cell 4 rfl)
          have ch5 : ∀ dk osk, (grow (redrawn W7 dk) osk).cell? ⟨w.heap.size + 1, 5, none⟩ = some (.int .i64 f2) := cell_regrown (kh.cell 5 rfl)
          have ch6 : ∀ dk osk, (grow (redrawn W7 dk) osk).cell? ⟨w.heap.size + 1, 6, none⟩ = some (.slice hb ys.length hcq) := cell_regrown (kh.cell 6 rfl)
          have cp0 : ∀ dk osk, (grow (redrawn W7 dk) osk).cell? ⟨w6.heap.size, 0, none⟩ = some (.int .i64 px) := cell_regrown (kp.cell 0 rfl)
          have cp1 : ∀ dk osk, (grow (redrawn W7 dk) osk).cell? ⟨w6.heap.size, 1, none⟩ = some (.int .i64 py) := cell_regrown (kp.cell 1 rfl)
          have cp2 : ∀ dk osk, (grow (redrawn W7 dk) osk).cell? ⟨w6.heap.size, 2, none⟩ = some (.int .i64 pz) := cell_regrown (kp.cell 2 rfl)
          refine wp_region_quiet_below (by kernel_rfl) (by kernel_rfl) ?_
          repeat (first | go_big_quiet_step ((fail)) | quiet_step (fail))
          refine wpQuiet_nil ?_
          rintro _ ⟨⟨dq, osq⟩, rfl⟩
          have hb0 := below_regrown W7 dq osq
          clear cg0 cg1 cg2 cg3 cg4 cg5 cg6
          clear ch0 ch1 ch2 ch3 ch4 ch5 ch6
          clear cp0 cp1 cp2
          replace hS := Bx.mk (hS.out.later hb0)
          have hk := Keeps.below (Far := Far) hb0
          replace kp := kp.later hb0
          replace hB := Bx.mk (below_of_keeps hB.out hk (fun j hj => hlo.out j hj))
          replace kg := kg.far hk (hing.out)
          replace kh := kh.far hk (hinh.out)
          replace hsl := Bx.mk (hsl.out.far hk (hinl.out))
          replace hsm := Bx.mk (hsm.out.far hk (hinm.out))
          replace hZ := Nat.le_trans hZ hk.size
          clear hb0 hk
          generalize grow (redrawn W7 dq) osq = w8 at *
          go_wp2_with fail
          have ch0 := kh.cell 0 rfl
          have ch1 := kh.cell 1 rfl
          have ch2 := kh.cell 2 rfl
          have ch3 := kh.cell 3 rfl
          have ch4 := kh.cell 4 rfl
          have ch5 := kh.cell 5 rfl
          have ch6 := kh.cell 6 rfl
          have cp0 := kp.cell 0 rfl
          have cp1 := kp.cell 1 rfl
          have cp2 := kp.cell 2 rfl
          go_region_held3 (fun w' => w'.cell? ⟨w.heap.size + 1, 0, none⟩ = some (.int .i64 a2) ∧ w'.cell? ⟨w.heap.size + 1, 1, none⟩ = some (.int .i64 b2) ∧ w'.cell? ⟨w.heap.size + 1, 2, none⟩ = some (.int .i64 c2) ∧ w'.cell? ⟨w.heap.size + 1, 3, none⟩ = some (.int .i64 d2) ∧ w'.cell? ⟨w.heap.size + 1, 4, none⟩ = some (.int .i64 e2) ∧ w'.cell? ⟨w.heap.size + 1, 5, none⟩ = some (.int .i64 f2) ∧ w'.cell? ⟨w.heap.size + 1, 6, none⟩ = some (.slice hb ys.length hcq) ∧ w'.cell? ⟨w6.heap.size, 0, none⟩ = some (.int .i64 px) ∧ w'.cell? ⟨w6.heap.size, 1, none⟩ = some (.int .i64 py) ∧ w'.cell? ⟨w6.heap.size, 2, none⟩ = some (.int .i64 pz))
            (first | go_keep | (dsimp only; and_intros <;> assumption))
            (first
              | (go_at_call 13; refine (es.out _ (fun j => Far j ∨ j = w6.heap.size) _ hlt2 (fun j hj => hj.elim (fun h => Nat.lt_of_lt_of_le (hlt.out j h) (Nat.le_trans hZ hB9.size)) (fun h => by rw [h]; exact kp9.lt)) (hS.out.later hB9)).mono ?_; rintro e10 w10 ⟨rfl, hs, hk⟩; have kh10 := kh9.far hk (.inl hinh.out); have kp10 := kp9.far hk (.inr rfl); have d0' := kh10.cell 0 rfl; have d1' := kh10.cell 1 rfl; have d2' := kh10.cell 2 rfl; have d3' := kh10.cell 3 rfl; have d4' := kh10.cell 4 rfl; have d5' := kh10.cell 5 rfl; have d6' := kh10.cell 6 rfl; have e0'' := kp10.cell 0 rfl; have e1'' := kp10.cell 1 rfl; have e2'' := kp10.cell 2 rfl)
              | (go_at_call 12; refine (hGh.out _ ⟨px, py, pz⟩ (hsm.out.below (Below.refl _ _).drew)).mono ?_; rintro e9 w9 ⟨rfl, hb9⟩; have hB9 := (Below.refl w8.heap.size w8).drew.trans hb9; have kh9 := kh.later hB9; have kp9 := kp.later hB9; have d0 := kh9.cell 0 rfl; have d1 := kh9.cell 1 rfl; have d2 := kh9.cell 2 rfl; have d3 := kh9.cell 3 rfl; have d4 := kh9.cell 4 rfl; have d5 := kh9.cell 5 rfl; have d6 := kh9.cell 6 rfl; have e0' := kp9.cell 0 rfl; have e1' := kp9.cell 1 rfl; have e2' := kp9.cell 2 rfl))
          have hk1 := Keeps.below (Far := Far) hB9
          have hk2 := hk1.trans (hk.less (fun k hk => .inl hk))
          replace hS := Bx.mk (hs.less (Far := Far) (fun k hk => .inl hk))
          clear hs hk hk1 kp kp9 kp10 kh9 kh10 hB9 hb9 d0 d0' d1 d1' d2 d2' d3 d3' d4 d4' d5 d5' d6 d6' e0' e0'' e1' e1'' e2' e2'' ch0 ch1 ch2 ch3 ch4 ch5 ch6 cp0 cp1 cp2
          have hk := hk2
          clear hk2
          replace hB := Bx.mk (below_of_keeps hB.out hk (fun j hj => hlo.out j hj))
          replace kg := kg.far hk (hing.out)
          replace kh := kh.far hk (hinh.out)
          replace hsl := Bx.mk (hsl.out.far hk (hinl.out))
          replace hsm := Bx.mk (hsm.out.far hk (hinm.out))
          replace hZ := Nat.le_trans hZ hk.size
          clear hk
          go_wp2_with fail
          go_roundw
          case rel => exact ⟨i + 1, by omega, by rw [hqi, hq]; rfl, rfl, by go_num, ⟨⟨hS.out, hB.out, kg, kh, hsl.out, hsm.out, hZ⟩⟩⟩
          case measure => simp [intOf]; omega
        | true =>
          have cg0 : ∀ dk osk, (grow (redrawn W7 dk) osk).cell? ⟨w.heap.size, 0, none⟩ = some (.int .i64 a) := cell_regrown (kg.cell 0 rfl)
          have cg1 : ∀ dk osk, (grow (redrawn W7 dk) osk).cell? ⟨w.heap.size, 1, none⟩ = some (.int .i64 b) := cell_regrown (kg.cell 1 rfl)
          have cg2 : ∀ dk osk, (grow (redrawn W7 dk) osk).cell? ⟨w.heap.size, 2, none⟩ = some (.int .i64 c) := cell_regrown (kg.cell 2 rfl)
          have cg3 : ∀ dk osk, (grow (redrawn W7 dk) osk).cell? ⟨w.heap.size, 3, none⟩ = some (.int .i64 d) := cell_regrown (kg.cell 3 rfl)
          have cg4 : ∀ dk osk, (grow (redrawn W7 dk) osk).cell? ⟨w.heap.size, 4, none⟩ = some (.int .i64 e) := cell_regrown (kg.cell 4 rfl)
          have cg5 : ∀ dk osk, (grow (redrawn W7 dk) osk).cell? ⟨w.heap.size, 5, none⟩ = some (.int .i64 f) := cell_regrown (kg.cell 5 rfl)
          have cg6 : ∀ dk osk, (grow (redrawn W7 dk) osk).cell? ⟨w.heap.size, 6, none⟩ = some (.slice ha xs.length hcp) := cell_regrown (kg.cell 6 rfl)
          have ch0 : ∀ dk osk, (grow (redrawn W7 dk) osk).cell? ⟨w.heap.size + 1, 0, none⟩ = some (.int .i64 a2) := cell_regrown (kh.cell 0 rfl)
          have ch1 : ∀ dk osk, (grow (redrawn W7 dk) osk).cell? ⟨w.heap.size + 1, 1, none⟩ = some (.int .i64 b2) := cell_regrown (kh.cell 1 rfl)
          have ch2 : ∀ dk osk, (grow (redrawn W7 dk) osk).cell? ⟨w.heap.size + 1, 2, none⟩ = some (.int .i64 c2) := cell_regrown (kh.cell 2 rfl)
          have ch3 : ∀ dk osk, (grow (redrawn W7 dk) osk).cell? ⟨w.heap.size + 1, 3, none⟩ = some (.int .i64 d2) := cell_regrown (kh.cell 3 rfl)
          have ch4 : ∀ dk osk, (grow (redrawn W7 dk) osk).cell? ⟨w.heap.size + 1, 4, none⟩ = some (.int .i64 e2) := cell_regrown (kh.cell 4 rfl)
          have ch5 : ∀ dk osk, (grow (redrawn W7 dk) osk).cell? ⟨w.heap.size + 1, 5, none⟩ = some (.int .i64 f2) := cell_regrown (kh.cell 5 rfl)
          have ch6 : ∀ dk osk, (grow (redrawn W7 dk) osk).cell? ⟨w.heap.size + 1, 6, none⟩ = some (.slice hb ys.length hcq) := cell_regrown (kh.cell 6 rfl)
          have cp0 : ∀ dk osk, (grow (redrawn W7 dk) osk).cell? ⟨w6.heap.size, 0, none⟩ = some (.int .i64 px) := cell_regrown (kp.cell 0 rfl)
          have cp1 : ∀ dk osk, (grow (redrawn W7 dk) osk).cell? ⟨w6.heap.size, 1, none⟩ = some (.int .i64 py) := cell_regrown (kp.cell 1 rfl)
          have cp2 : ∀ dk osk, (grow (redrawn W7 dk) osk).cell? ⟨w6.heap.size, 2, none⟩ = some (.int .i64 pz) := cell_regrown (kp.cell 2 rfl)
          have q0 := Bx.mk fun dk osk => Calls.regrown_of (hGg.out (grow (redrawn W7 dk) osk) ⟨px, py, pz⟩ (hsl.out.below (below_regrown W7 dk osk)))
          have q1 := Bx.mk fun dk osk => Calls.regrown_of (hGh.out (grow (redrawn W7 dk) osk) ⟨px, py, pz⟩ (hsm.out.below (below_regrown W7 dk osk)))
          refine wp_region_quiet_below (by kernel_rfl) (by kernel_rfl) ?_
          repeat (first | go_big_quiet_step ((first | with_reducible exact q0.out _ _ | with_reducible exact q1.out _ _)) | quiet_step (first | with_reducible exact q0.out _ _ | with_reducible exact q1.out _ _))
          refine wpQuiet_nil ?_
          rintro _ ⟨⟨dq, osq⟩, rfl⟩
          have hb0 := below_regrown W7 dq osq
          clear cg0 cg1 cg2 cg3 cg4 cg5 cg6
          clear ch0 ch1 ch2 ch3 ch4 ch5 ch6
          clear cp0 cp1 cp2
          clear q0
          clear q1
          replace hS := Bx.mk (hS.out.later hb0)
          have hk := Keeps.below (Far := Far) hb0
          replace kp := kp.later hb0
          replace hB := Bx.mk (below_of_keeps hB.out hk (fun j hj => hlo.out j hj))
          replace kg := kg.far hk (hing.out)
          replace kh := kh.far hk (hinh.out)
          replace hsl := Bx.mk (hsl.out.far hk (hinl.out))
          replace hsm := Bx.mk (hsm.out.far hk (hinm.out))
          replace hZ := Nat.le_trans hZ hk.size
          clear hb0 hk
          generalize grow (redrawn W7 dq) osq = w8 at *
          go_wp2_with fail
          have ch0 := kh.cell 0 rfl
          have ch1 := kh.cell 1 rfl
          have ch2 := kh.cell 2 rfl
          have ch3 := kh.cell 3 rfl
          have ch4 := kh.cell 4 rfl
          have ch5 := kh.cell 5 rfl
          have ch6 := kh.cell 6 rfl
          have cp0 := kp.cell 0 rfl
          have cp1 := kp.cell 1 rfl
          have cp2 := kp.cell 2 rfl
          go_region_held3 (fun w' => w'.cell? ⟨w.heap.size + 1, 0, none⟩ = some (.int .i64 a2) ∧ w'.cell? ⟨w.heap.size + 1, 1, none⟩ = some (.int .i64 b2) ∧ w'.cell? ⟨w.heap.size + 1, 2, none⟩ = some (.int .i64 c2) ∧ w'.cell? ⟨w.heap.size + 1, 3, none⟩ = some (.int .i64 d2) ∧ w'.cell? ⟨w.heap.size + 1, 4, none⟩ = some (.int .i64 e2) ∧ w'.cell? ⟨w.heap.size + 1, 5, none⟩ = some (.int .i64 f2) ∧ w'.cell? ⟨w.heap.size + 1, 6, none⟩ = some (.slice hb ys.length hcq) ∧ w'.cell? ⟨w6.heap.size, 0, none⟩ = some (.int .i64 px) ∧ w'.cell? ⟨w6.heap.size, 1, none⟩ = some (.int .i64 py) ∧ w'.cell? ⟨w6.heap.size, 2, none⟩ = some (.int .i64 pz))
            (first | go_keep | (dsimp only; and_intros <;> assumption))
            (first
              | (go_at_call 13; refine (es.out _ (fun j => Far j ∨ j = w6.heap.size) _ hlt2 (fun j hj => hj.elim (fun h => Nat.lt_of_lt_of_le (hlt.out j h) (Nat.le_trans hZ hB9.size)) (fun h => by rw [h]; exact kp9.lt)) (hS.out.later hB9)).mono ?_; rintro e10 w10 ⟨rfl, hs, hk⟩; have kh10 := kh9.far hk (.inl hinh.out); have kp10 := kp9.far hk (.inr rfl); have d0' := kh10.cell 0 rfl; have d1' := kh10.cell 1 rfl; have d2' := kh10.cell 2 rfl; have d3' := kh10.cell 3 rfl; have d4' := kh10.cell 4 rfl; have d5' := kh10.cell 5 rfl; have d6' := kh10.cell 6 rfl; have e0'' := kp10.cell 0 rfl; have e1'' := kp10.cell 1 rfl; have e2'' := kp10.cell 2 rfl)
              | (go_at_call 12; refine (hGh.out _ ⟨px, py, pz⟩ (hsm.out.below (Below.refl _ _).drew)).mono ?_; rintro e9 w9 ⟨rfl, hb9⟩; have hB9 := (Below.refl w8.heap.size w8).drew.trans hb9; have kh9 := kh.later hB9; have kp9 := kp.later hB9; have d0 := kh9.cell 0 rfl; have d1 := kh9.cell 1 rfl; have d2 := kh9.cell 2 rfl; have d3 := kh9.cell 3 rfl; have d4 := kh9.cell 4 rfl; have d5 := kh9.cell 5 rfl; have d6 := kh9.cell 6 rfl; have e0' := kp9.cell 0 rfl; have e1' := kp9.cell 1 rfl; have e2' := kp9.cell 2 rfl))
          have hk1 := Keeps.below (Far := Far) hB9
          have hk2 := hk1.trans (hk.less (fun k hk => .inl hk))
          replace hS := Bx.mk (hs.less (Far := Far) (fun k hk => .inl hk))
          clear hs hk hk1 kp kp9 kp10 kh9 kh10 hB9 hb9 d0 d0' d1 d1' d2 d2' d3 d3' d4 d4' d5 d5' d6 d6' e0' e0'' e1' e1'' e2' e2'' ch0 ch1 ch2 ch3 ch4 ch5 ch6 cp0 cp1 cp2
          have hk := hk2
          clear hk2
          replace hB := Bx.mk (below_of_keeps hB.out hk (fun j hj => hlo.out j hj))
          replace kg := kg.far hk (hing.out)
          replace kh := kh.far hk (hinh.out)
          replace hsl := Bx.mk (hsl.out.far hk (hinl.out))
          replace hsm := Bx.mk (hsm.out.far hk (hinm.out))
          replace hZ := Nat.le_trans hZ hk.size
          clear hk
          go_wp2_with fail
          go_roundw
          case rel => exact ⟨i + 1, by omega, by rw [hqi, hq]; rfl, rfl, by go_num, ⟨⟨hS.out, hB.out, kg, kh, hsl.out, hsm.out, hZ⟩⟩⟩
          case measure => simp [intOf]; omega
      · have t5 : (xs.length : Int) ≤ ((i : Int) + (turn : Int)) % ((xs.length : Int) + (ys.length : Int)) := by rw [t3'.out]; omega
        have t5' : ¬ ((i : Int) + (turn : Int)) % ((xs.length : Int) + (ys.length : Int)) < (xs.length : Int) := by rw [t3'.out]; omega
        have t6 : IntKind.i64.wrap (((i : Int) + (turn : Int)) % ((xs.length : Int) + (ys.length : Int)) - (xs.length : Int)) = ((i : Int) + (turn : Int)) % ((xs.length : Int) + (ys.length : Int)) - (xs.length : Int) := IntWalk.i64_in _ (by rw [t3'.out]; omega)
        have cg0 := kg.cell 0 rfl
        have cg1 := kg.cell 1 rfl
        have cg2 := kg.cell 2 rfl
        have cg3 := kg.cell 3 rfl
        have cg4 := kg.cell 4 rfl
        have cg5 := kg.cell 5 rfl
        have cg6 := kg.cell 6 rfl
        go_wp2_with fail
        refine (e2'.out _ hkg).mono ?_
        rintro _ w6 ⟨rfl, hb0⟩
        replace hS := Bx.mk (hS.out.later hb0)
        have hk := Keeps.below (Far := Far) hb0
        replace hB := Bx.mk (below_of_keeps hB.out hk (fun j hj => hlo.out j hj))
        replace kg := kg.far hk (hing.out)
        replace kh := kh.far hk (hinh.out)
        replace hsl := Bx.mk (hsl.out.far hk (hinl.out))
        replace hsm := Bx.mk (hsm.out.far hk (hinm.out))
        replace hZ := Nat.le_trans hZ hk.size
        clear hb0 hk
        replace hS := Bx.mk (hS.out.widen (Far' := fun j => Far j ∨ j = w6.heap.size) (fun k hk => hk.imp id (fun e => by rw [e]; exact Nat.le_refl _)))
        clear cg0 cg1 cg2 cg3 cg4 cg5 cg6
        have ca6 : ∀ o, (w6.alloc o).cell? ⟨w.heap.size, 6, none⟩ = some (.slice ha xs.length hcp) := fun o => Bk.cell (blk_old kg) 6 rfl
        have cb0 : ∀ o, (w6.alloc o).cell? ⟨w.heap.size + 1, 0, none⟩ = some (.int .i64 a2) := fun o => Bk.cell (blk_old kh) 0 rfl
        have cb1 : ∀ o, (w6.alloc o).cell? ⟨w.heap.size + 1, 1, none⟩ = some (.int .i64 b2) := fun o => Bk.cell (blk_old kh) 1 rfl
        have cb2 : ∀ o, (w6.alloc o).cell? ⟨w.heap.size + 1, 2, none⟩ = some (.int .i64 c2) := fun o => Bk.cell (blk_old kh) 2 rfl
        have cb3 : ∀ o, (w6.alloc o).cell? ⟨w.heap.size + 1, 3, none⟩ = some (.int .i64 d2) := fun o => Bk.cell (blk_old kh) 3 rfl
        have cb4 : ∀ o, (w6.alloc o).cell? ⟨w.heap.size + 1, 4, none⟩ = some (.int .i64 e2) := fun o => Bk.cell (blk_old kh) 4 rfl
        have cb5 : ∀ o, (w6.alloc o).cell? ⟨w.heap.size + 1, 5, none⟩ = some (.int .i64 f2) := fun o => Bk.cell (blk_old kh) 5 rfl
        have cb6 : ∀ o, (w6.alloc o).cell? ⟨w.heap.size + 1, 6, none⟩ = some (.slice hb ys.length hcq) := fun o => Bk.cell (blk_old kh) 6 rfl
        go_wp2_with fail
        generalize hW : World.alloc w6 _ = W7
        have hbx : Below w6.heap.size w6 W7 := by rw [← hW]; exact (Below.refl _ _).alloc (Nat.le_refl _) _
        have kp : Bk W7 w6.heap.size #[.int .i64 0, .int .i64 0, .int .i64 0] 23 := by rw [← hW]; exact blk_new _ _ _ (by simp)
        clear hW ca6 cb0 cb1 cb2 cb3 cb4 cb5 cb6
        refine (e3.out _ hlt2 hkg).mono ?_
        rintro _ w8 ⟨rfl, hb0⟩
        replace hbx := hbx.trans (hb0.mono hbx.size)
        replace kp := kp.later hb0
        clear hb0
        have fp0 : ∀ o, (w8.alloc o).frozen? ⟨w6.heap.size, 0, none⟩ = false := fun o => Bk.frozen (blk_old kp) 0
        have fp1 : ∀ o, (w8.alloc o).frozen? ⟨w6.heap.size, 1, none⟩ = false := fun o => Bk.frozen (blk_old kp) 1
        have fp2 : ∀ o, (w8.alloc o).frozen? ⟨w6.heap.size, 2, none⟩ = false := fun o => Bk.frozen (blk_old kp) 2
        have cp0 : ∀ o, (w8.alloc o).cell? ⟨w6.heap.size, 0, none⟩ = some (.int .i64 0) := fun o => Bk.cell (blk_old kp) 0 rfl
        have cp1 : ∀ o, (w8.alloc o).cell? ⟨w6.heap.size, 1, none⟩ = some (.int .i64 0) := fun o => Bk.cell (blk_old kp) 1 rfl
        have cp2 : ∀ o, (w8.alloc o).cell? ⟨w6.heap.size, 2, none⟩ = some (.int .i64 0) := fun o => Bk.cell (blk_old kp) 2 rfl
        go_wp2_with fail
        generalize hW : World.setCell (World.setCell (World.setCell (World.alloc w8 _) _ _) _ _) _ _ = W9
        have hb0 : Below w6.heap.size w6 W9 := by rw [← hW]; exact blw3 (hbx.alloc hbx.size _) (Nat.le_refl _) _ _ _
        replace kp : Bk W9 w6.heap.size #[.int .i64 px, .int .i64 py, .int .i64 pz] 23 := by rw [← hW]; exact Bk.put3 (blk_old kp) _ _ _
        clear hW hbx fp0 fp1 fp2 cp0 cp1 cp2
        replace hS := Bx.mk (hS.out.later hb0)
        have hk := Keeps.below (Far := Far) hb0
        replace hB := Bx.mk (below_of_keeps hB.out hk (fun j hj => hlo.out j hj))
        replace kg := kg.far hk (hing.out)
        replace kh := kh.far hk (hinh.out)
        replace hsl := Bx.mk (hsl.out.far hk (hinl.out))
        replace hsm := Bx.mk (hsm.out.far hk (hinm.out))
        replace hZ := Nat.le_trans hZ hk.size
        clear hb0 hk
        cases hq : qv i with
        | false =>
          have cg0 : ∀ dk osk, (grow (redrawn W9 dk) osk).cell? ⟨w.heap.size, 0, none⟩ = some (.int .i64 a) := cell_regrown (kg.cell 0 rfl)
          have cg1 : ∀ dk osk, (grow (redrawn W9 dk) osk).cell? ⟨w.heap.size, 1, none⟩ = some (.int .i64 b) := cell_regrown (kg.cell 1 rfl)
          have cg2 : ∀ dk osk, (grow (redrawn W9 dk) osk).cell? ⟨w.heap.size, 2, none⟩ = some (.int .i64 c) := cell_regrown (kg.cell 2 rfl)
          have cg3 : ∀ dk osk, (grow (redrawn W9 dk) osk).cell? ⟨w.heap.size, 3, none⟩ = some (.int .i64 d) := cell_regrown (kg.cell 3 rfl)
          have cg4 : ∀ dk osk, (grow (redrawn W9 dk) osk).cell? ⟨w.heap.size, 4, none⟩ = some (.int .i64 e) := cell_regrown (kg.cell 4 rfl)
          have cg5 : ∀ dk osk, (grow (redrawn W9 dk) osk).cell? ⟨w.heap.size, 5, none⟩ = some (.int .i64 f) := cell_regrown (kg.cell 5 rfl)
          have cg6 : ∀ dk osk, (grow (redrawn W9 dk) osk).cell? ⟨w.heap.size, 6, none⟩ = some (.slice ha xs.length hcp) := cell_regrown (kg.cell 6 rfl)
          have ch0 : ∀ dk osk, (grow (redrawn W9 dk) osk).cell? ⟨w.heap.size + 1, 0, none⟩ = some (.int .i64 a2) := cell_regrown (kh.cell 0 rfl)
          have ch1 : ∀ dk osk, (grow (redrawn W9 dk) osk).cell? ⟨w.heap.size + 1, 1, none⟩ = some (.int .i64 b2) := cell_regrown (kh.cell 1 rfl)
          have ch2 : ∀ dk osk, (grow (redrawn W9 dk) osk).cell? ⟨w.heap.size + 1, 2, none⟩ = some (.int .i64 c2) := cell_regrown (kh.cell 2 rfl)
          have ch3 : ∀ dk osk, (grow (redrawn W9 dk) osk).cell? ⟨w.heap.size + 1, 3, none⟩ = some (.int .i64 d2) := cell_regrown (kh.cell 3 rfl)
          have ch4 : ∀ dk osk, (grow (redrawn W9 dk) osk).cell? ⟨w.heap.size + 1, 4, none⟩ = some (.int .i64 e2) := cell_regrown (kh.cell 4 rfl)
          have ch5 : ∀ dk osk, (grow (redrawn W9 dk) osk).cell? ⟨w.heap.size + 1, 5, none⟩ = some (.int .i64 f2) := cell_regrown (kh.cell 5 rfl)
          have ch6 : ∀ dk osk, (grow (redrawn W9 dk) osk).cell? ⟨w.heap.size + 1, 6, none⟩ = some (.slice hb ys.length hcq) := cell_regrown (kh.cell 6 rfl)
          have cp0 : ∀ dk osk, (grow (redrawn W9 dk) osk).cell? ⟨w6.heap.size, 0, none⟩ = some (.int .i64 px) := cell_regrown (kp.cell 0 rfl)
          have cp1 : ∀ dk osk, (grow (redrawn W9 dk) osk).cell? ⟨w6.heap.size, 1, none⟩ = some (.int .i64 py) := cell_regrown (kp.cell 1 rfl)
          have cp2 : ∀ dk osk, (grow (redrawn W9 dk) osk).cell? ⟨w6.heap.size, 2, none⟩ = some (.int .i64 pz) := cell_regrown (kp.cell 2 rfl)
          refine wp_region_quiet_below (by kernel_rfl) (by kernel_rfl) ?_
          repeat (first | go_big_quiet_step ((fail)) | quiet_step (fail))
          refine wpQuiet_nil ?_
          rintro _ ⟨⟨dq, osq⟩, rfl⟩
          have hb0 := below_regrown W9 dq osq
          clear cg0 cg1 cg2 cg3 cg4 cg5 cg6
          clear ch0 ch1 ch2 ch3 ch4 ch5 ch6
          clear cp0 cp1 cp2
          replace hS := Bx.mk (hS.out.later hb0)
          have hk := Keeps.below (Far := Far) hb0
          replace kp := kp.later hb0
          replace hB := Bx.mk (below_of_keeps hB.out hk (fun j hj => hlo.out j hj))
          replace kg := kg.far hk (hing.out)
          replace kh := kh.far hk (hinh.out)
          replace hsl := Bx.mk (hsl.out.far hk (hinl.out))
          replace hsm := Bx.mk (hsm.out.far hk (hinm.out))
          replace hZ := Nat.le_trans hZ hk.size
          clear hb0 hk
          generalize grow (redrawn W9 dq) osq = w11 at *
          go_wp2_with fail
          have ch0 := kh.cell 0 rfl
          have ch1 := kh.cell 1 rfl
          have ch2 := kh.cell 2 rfl
          have ch3 := kh.cell 3 rfl
          have ch4 := kh.cell 4 rfl
          have ch5 := kh.cell 5 rfl
          have ch6 := kh.cell 6 rfl
          have cp0 := kp.cell 0 rfl
          have cp1 := kp.cell 1 rfl
          have cp2 := kp.cell 2 rfl
          go_region_held3 (fun w' => w'.cell? ⟨w.heap.size + 1, 0, none⟩ = some (.int .i64 a2) ∧ w'.cell? ⟨w.heap.size + 1, 1, none⟩ = some (.int .i64 b2) ∧ w'.cell? ⟨w.heap.size + 1, 2, none⟩ = some (.int .i64 c2) ∧ w'.cell? ⟨w.heap.size + 1, 3, none⟩ = some (.int .i64 d2) ∧ w'.cell? ⟨w.heap.size + 1, 4, none⟩ = some (.int .i64 e2) ∧ w'.cell? ⟨w.heap.size + 1, 5, none⟩ = some (.int .i64 f2) ∧ w'.cell? ⟨w.heap.size + 1, 6, none⟩ = some (.slice hb ys.length hcq) ∧ w'.cell? ⟨w6.heap.size, 0, none⟩ = some (.int .i64 px) ∧ w'.cell? ⟨w6.heap.size, 1, none⟩ = some (.int .i64 py) ∧ w'.cell? ⟨w6.heap.size, 2, none⟩ = some (.int .i64 pz))
            (first | go_keep | (dsimp only; and_intros <;> assumption))
            (first
              | (go_at_call 13; refine (es.out _ (fun j => Far j ∨ j = w6.heap.size) _ hlt2 (fun j hj => hj.elim (fun h => Nat.lt_of_lt_of_le (hlt.out j h) (Nat.le_trans hZ hB9.size)) (fun h => by rw [h]; exact kp9.lt)) (hS.out.later hB9)).mono ?_; rintro e10 w13 ⟨rfl, hs, hk⟩; have kh10 := kh9.far hk (.inl hinh.out); have kp10 := kp9.far hk (.inr rfl); have d0' := kh10.cell 0 rfl; have d1' := kh10.cell 1 rfl; have d2' := kh10.cell 2 rfl; have d3' := kh10.cell 3 rfl; have d4' := kh10.cell 4 rfl; have d5' := kh10.cell 5 rfl; have d6' := kh10.cell 6 rfl; have e0'' := kp10.cell 0 rfl; have e1'' := kp10.cell 1 rfl; have e2'' := kp10.cell 2 rfl)
              | (go_at_call 12; refine (hGh.out _ ⟨px, py, pz⟩ (hsm.out.below (Below.refl _ _).drew)).mono ?_; rintro e9 w12 ⟨rfl, hb9⟩; have hB9 := (Below.refl w11.heap.size w11).drew.trans hb9; have kh9 := kh.later hB9; have kp9 := kp.later hB9; have d0 := kh9.cell 0 rfl; have d1 := kh9.cell 1 rfl; have d2 := kh9.cell 2 rfl; have d3 := kh9.cell 3 rfl; have d4 := kh9.cell 4 rfl; have d5 := kh9.cell 5 rfl; have d6 := kh9.cell 6 rfl; have e0' := kp9.cell 0 rfl; have e1' := kp9.cell 1 rfl; have e2' := kp9.cell 2 rfl))
          have hk1 := Keeps.below (Far := Far) hB9
          have hk2 := hk1.trans (hk.less (fun k hk => .inl hk))
          replace hS := Bx.mk (hs.less (Far := Far) (fun k hk => .inl hk))
          clear hs hk hk1 kp kp9 kp10 kh9 kh10 hB9 hb9 d0 d0' d1 d1' d2 d2' d3 d3' d4 d4' d5 d5' d6 d6' e0' e0'' e1' e1'' e2' e2'' ch0 ch1 ch2 ch3 ch4 ch5 ch6 cp0 cp1 cp2
          have hk := hk2
          clear hk2
          replace hB := Bx.mk (below_of_keeps hB.out hk (fun j hj => hlo.out j hj))
          replace kg := kg.far hk (hing.out)
          replace kh := kh.far hk (hinh.out)
          replace hsl := Bx.mk (hsl.out.far hk (hinl.out))
          replace hsm := Bx.mk (hsm.out.far hk (hinm.out))
          replace hZ := Nat.le_trans hZ hk.size
          clear hk
          go_wp2_with fail
          go_roundw
          case rel => exact ⟨i + 1, by omega, by rw [hqi, hq]; rfl, rfl, by go_num, ⟨⟨hS.out, hB.out, kg, kh, hsl.out, hsm.out, hZ⟩⟩⟩
          case measure => simp [intOf]; omega
        | true =>
          have cg0 : ∀ dk osk, (grow (redrawn W9 dk) osk).cell? ⟨w.heap.size, 0, none⟩ = some (.int .i64 a) := cell_regrown (kg.cell 0 rfl)
          have cg1 : ∀ dk osk, (grow (redrawn W9 dk) osk).cell? ⟨w.heap.size, 1, none⟩ = some (.int .i64 b) := cell_regrown (kg.cell 1 rfl)
          have cg2 : ∀ dk osk, (grow (redrawn W9 dk) osk).cell? ⟨w.heap.size, 2, none⟩ = some (.int .i64 c) := cell_regrown (kg.cell 2 rfl)
          have cg3 : ∀ dk osk, (grow (redrawn W9 dk) osk).cell? ⟨w.heap.size, 3, none⟩ = some (.int .i64 d) := cell_regrown (kg.cell 3 rfl)
          have cg4 : ∀ dk osk, (grow (redrawn W9 dk) osk).cell? ⟨w.heap.size, 4, none⟩ = some (.int .i64 e) := cell_regrown (kg.cell 4 rfl)
          have cg5 : ∀ dk osk, (grow (redrawn W9 dk) osk).cell? ⟨w.heap.size, 5, none⟩ = some (.int .i64 f) := cell_regrown (kg.cell 5 rfl)
          have cg6 : ∀ dk osk, (grow (redrawn W9 dk) osk).cell? ⟨w.heap.size, 6, none⟩ = some (.slice ha xs.length hcp) := cell_regrown (kg.cell 6 rfl)
          have ch0 : ∀ dk osk, (grow (redrawn W9 dk) osk).cell? ⟨w.heap.size + 1, 0, none⟩ = some (.int .i64 a2) := cell_regrown (kh.cell 0 rfl)
          have ch1 : ∀ dk osk, (grow (redrawn W9 dk) osk).cell? ⟨w.heap.size + 1, 1, none⟩ = some (.int .i64 b2) := cell_regrown (kh.cell 1 rfl)
          have ch2 : ∀ dk osk, (grow (redrawn W9 dk) osk).cell? ⟨w.heap.size + 1, 2, none⟩ = some (.int .i64 c2) := cell_regrown (kh.cell 2 rfl)
          have ch3 : ∀ dk osk, (grow (redrawn W9 dk) osk).cell? ⟨w.heap.size + 1, 3, none⟩ = some (.int .i64 d2) := cell_regrown (kh.cell 3 rfl)
          have ch4 : ∀ dk osk, (grow (redrawn W9 dk) osk).cell? ⟨w.heap.size + 1, 4, none⟩ = some (.int .i64 e2) := cell_regrown (kh.cell 4 rfl)
          have ch5 : ∀ dk osk, (grow (redrawn W9 dk) osk).cell? ⟨w.heap.size + 1, 5, none⟩ = some (.int .i64 f2) := cell_regrown (kh.cell 5 rfl)
          have ch6 : ∀ dk osk, (grow (redrawn W9 dk) osk).cell? ⟨w.heap.size + 1, 6, none⟩ = some (.slice hb ys.length hcq) := cell_regrown (kh.cell 6 rfl)
          have cp0 : ∀ dk osk, (grow (redrawn W9 dk) osk).cell? ⟨w6.heap.size, 0, none⟩ = some (.int .i64 px) := cell_regrown (kp.cell 0 rfl)
          have cp1 : ∀ dk osk, (grow (redrawn W9 dk) osk).cell? ⟨w6.heap.size, 1, none⟩ = some (.int .i64 py) := cell_regrown (kp.cell 1 rfl)
          have cp2 : ∀ dk osk, (grow (redrawn W9 dk) osk).cell? ⟨w6.heap.size, 2, none⟩ = some (.int .i64 pz) := cell_regrown (kp.cell 2 rfl)
          have q0 := Bx.mk fun dk osk => Calls.regrown_of (hGg.out (grow (redrawn W9 dk) osk) ⟨px, py, pz⟩ (hsl.out.below (below_regrown W9 dk osk)))
          have q1 := Bx.mk fun dk osk => Calls.regrown_of (hGh.out (grow (redrawn W9 dk) osk) ⟨px, py, pz⟩ (hsm.out.below (below_regrown W9 dk osk)))
          refine wp_region_quiet_below (by kernel_rfl) (by kernel_rfl) ?_
          repeat (first | go_big_quiet_step ((first | with_reducible exact q0.out _ _ | with_reducible exact q1.out _ _)) | quiet_step (first | with_reducible exact q0.out _ _ | with_reducible exact q1.out _ _))
          refine wpQuiet_nil ?_
          rintro _ ⟨⟨dq, osq⟩, rfl⟩
          have hb0 := below_regrown W9 dq osq
          clear cg0 cg1 cg2 cg3 cg4 cg5 cg6
          clear ch0 ch1 ch2 ch3 ch4 ch5 ch6
          clear cp0 cp1 cp2
          clear q0
          clear q1
          replace hS := Bx.mk (hS.out.later hb0)
          have hk := Keeps.below (Far := Far) hb0
          replace kp := kp.later hb0
          replace hB := Bx.mk (below_of_keeps hB.out hk (fun j hj => hlo.out j hj))
          replace kg := kg.far hk (hing.out)
          replace kh := kh.far hk (hinh.out)
          replace hsl := Bx.mk (hsl.out.far hk (hinl.out))
          replace hsm := Bx.mk (hsm.out.far hk (hinm.out))
          replace hZ := Nat.le_trans hZ hk.size
          clear hb0 hk
          generalize grow (redrawn W9 dq) osq = w11 at *
          go_wp2_with fail
          have ch0 := kh.cell 0 rfl
          have ch1 := kh.cell 1 rfl
          have ch2 := kh.cell 2 rfl
          have ch3 := kh.cell 3 rfl
          have ch4 := kh.cell 4 rfl
          have ch5 := kh.cell 5 rfl
          have ch6 := kh.cell 6 rfl
          have cp0 := kp.cell 0 rfl
          have cp1 := kp.cell 1 rfl
          have cp2 := kp.cell 2 rfl
          go_region_held3 (fun w' => w'.cell? ⟨w.heap.size + 1, 0, none⟩ = some (.int .i64 a2) ∧ w'.cell? ⟨w.heap.size + 1, 1, none⟩ = some (.int .i64 b2) ∧ w'.cell? ⟨w.heap.size + 1, 2, none⟩ = some (.int .i64 c2) ∧ w'.cell? ⟨w.heap.size + 1, 3, none⟩ = some (.int .i64 d2) ∧ w'.cell? ⟨w.heap.size + 1, 4, none⟩ = some (.int .i64 e2) ∧ w'.cell? ⟨w.heap.size + 1, 5, none⟩ = some (.int .i64 f2) ∧ w'.cell? ⟨w.heap.size + 1, 6, none⟩ = some (.slice hb ys.length hcq) ∧ w'.cell? ⟨w6.heap.size, 0, none⟩ = some (.int .i64 px) ∧ w'.cell? ⟨w6.heap.size, 1, none⟩ = some (.int .i64 py) ∧ w'.cell? ⟨w6.heap.size, 2, none⟩ = some (.int .i64 pz))
            (first | go_keep | (dsimp only; and_intros <;> assumption))
            (first
              | (go_at_call 13; refine (es.out _ (fun j => Far j ∨ j = w6.heap.size) _ hlt2 (fun j hj => hj.elim (fun h => Nat.lt_of_lt_of_le (hlt.out j h) (Nat.le_trans hZ hB9.size)) (fun h => by rw [h]; exact kp9.lt)) (hS.out.later hB9)).mono ?_; rintro e10 w13 ⟨rfl, hs, hk⟩; have kh10 := kh9.far hk (.inl hinh.out); have kp10 := kp9.far hk (.inr rfl); have d0' := kh10.cell 0 rfl; have d1' := kh10.cell 1 rfl; have d2' := kh10.cell 2 rfl; have d3' := kh10.cell 3 rfl; have d4' := kh10.cell 4 rfl; have d5' := kh10.cell 5 rfl; have d6' := kh10.cell 6 rfl; have e0'' := kp10.cell 0 rfl; have e1'' := kp10.cell 1 rfl; have e2'' := kp10.cell 2 rfl)
              | (go_at_call 12; refine (hGh.out _ ⟨px, py, pz⟩ (hsm.out.below (Below.refl _ _).drew)).mono ?_; rintro e9 w12 ⟨rfl, hb9⟩; have hB9 := (Below.refl w11.heap.size w11).drew.trans hb9; have kh9 := kh.later hB9; have kp9 := kp.later hB9; have d0 := kh9.cell 0 rfl; have d1 := kh9.cell 1 rfl; have d2 := kh9.cell 2 rfl; have d3 := kh9.cell 3 rfl; have d4 := kh9.cell 4 rfl; have d5 := kh9.cell 5 rfl; have d6 := kh9.cell 6 rfl; have e0' := kp9.cell 0 rfl; have e1' := kp9.cell 1 rfl; have e2' := kp9.cell 2 rfl))
          have hk1 := Keeps.below (Far := Far) hB9
          have hk2 := hk1.trans (hk.less (fun k hk => .inl hk))
          replace hS := Bx.mk (hs.less (Far := Far) (fun k hk => .inl hk))
          clear hs hk hk1 kp kp9 kp10 kh9 kh10 hB9 hb9 d0 d0' d1 d1' d2 d2' d3 d3' d4 d4' d5 d5' d6 d6' e0' e0'' e1' e1'' e2' e2'' ch0 ch1 ch2 ch3 ch4 ch5 ch6 cp0 cp1 cp2
          have hk := hk2
          clear hk2
          replace hB := Bx.mk (below_of_keeps hB.out hk (fun j hj => hlo.out j hj))
          replace kg := kg.far hk (hing.out)
          replace kh := kh.far hk (hinh.out)
          replace hsl := Bx.mk (hsl.out.far hk (hinl.out))
          replace hsm := Bx.mk (hsm.out.far hk (hinm.out))
          replace hZ := Nat.le_trans hZ hk.size
          clear hk
          go_wp2_with fail
          go_roundw
          case rel => exact ⟨i + 1, by omega, by rw [hqi, hq]; rfl, rfl, by go_num, ⟨⟨hS.out, hB.out, kg, kh, hsl.out, hsm.out, hZ⟩⟩⟩
          case measure => simp [intOf]; omega
    · obtain rfl : i = xs.length + ys.length := by omega
      have t0 : decide (((xs.length + ys.length : Nat) : Int) < (xs.length : Int) + (ys.length : Int)) = false := by simp
      rw [hE1]
      have hz : ((i0 == ib) == qv (xs.length + ys.length)) = true := by
        cases hq : qv (xs.length + ys.length) with
        | true => simpa using hE2.2 hq
        | false =>
          rw [hq] at hE2
          simpa using fun h => Bool.noConfusion (hE2.1 h)
      go_wp2_with fail
      go_ret
      exact ⟨rfl, hB.out⟩
theorem canon_true (a b c d e f a2 b2 c2 d2 e2 f2 dd : Int) (turn : Nat) (ha hb : Option Addr) (hcp hcq : Nat) (xs ys : List Int) (hc1 : xs.length ≤ hcp) (hc2 : ys.length ≤ hcq) (ht16 : turn < 65536) (w : World) (hsl : Sl w .i64 ha xs) (hsm : Sl w .i64 hb ys) :
    Calls Try.prog 3 #[.agg #[.int .i64 a, .int .i64 b, .int .i64 c, .int .i64 d, .int .i64 e, .int .i64 f, .slice ha xs.length hcp], .agg #[.int .i64 a2, .int .i64 b2, .int .i64 c2, .int .i64 d2, .int .i64 e2, .int .i64 f2, .slice hb ys.length hcq], .int .i64 dd, .int .u16 (turn : Int)] w fun e' w' => e' = .returned (.bool true) ∧ Below w.heap.size w w' := by
  by_cases hl : xs.length ≤ 300
  · by_cases hl2 : ys.length ≤ 300
    · by_cases hE : fromE ⟨⟨a, b, c⟩, ⟨d, e, f⟩⟩ xs dd = 0
      · obtain ⟨n, hn, rfl, hV, hC⟩ := fromE_zero hE
        have HX := goodG_of hV hl hc1
        have hF := grid_fn HX hC
        have hT := Bx.mk (fun W h => built_yes a b c d e f ha hcp xs n hn HX hV hC W h)
        by_cases hE2 : fromE ⟨⟨a2, b2, c2⟩, ⟨d2, e2, f2⟩⟩ ys ((n : Int) + 2) = 0
        · obtain ⟨n2, hn2, he, hV2, hC2⟩ := fromE_zero hE2
          obtain rfl : n2 = n := by omega
          have HY := goodG_of hV2 hl2 hc2
          have hH := grid_fn HY hC2
          have hGg := Bx.mk (fun W (p : Pt) h => ref_get a b c d e f p.x p.y p.z ha hcp xs HX W h)
          have hGh := Bx.mk (fun W (p : Pt) h => ref_get a2 b2 c2 d2 e2 f2 p.x p.y p.z hb hcq ys HY W h)
          have hL0 : (Tr.add (trF n2 (cellG ⟨⟨a, b, c⟩, ⟨d, e, f⟩⟩ xs)) []).length ≤ 3901 := by simpa using can_few HX hn good_nil
          have hG0 := good_fn hn hF good_nil
          have hm0 := Tr.mem_add (trF n2 (cellG ⟨⟨a, b, c⟩, ⟨d, e, f⟩⟩ xs)) []
          have hL1 := can_few HY hn hG0
          have hG1 := good_fn hn hH hG0
          have hm1 := Tr.mem_add (trF n2 (cellG ⟨⟨a2, b2, c2⟩, ⟨d2, e2, f2⟩⟩ ys)) (Tr.add (trF n2 (cellG ⟨⟨a, b, c⟩, ⟨d, e, f⟩⟩ xs)) [])
          have hp1 := Tr.add_prefix (trF n2 (cellG ⟨⟨a2, b2, c2⟩, ⟨d2, e2, f2⟩⟩ ys)) (Tr.add (trF n2 (cellG ⟨⟨a, b, c⟩, ⟨d, e, f⟩⟩ xs)) [])
          have hFr := Bx.mk (fun W Far sb h1 h2 h3 h4 => (from_yes W sb a2 b2 c2 d2 e2 f2 hb hcq ys n2 hn h1 HY hV2 hC2 Far h2 100000 (Tr.add (trF n2 (cellG ⟨⟨a, b, c⟩, ⟨d, e, f⟩⟩ xs)) []) hG0 (by omega) h3 h4).mono (fun e w' hg => hg.fit (.inr (by omega))))
          have v1 := grid_vol HX
          have v2 := grid_vol HY
          have hA1 := Bx.mk (fun W (k : Nat) (hk : k < xs.length) => ref_at_yes a b c d e f (k : Int) HX.small (by omega) W)
          have hA2 := Bx.mk (fun W (k : Nat) (hk : ¬ k < xs.length) => ref_at_no a b c d e f (k : Int) HX.small (by omega) W)
          have hA3 := Bx.mk (fun W (k : Int) (hk : 0 ≤ k ∧ k < ys.length) => ref_at_yes a2 b2 c2 d2 e2 f2 k HY.small (by omega) W)
          have hin : ∀ i, i < xs.length + ys.length → inB (turnPt ⟨⟨a, b, c⟩, ⟨d, e, f⟩⟩ ⟨⟨a2, b2, c2⟩, ⟨d2, e2, f2⟩⟩ xs.length (xs.length + ys.length) turn i) (cubeB (2 ^ (n2 + 2))) = true := fun i hi => (turn_in (turn := turn) v1 v2 rfl hi).elim (box_in hC) (box_in hC2)
          have hcov : ∀ p, (cellG ⟨⟨a, b, c⟩, ⟨d, e, f⟩⟩ xs) p ≠ (cellG ⟨⟨a2, b2, c2⟩, ⟨d2, e2, f2⟩⟩ ys) p → ∃ j, j < xs.length + ys.length ∧ turnPt ⟨⟨a, b, c⟩, ⟨d, e, f⟩⟩ ⟨⟨a2, b2, c2⟩, ⟨d2, e2, f2⟩⟩ xs.length (xs.length + ys.length) turn j = p := fun p hne => by
            refine turn_cov v1 v2 rfl ?_
            cases h1 : inB p ⟨⟨a, b, c⟩, ⟨d, e, f⟩⟩ with
            | true => exact .inl rfl
            | false =>
              cases h2 : inB p ⟨⟨a2, b2, c2⟩, ⟨d2, e2, f2⟩⟩ with
              | true => exact .inr rfl
              | false => exact absurd (by rw [cell_out h1, cell_out h2]) hne
          have hpt1 : ∀ i, (i + turn) % (xs.length + ys.length) < xs.length → turnPt ⟨⟨a, b, c⟩, ⟨d, e, f⟩⟩ ⟨⟨a2, b2, c2⟩, ⟨d2, e2, f2⟩⟩ xs.length (xs.length + ys.length) turn i = atB ⟨⟨a, b, c⟩, ⟨d, e, f⟩⟩ (((i + turn) % (xs.length + ys.length) : Nat) : Int) := fun i h => if_pos h
          have hpt2 : ∀ i, ¬ (i + turn) % (xs.length + ys.length) < xs.length → turnPt ⟨⟨a, b, c⟩, ⟨d, e, f⟩⟩ ⟨⟨a2, b2, c2⟩, ⟨d2, e2, f2⟩⟩ xs.length (xs.length + ys.length) turn i = atB ⟨⟨a2, b2, c2⟩, ⟨d2, e2, f2⟩⟩ ((((i + turn) % (xs.length + ys.length) : Nat) : Int) - xs.length) := fun i h => if_neg h
          clear HX HY hE hE2 hV hV2 hC hC2 v1 v2 he
          generalize (cellG ⟨⟨a, b, c⟩, ⟨d, e, f⟩⟩ xs) = F at *
          generalize (cellG ⟨⟨a2, b2, c2⟩, ⟨d2, e2, f2⟩⟩ ys) = H at *
          generalize turnPt ⟨⟨a, b, c⟩, ⟨d, e, f⟩⟩ ⟨⟨a2, b2, c2⟩, ⟨d2, e2, f2⟩⟩ xs.length (xs.length + ys.length) turn = pt at *
          generalize Tr.add (trF n2 F) [] = ts0 at *
          generalize Tr.add (trF n2 H) ts0 = ts1 at *
          have hok := tss_ok hn hF hH hin hG1 (hp1.subset hm0)
          have hfn := fs_fn hF hH hin
          refine canon_loop a b c d e f a2 b2 c2 d2 e2 f2 _ turn ha hb hcp hcq xs ys w hl hl2 hsl hsm ht16 _ _ F H (fun i => (idT (tss n2 F H pt ts1 i) (trF n2 (fs F H pt i)) : Int)) (qs F H pt) pt (tss n2 F H pt ts1) ts0 hT hFr ?_ ?_ ?_ hGg hGh ?_ ?_ rfl ⟨fun i => rfl⟩ ?_ ?_
          · exact ⟨fun W i hi h => by rw [hpt1 i h]; exact hA1.out W _ h⟩
          · exact ⟨fun W i h => hA2.out W _ h⟩
          · exact ⟨fun W i hi h => by rw [hpt2 i h]; exact hA3.out W _ (by have := Nat.mod_lt (i + turn) (show 0 < xs.length + ys.length by omega); omega)⟩
          · refine ⟨fun W Far sb i hi h1 h2 => ?_⟩
            have h := hok i (by omega)
            have hle := h.len
            exact set_fn W Far sb 100000 (tss n2 F H pt ts1 i) n2 (fs F H pt i) hn (hfn i (by omega)) h.good (by omega) h.mem (pt i).x (pt i).y (pt i).z (H (pt i)) (hin i hi) (hH.range _) (by omega) h1 h2
          · show (idT ts1 (trF n2 F) : Int) = idT ts0 (trF n2 F)
            rw [idT_prefix hp1 hm0]
          · show (idT (tss n2 F H pt ts1 (xs.length + ys.length)) (trF n2 (fs F H pt (xs.length + ys.length))) : Int) = idT ts1 (trF n2 H)
            rw [fs_end hcov, idT_prefix (hok _ (Nat.le_refl _)).pre hm1]
          · rw [qs_end hcov, ← fnC_eq hF hH, ← idT_prefix hp1 hm0]
            exact ⟨fun e => idT_inj (hp1.subset hm0) hm1 (Int.ofNat_inj.1 e), fun e => by rw [e]⟩
        · exact canon_err a b c d e f a2 b2 c2 d2 e2 f2 _ turn ha hb hcp hcq xs ys w hl hl2 hsl hsm _ _ _ hT (by simpa using hE2) ⟨fun W sb h => from_no W sb a2 b2 c2 d2 e2 f2 _ hb hcq ys hl2 h hE2⟩
      · exact canon_none a b c d e f a2 b2 c2 d2 e2 f2 dd turn ha hb hcp hcq xs ys w hl hl2 hsl hE
    · exact canon_many2 a b c d e f a2 b2 c2 d2 e2 f2 dd turn ha hb hcp hcq xs ys w hl hl2
  · exact canon_many a b c d e f a2 b2 c2 d2 e2 f2 dd turn ha hb hcp hcq xs ys w hl
end Go.Proofs.Ytabclecmehdeoaa
end
