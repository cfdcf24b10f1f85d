import Derived.Test.YtabclecmehdeoaaGreatGGen
section
/- A function turned into another, point by point. No program. -/
namespace Go.Proofs.YtabclecmehdeoaaGreat
open Oct

/-- the function after i steps -/
def fs (F H : Pt → Int) (pt : Nat → Pt) : Nat → Pt → Int
  | 0 => F
  | i + 1 => Tr.upd (fs F H pt i) (pt i) (H (pt i))
/-- equal so far -/
def qs (F H : Pt → Int) (pt : Nat → Pt) : Nat → Bool
  | 0 => true
  | i + 1 => qs F H pt i && (F (pt i) == H (pt i))
/-- the nodes after i steps -/
noncomputable def tss (m : Nat) (F H : Pt → Int) (pt : Nat → Pt) (ts : List Tr) : Nat → List Tr
  | 0 => ts
  | i + 1 => Tr.add (trF m (fs F H pt (i + 1))) (tss m F H pt ts i)
theorem fs_at (F H : Pt → Int) (pt : Nat → Pt) (p : Pt) : ∀ i, fs F H pt i p = H p ∨ (fs F H pt i p = F p ∧ ∀ j, j < i → pt j ≠ p)
  | 0 => .inr ⟨rfl, fun j hj => by omega⟩
  | i + 1 => by
    unfold fs
    by_cases h : p = pt i
    · left; rw [← h, upd_at]
    · rw [upd_off h]
      rcases fs_at F H pt p i with h1 | ⟨h1, h2⟩
      · exact .inl h1
      · refine .inr ⟨h1, fun j hj e => ?_⟩
        by_cases hji : j = i
        · exact h (by rw [← e, hji])
        · exact h2 j (by omega) e
theorem fs_end {F H : Pt → Int} {pt : Nat → Pt} {n : Nat} (h : ∀ p, F p ≠ H p → ∃ j, j < n ∧ pt j = p) : fs F H pt n = H := by
  funext p
  rcases fs_at F H pt p n with h1 | ⟨h1, h2⟩
  · exact h1
  · rw [h1]
    apply Classical.byContradiction
    intro hne
    obtain ⟨j, hj, e⟩ := h p hne
    exact h2 j hj e
theorem qs_iff (F H : Pt → Int) (pt : Nat → Pt) : ∀ i, qs F H pt i = true ↔ ∀ j, j < i → F (pt j) = H (pt j)
  | 0 => ⟨fun _ j hj => by omega, fun _ => rfl⟩
  | i + 1 => by
    unfold qs
    rw [Bool.and_eq_true, qs_iff F H pt i, beq_iff_eq]
    refine ⟨fun ⟨h1, h2⟩ j hj => ?_, fun h => ⟨fun j hj => h j (by omega), h i (by omega)⟩⟩
    by_cases hji : j = i
    · rw [hji]; exact h2
    · exact h1 j (by omega)
theorem qs_end {F H : Pt → Int} {pt : Nat → Pt} {n : Nat} (h : ∀ p, F p ≠ H p → ∃ j, j < n ∧ pt j = p) : qs F H pt n = true ↔ F = H := by
  rw [qs_iff]
  refine ⟨fun h1 => funext fun p => ?_, fun e j _ => by rw [e]⟩
  apply Classical.byContradiction
  intro hne
  obtain ⟨j, hj, e⟩ := h p hne
  exact hne (by rw [← e]; exact h1 j hj)
theorem fs_fn {m : Nat} {F H : Pt → Int} (hF : FnC m F) (hH : FnC m H) {pt : Nat → Pt} {n : Nat} (hp : ∀ j, j < n → inB (pt j) (cubeB (2 ^ (m + 2))) = true) : ∀ i, i ≤ n → FnC m (fs F H pt i)
  | 0, _ => hF
  | i + 1, hi => (fs_fn hF hH hp i (by omega)).upd (hp i (by omega)) (hH.range _)
structure TssOk (m : Nat) (f : Pt → Int) (ts us : List Tr) (i : Nat) : Prop where
  good : Good us
  mem : trF m f ∈ us
  pre : ts <+: us
  len : us.length ≤ ts.length + 13 * i
theorem tss_ok {m : Nat} (hm : m ≤ 12) {F H : Pt → Int} (hF : FnC m F) (hH : FnC m H) {pt : Nat → Pt} {n : Nat} (hp : ∀ j, j < n → inB (pt j) (cubeB (2 ^ (m + 2))) = true) {ts : List Tr} (hG : Good ts) (ht : trF m F ∈ ts) :
    ∀ i, i ≤ n → TssOk m (fs F H pt i) ts (tss m F H pt ts i) i
  | 0, _ => ⟨hG, ht, List.prefix_refl _, by simp [tss]⟩
  | i + 1, hi => by
    have h := tss_ok hm hF hH hp hG ht i (by omega)
    have h1 := fs_fn hF hH hp i (by omega)
    have h2 := fs_fn hF hH hp (i + 1) hi
    unfold tss
    refine ⟨good_fn hm h2 h.good, Tr.mem_add _ _, h.pre.trans (Tr.add_prefix _ _), ?_⟩
    have := len_fn hm (hp i (by omega)) (hH.range (pt i)) h.good h.mem
    have h3 := h.len
    show (Tr.add (trF m (Tr.upd (fs F H pt i) (pt i) (H (pt i)))) (tss m F H pt ts i)).length ≤ _
    omega
/-- the point of a turn: first those of one box, then those of the other, from a place on -/
def turnPt (A B : Box) (na n turn i : Nat) : Pt := if (i + turn) % n < na then atB A (((i + turn) % n : Nat) : Int) else atB B ((((i + turn) % n : Nat) : Int) - na)
theorem turn_all {n turn k : Nat} (hk : k < n) : ∃ i, i < n ∧ (i + turn) % n = k := by
  have hd := Nat.div_add_mod turn n
  have hm := Nat.mod_lt turn (show 0 < n by omega)
  by_cases h : turn % n ≤ k
  · refine ⟨k - turn % n, by omega, ?_⟩
    rw [show k - turn % n + turn = k + n * (turn / n) by omega, Nat.add_mul_mod_self_left, Nat.mod_eq_of_lt hk]
  · refine ⟨k + n - turn % n, by omega, ?_⟩
    rw [show k + n - turn % n + turn = (k + n) + n * (turn / n) by omega, Nat.add_mul_mod_self_left, Nat.add_mod_right, Nat.mod_eq_of_lt hk]
theorem turn_in {A B : Box} {na nb n turn i : Nat} (ha : (na : Int) = volB A ∨ na = 0 ∧ volB A ≤ 0) (hb : (nb : Int) = volB B ∨ nb = 0 ∧ volB B ≤ 0) (hn : n = na + nb) (hi : i < n) : inB (turnPt A B na n turn i) A = true ∨ inB (turnPt A B na n turn i) B = true := by
  have hk := Nat.mod_lt (i + turn) (show 0 < n by omega)
  unfold turnPt
  split
  · exact .inl (atB_in (by omega) (by omega)).1
  · exact .inr (atB_in (by omega) (by omega)).1
theorem turn_cov {A B : Box} {na nb n turn : Nat} (ha : (na : Int) = volB A ∨ na = 0 ∧ volB A ≤ 0) (hb : (nb : Int) = volB B ∨ nb = 0 ∧ volB B ≤ 0) (hn : n = na + nb) {p : Pt} (h : inB p A = true ∨ inB p B = true) : ∃ i, i < n ∧ turnPt A B na n turn i = p := by
  rcases h with h | h
  · have hx := indexB_bd h
    obtain ⟨i, hi, e⟩ := turn_all (n := n) (turn := turn) (k := (indexB A p).toNat) (by omega)
    refine ⟨i, hi, ?_⟩
    unfold turnPt
    rw [e, if_pos (by omega), Int.toNat_of_nonneg hx.1, at_index h]
  · have hx := indexB_bd h
    obtain ⟨i, hi, e⟩ := turn_all (n := n) (turn := turn) (k := na + (indexB B p).toNat) (by omega)
    refine ⟨i, hi, ?_⟩
    unfold turnPt
    rw [e, if_neg (by omega), show ((na + (indexB B p).toNat : Nat) : Int) - na = indexB B p by omega, at_index h]
theorem cell_out {b : Box} {xs : List Int} {p : Pt} (h : inB p b = false) : cellG b xs p = 0 := by unfold cellG; rw [if_neg (by simp [h])]
theorem grid_vol {b : Box} {xs : List Int} {hcp : Nat} (HX : GoodG b xs hcp) : (xs.length : Int) = volB b ∨ xs.length = 0 ∧ volB b ≤ 0 := by
  have := HX.len
  omega
theorem box_in {b : Box} {n : Nat} (hC : emptyB b = true ∨ containsB ⟨⟨0, 0, 0⟩, ⟨2 ^ (n + 2), 2 ^ (n + 2), 2 ^ (n + 2)⟩⟩ b = true) {p : Pt} (hb : inB p b = true) : inB p (cubeB (2 ^ (n + 2))) = true := by
  have h1 := inB_iff.1 hb
  rcases hC with hC | hC
  · have := emptyB_iff'.1 hC
    omega
  · unfold containsB at hC
    rw [Bool.or_eq_true] at hC
    rcases hC with hC | hC
    · have := emptyB_iff'.1 hC
      omega
    · have h2 : inB p (meetB ⟨⟨0, 0, 0⟩, ⟨2 ^ (n + 2), 2 ^ (n + 2), 2 ^ (n + 2)⟩⟩ b) = true := by rw [of_decide_eq_true hC]; exact hb
      refine inB_iff.2 ?_
      unfold meetB at h2
      split at h2
      · have := inB_iff.1 h2
        simp only [Box.zero, Pt.zero] at this
        omega
      · have := inB_iff.1 h2
        simp only [joinB] at this
        simp only [cubeB, Pt.zero]
        omega
end Go.Proofs.YtabclecmehdeoaaGreat
end
section
/- The walk of OctreeIsCanonical. -/
namespace Go.Proofs.YtabclecmehdeoaaGreat
open Go.RowKit Go.Sort Go.Maps
open Oct

structure CanI (w : World) (Far : Nat → Prop) (sb S3 : Nat) (gv hv : Array Value) (ha : Option Addr) (xs : List Int) (hb : Option Addr) (ys : List Int) (ts : List Tr) (wr : World) : Prop where
  st : StoreIs wr Far sb 100000 ts
  bel : Below w.heap.size w wr
  kg : Bk wr w.heap.size gv 28
  kh : Bk wr (w.heap.size + 1) hv 28
  sl : Sl wr .i64 ha xs
  sm : Sl wr .i64 hb ys
  sz : S3 ≤ wr.heap.size
end Go.Proofs.YtabclecmehdeoaaGreat
end
