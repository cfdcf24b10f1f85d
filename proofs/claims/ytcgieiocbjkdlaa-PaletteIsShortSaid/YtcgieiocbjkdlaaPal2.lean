/- More of the plain functions of the palette's layer: no program in sight. -/
import Derived.Test.YtcgieiocbjkdlaaPal
namespace Go.Proofs.Ytcgieiocbjkdlaa.Pal

theorem mat_length (t : List Int) : (mat t).1.length ≤ 64 := Nat.le_trans (diff_length _) (dec_length t)
theorem pfin_length (old t cells : List Int) (n : Int) : (pfin old t cells n).1.length ≤ 64 := by
  unfold pfin
  split
  · simp
  · split
    · simp
    · rename_i k out h
      split
      · simp
      · have := (st_length 64 k out h).1
        show out.length ≤ 64
        omega
theorem pat_length (xs t : List Int) : (pat xs t).1.length ≤ 64 := by
  unfold pat
  split
  · simp
  · split
    · simp
    · split
      · simp
      · exact pfin_length _ _ _ _

/-! ### the digits of the bytes -/
theorem same_byte {w i k : Nat} (hw : Wd w) (hi : i < k) (h : k * w / 8 = i * w / 8) : i * w % 8 + w ≤ k * w % 8 := by
  rcases hw with rfl | rfl | rfl | rfl <;> omega
theorem byt_digit (w : Nat) (f : Nat → Nat) (hw : Wd w) : ∀ k, (∀ i, i < k → f i < 2 ^ w) → ∀ i, i < k →
    byt w f k (i * w / 8) / 2 ^ (i * w % 8) % 2 ^ w = f i ∧ (i + 1 = k → byt w f k (i * w / 8) / 2 ^ (i * w % 8) / 2 ^ w = 0) := by
  intro k
  induction k with
  | zero => intro _ i hi; omega
  | succ k ih =>
    intro hf i hi
    have hfk := hf k (by omega)
    by_cases hik : i = k
    · subst hik
      have hb : byt w f i (i * w / 8) < 2 ^ (i * w % 8) := by
        obtain ⟨h1, h2, _⟩ := byt_lt w f hw i (fun j hj => hf j (by omega)) (i * w / 8)
        by_cases h0 : i * w ≤ 8 * (i * w / 8)
        · rw [h1 h0]; exact Nat.two_pow_pos _
        · have := h2 (by omega) (by omega)
          rwa [show i * w - 8 * (i * w / 8) = i * w % 8 by omega] at this
      have he : byt w f (i + 1) (i * w / 8) / 2 ^ (i * w % 8) = f i := by
        unfold byt
        rw [if_pos rfl, Nat.add_mul_div_right _ _ (Nat.two_pow_pos _), Nat.div_eq_of_lt hb, Nat.zero_add]
      rw [he]
      exact ⟨Nat.mod_eq_of_lt hfk, fun _ => Nat.div_eq_of_lt hfk⟩
    · refine ⟨?_, fun h => by omega⟩
      have h0 := (ih (fun j hj => hf j (by omega)) i (by omega)).1
      unfold byt
      by_cases hj : k * w / 8 = i * w / 8
      · rw [if_pos hj]
        have hs := same_byte hw (by omega : i < k) hj
        obtain ⟨c, hc⟩ := Nat.le.dest hs
        rw [← hc, show f k * 2 ^ (i * w % 8 + w + c) = f k * 2 ^ c * 2 ^ w * 2 ^ (i * w % 8) by rw [Nat.pow_add, Nat.pow_add]; simp [Nat.mul_assoc, Nat.mul_comm, Nat.mul_left_comm], Nat.add_mul_div_right _ _ (Nat.two_pow_pos _), Nat.add_mul_mod_self_right]
        exact h0
      · rw [if_neg hj, Nat.add_zero]
        exact h0

/-- what is read as digits is written as it stood -/
theorem byt_of (w : Nat) (f : Nat → Nat) (hw : Wd w) (b j : Nat) : ∀ k, (∀ i, i < k → i * w / 8 = j → f i = b / 2 ^ (i * w % 8) % 2 ^ w) →
    byt w f k j = b % 2 ^ (min 8 (k * w - 8 * j)) := by
  intro k
  induction k with
  | zero => intro _; simp [byt, Nat.mod_one]
  | succ k ih =>
    intro hf
    have h0 := ih (fun i hi => hf i (by omega))
    unfold byt
    rw [h0]
    by_cases hj : k * w / 8 = j
    · rw [if_pos hj, hf k (by omega) hj]
      have e1 : min 8 (k * w - 8 * j) = k * w % 8 := by omega
      have e2 : min 8 ((k + 1) * w - 8 * j) = k * w % 8 + w := by
        rcases hw with rfl | rfl | rfl | rfl <;> omega
      rw [e1, e2, Nat.pow_add, Nat.mod_mul]
      rw [Nat.mul_comm (2 ^ (k * w % 8))]
    · rw [if_neg hj, Nat.add_zero]
      congr 2
      rcases hw with rfl | rfl | rfl | rfl <;> omega

/-! ### diff of the first cells -/
theorem add_prefix (p : List Int) (c : Int) : ∃ q, add p c = p ++ q := by
  unfold add; split
  · exact ⟨[], by simp⟩
  · exact ⟨[c], rfl⟩
theorem foldl_add_prefix (l : List Int) : ∀ p : List Int, ∃ q, l.foldl add p = p ++ q := by
  induction l with
  | nil => intro p; exact ⟨[], by simp⟩
  | cons x l ih =>
    intro p
    rw [List.foldl_cons]
    obtain ⟨q, hq⟩ := ih (add p x)
    obtain ⟨q', hq'⟩ := add_prefix p x
    exact ⟨q' ++ q, by rw [hq, hq', List.append_assoc]⟩
theorem diff_prefix (l : List Int) (i : Nat) : ∃ q, diff l = diff (l.take i) ++ q := by
  obtain ⟨q, hq⟩ := foldl_add_prefix (l.drop i) (diff (l.take i))
  refine ⟨q, ?_⟩
  rw [← hq]
  unfold diff
  rw [← List.foldl_append, List.take_append_drop]
theorem foldl_add_length (l : List Int) : ∀ p : List Int, (l.foldl add p).length ≤ p.length + l.length := by
  induction l with
  | nil => intro p; simp
  | cons x l ih =>
    intro p
    rw [List.foldl_cons]
    have := ih (add p x)
    have := add_length p x
    simp
    omega
theorem diff_rest (l : List Int) (i : Nat) : (diff l).length ≤ (diff (l.take i)).length + (l.length - i) := by
  have := foldl_add_length (l.drop i) (diff (l.take i))
  rw [List.length_drop] at this
  have e : (l.drop i).foldl add (diff (l.take i)) = diff l := by
    unfold diff
    rw [← List.foldl_append, List.take_append_drop]
  rwa [e] at this
theorem add_nodup (p : List Int) (c : Int) (h : p.Nodup) : (add p c).Nodup := by
  unfold add; split
  · exact h
  · rename_i hc
    rw [List.nodup_append]
    refine ⟨h, by simp, ?_⟩
    intro a ha b hb
    simp at hb
    subst hb
    intro e
    subst e
    exact hc ha
theorem foldl_add_nodup (l : List Int) : ∀ p : List Int, p.Nodup → (l.foldl add p).Nodup := by
  induction l with
  | nil => intro p h; exact h
  | cons x l ih => intro p h; rw [List.foldl_cons]; exact ih _ (add_nodup p x h)
theorem diff_nodup (l : List Int) : (diff l).Nodup := foldl_add_nodup l [] (by simp)

/-- the index of a cell, by the cells before it -/
theorem idx_step (l : List Int) (i : Nat) (c : Int) (h : l[i]? = some c) :
    nxt (diff (l.take i)).length ((diff l).idxOf c) = (diff (l.take (i + 1))).length ∧ (diff l).idxOf c < (diff (l.take (i + 1))).length := by
  have hd := diff_take l i c h
  obtain ⟨q, hq⟩ := diff_prefix l (i + 1)
  by_cases hc : c ∈ diff (l.take i)
  · have e : diff (l.take (i + 1)) = diff (l.take i) := by rw [hd]; unfold add; rw [if_pos hc]
    rw [e] at hq ⊢
    rw [hq, List.idxOf_append, if_pos hc]
    have := List.idxOf_lt_length_of_mem hc
    refine ⟨?_, this⟩
    unfold nxt
    rw [if_neg (by omega)]
  · have e : diff (l.take (i + 1)) = diff (l.take i) ++ [c] := by rw [hd]; unfold add; rw [if_neg hc]
    rw [e] at hq ⊢
    have e2 : (diff l).idxOf c = (diff (l.take i)).length := by
      rw [hq, List.append_assoc, List.idxOf_append, if_neg hc]
      simp
    rw [e2]
    refine ⟨?_, by simp⟩
    unfold nxt
    simp

theorem getD_of {l : List Int} {i : Nat} {c : Int} (h : l[i]? = some c) : l.getD i 0 = c := by simp [List.getD, h]
theorem getD_idxOf {l : List Int} {c : Int} (h : c ∈ l) : l.getD (l.idxOf c) 0 = c := by
  have h1 := List.idxOf_lt_length_of_mem h
  rw [List.getD_eq_getElem?_getD, List.getElem?_eq_getElem h1]
  simp

/-- the index of cell i -/
def ix (l : List Int) (i : Nat) : Nat := (diff l).idxOf (l.getD i 0)
theorem ix_mem {l : List Int} {i : Nat} (hi : i < l.length) : l.getD i 0 ∈ diff l := by
  rw [mem_diff, List.getD_eq_getElem?_getD, List.getElem?_eq_getElem hi]
  exact List.getElem_mem _
theorem ix_lt {l : List Int} {i : Nat} (hi : i < l.length) : ix l i < (diff l).length := List.idxOf_lt_length_of_mem (ix_mem hi)
theorem ix_getD {l : List Int} {i : Nat} (hi : i < l.length) : (diff l).getD (ix l i) 0 = l.getD i 0 := getD_idxOf (ix_mem hi)
theorem ix_right {l : List Int} {i rest : Nat} (hi : i < l.length) (hr : i + 1 = l.length → rest = 0) :
    wrong (diff l).length l.length i (diff (l.take i)).length (ix l i) rest = false ∧ nxt (diff (l.take i)).length (ix l i) = (diff (l.take (i + 1))).length := by
  have hg : l[i]? = some (l.getD i 0) := by rw [List.getD_eq_getElem?_getD, List.getElem?_eq_getElem hi]; simp
  obtain ⟨h1, h2⟩ := idx_step l i _ hg
  refine ⟨?_, h1⟩
  have h3 := ix_lt hi
  have h4 := diff_rest l (i + 1)
  unfold ix at h3 ⊢
  unfold wrong
  rw [h1]
  simp
  refine ⟨⟨⟨h2, h3⟩, by omega⟩, fun h => hr (by omega)⟩
theorem take_snoc {l : List Int} {i : Nat} (hi : i < l.length) : l.take i ++ [l.getD i 0] = l.take (i + 1) := by
  rw [List.take_add_one, List.getElem?_eq_getElem hi, List.getD_eq_getElem?_getD, List.getElem?_eq_getElem hi]
  rfl

/-- reading on from right digits -/
theorem rd_right {l t : List Int} {w : Nat} : ∀ (r i : Nat), i + r = l.length →
    (∀ j, i ≤ j → j < l.length → ∃ rest, dg t w j = some (ix l j, rest) ∧ (j + 1 = l.length → rest = 0)) →
    rd t (diff l) (diff l).length l.length w r i (diff (l.take i)).length (l.take i) = (l, 0) := by
  intro r
  induction r with
  | zero =>
    intro i hi _
    rw [rd_end, List.take_of_length_le (by omega)]
  | succ r ih =>
    intro i hi hd
    obtain ⟨rest, h1, h2⟩ := hd i (Nat.le_refl _) (by omega)
    obtain ⟨h3, h4⟩ := ix_right (by omega : i < l.length) h2
    rw [rd_go h1 h3, h4, ix_getD (by omega), take_snoc (by omega)]
    exact ih (i + 1) (by omega) (fun j hj hj' => hd j (by omega) hj')
/-- the text ends in the midst of the indices -/
theorem rd_cut {l t : List Int} {w : Nat} : ∀ (r i : Nat), i + r = l.length → (∃ e, i ≤ e ∧ e < l.length ∧ dg t w e = none ∧
    (∀ j, i ≤ j → j < e → ∃ rest, dg t w j = some (ix l j, rest) ∧ (j + 1 = l.length → rest = 0))) →
    rd t (diff l) (diff l).length l.length w r i (diff (l.take i)).length (l.take i) = ([], 5) := by
  intro r
  induction r with
  | zero =>
    rintro i hi ⟨e, h1, h2, _⟩
    omega
  | succ r ih =>
    rintro i hi ⟨e, he, he', hn, hd⟩
    by_cases hie : i = e
    · subst hie
      exact rd_short hn
    · obtain ⟨rest, h1, h2⟩ := hd i (Nat.le_refl _) (by omega)
      obtain ⟨h3, h4⟩ := ix_right (by omega : i < l.length) h2
      rw [rd_go h1 h3, h4, ix_getD (by omega), take_snoc (by omega)]
      exact ih (i + 1) (by omega) ⟨e, by omega, he', hn, fun j hj hj' => hd j (by omega) hj'⟩

theorem dg_zero (t : List Int) (i : Nat) : dg t 0 i = some (0, 0) := by simp [dg]
theorem dg_some {t : List Int} {w i b : Nat} (hw : Wd w) (h : t[i * w / 8]? = some (b : Int)) : dg t w i = some (b / 2 ^ (i * w % 8) % 2 ^ w, b / 2 ^ (i * w % 8) / 2 ^ w) := by
  have : w ≠ 0 := by rcases hw with rfl | rfl | rfl | rfl <;> decide
  simp [dg, this, h]
theorem dg_none {t : List Int} {w i : Nat} (hw : Wd w) (h : t.length ≤ i * w / 8) : dg t w i = none := by
  have : w ≠ 0 := by rcases hw with rfl | rfl | rfl | rfl <;> decide
  simp [dg, this, List.getElem?_eq_none h]
theorem packs_length (w : Nat) (f : Nat → Nat) (n : Nat) : (packs w f n).length = (n * w + 7) / 8 := by simp [packs]
theorem packs_at {w : Nat} {f : Nat → Nat} {n j : Nat} (h : j < (n * w + 7) / 8) : (packs w f n)[j]? = some (byt w f n j : Int) := by simp [packs, h]
theorem byte_lt {w n i : Nat} (hw : Wd w) (hi : i < n) : i * w / 8 < (n * w + 7) / 8 := by
  rcases hw with rfl | rfl | rfl | rfl <;> omega

/-- the cells' indices as they are packed -/
def pk (l : List Int) : List Int := packs (width (diff l).length) (ix l) l.length
theorem packMain_eq (l : List Int) : packMain l = (l.length : Int) :: ((diff l).length : Int) :: (diff l ++ pk l) := rfl
theorem dg_pk {l : List Int} (hw : Wd (width (diff l).length)) (hl : (diff l).length ≤ 64) {i : Nat} (hi : i < l.length) {t : List Int} (ht : t[i * width (diff l).length / 8]? = (pk l)[i * width (diff l).length / 8]?) :
    ∃ rest, dg t (width (diff l).length) i = some (ix l i, rest) ∧ (i + 1 = l.length → rest = 0) := by
  have hf : ∀ j, j < l.length → ix l j < 2 ^ width (diff l).length := fun j hj => Nat.lt_of_lt_of_le (ix_lt hj) (width_fits hl)
  obtain ⟨h1, h2⟩ := byt_digit _ (ix l) hw l.length hf i hi
  refine ⟨_, ?_, h2⟩
  rw [dg_some hw (ht.trans (packs_at (byte_lt hw hi))), h1]
theorem width_cases (m : Nat) : m ≤ 1 ∨ Wd (width m) := by
  by_cases h : m ≤ 1
  · exact .inl h
  · exact .inr (width_wd (by omega))
theorem ix_one {l : List Int} {i : Nat} (h : (diff l).length ≤ 1) (hi : i < l.length) : ix l i = 0 := by
  have := ix_lt hi; omega
theorem inds_right {l s : List Int} (hl : (diff l).length ≤ 64) : inds (pk l ++ s) (diff l) l.length = (l, 0) := by
  unfold inds
  refine rd_right (l := l) l.length 0 (by omega) ?_
  intro i _ hi
  rcases width_cases (diff l).length with h1 | hw
  · refine ⟨0, ?_, fun _ => rfl⟩
    rw [ix_one h1 hi, show width (diff l).length = 0 by unfold width; rw [if_pos h1]]
    exact dg_zero _ _
  · refine dg_pk hw hl hi ?_
    have := byte_lt hw hi
    rw [List.getElem?_append_left (by unfold pk; rw [packs_length]; exact this)]
theorem inds_cut {l : List Int} {k : Nat} (hl : (diff l).length ≤ 64) (hk : k < (pk l).length) : inds ((pk l).take k) (diff l) l.length = ([], 5) := by
  unfold pk at hk
  rw [packs_length] at hk
  have hw : Wd (width (diff l).length) := by
    rcases width_cases (diff l).length with h1 | hw
    · rw [show width (diff l).length = 0 by unfold width; rw [if_pos h1]] at hk
      omega
    · exact hw
  unfold inds
  refine rd_cut (l := l) l.length 0 (by omega) ?_
  generalize hwe : width (diff l).length = w at *
  have hlast : k ≤ (l.length - 1) * w / 8 ∧ 1 ≤ l.length := by
    rcases hw with rfl | rfl | rfl | rfl <;> omega
  have hex : ∃ e, e < l.length ∧ k ≤ e * w / 8 ∧ ∀ j, j < e → j * w / 8 < k := by
    rcases hw with rfl | rfl | rfl | rfl
    · exact ⟨k * 8, by omega, by omega, fun j hj => by omega⟩
    · exact ⟨k * 4, by omega, by omega, fun j hj => by omega⟩
    · exact ⟨k * 2, by omega, by omega, fun j hj => by omega⟩
    · exact ⟨k, by omega, by omega, fun j hj => by omega⟩
  obtain ⟨e, h1, h2, h3⟩ := hex
  refine ⟨e, Nat.zero_le _, h1, ?_, ?_⟩
  · exact dg_none hw (by rw [List.length_take]; omega)
  · intro j _ hj
    subst hwe
    refine dg_pk hw hl (by omega) ?_
    rw [List.getElem?_take, if_pos (h3 j hj)]

theorem unp_main {t : List Int} {n m : Nat} (h0 : 2 ≤ t.length) (hn : (t.getD 0 0).toNat = n) (hm : (t.getD 1 0).toNat = m) (h1 : 1 ≤ n) (h2 : n ≤ 64) (h3 : 1 ≤ m) (h4 : m ≤ n)
    (h5 : ((t.drop 2).take m).Nodup) : unp t = if t.length < 2 + m then ([], 0, 5)
      else if (inds (t.drop (2 + m)) ((t.drop 2).take m) n).2 ≠ 0 then ([], 0, (inds (t.drop (2 + m)) ((t.drop 2).take m) n).2)
      else ((inds (t.drop (2 + m)) ((t.drop 2).take m) n).1, ((2 + m + (n * width m + 7) / 8 : Nat) : Int), 0) := by
  subst hn; subst hm
  unfold unp
  rw [if_neg (by omega), if_neg (by omega), if_neg (by omega), if_neg (by omega), if_neg (by omega), if_neg (by simpa using h5)]

theorem good_len {l : List Int} (h : bad l = false) : l.length ≤ 64 := by
  unfold bad at h; simp at h; omega
theorem good_cells {l : List Int} (h : bad l = false) : l.all cell = true := by
  unfold bad at h; simp at h; simpa using h.1
theorem diff_pos {l : List Int} (h : l.length ≠ 0) : 1 ≤ (diff l).length := by
  have := ix_lt (l := l) (i := 0) (by omega)
  omega

/-- P8.6, one way -/
theorem unp_packB {l : List Int} (h : bad l = false) (s : List Int) : unp (packB l ++ s) = (l, ((packB l).length : Int), 0) := by
  by_cases h0 : l.length = 0
  · rw [packB_nil h h0]
    have : l = [] := List.eq_nil_of_length_eq_zero h0
    subst this
    unfold unp
    rw [if_neg (by simp), if_neg (by simp), if_pos (by simp)]
    rfl
  · have hl := good_len h
    have hd := diff_length l
    have hp := diff_pos h0
    rw [packB_main h h0, packMain_eq]
    have e1 : (List.drop 2 ((l.length : Int) :: ((diff l).length : Int) :: (diff l ++ pk l) ++ s)).take (diff l).length = diff l := by simp
    have e2 : List.drop (2 + (diff l).length) ((l.length : Int) :: ((diff l).length : Int) :: (diff l ++ pk l) ++ s) = pk l ++ s := by
      rw [← List.drop_drop]; simp
    rw [unp_main (n := l.length) (m := (diff l).length) (by simp) (by simp) (by simp) (by omega) hl hp hd (by rw [e1]; exact diff_nodup l), e1, e2, inds_right (by omega)]
    rw [if_neg (by simp; omega), if_neg (by simp)]
    unfold pk
    simp [packs_length]
    omega
/-- P8.2: every proper prefix -/
theorem unp_cut {l : List Int} (h : bad l = false) {k : Nat} (hk : k < (packB l).length) : unp ((packB l).take k) = ([], 0, 5) := by
  by_cases hk0 : k = 0
  · subst hk0
    unfold unp
    rw [if_pos (by simp)]
  by_cases h0 : l.length = 0
  · rw [packB_nil h h0] at hk
    simp at hk
    omega
  · have hl := good_len h
    have hd := diff_length l
    have hp := diff_pos h0
    rw [packB_main h h0, packMain_eq] at hk ⊢
    by_cases hk1 : k = 1
    · subst hk1
      unfold unp
      rw [List.take_succ_cons, List.take_zero]
      rw [if_neg (by simp), if_neg (by simp; omega), if_neg (by show ¬ (l.length : Int).toNat = 0; omega), if_pos (by simp)]
    obtain ⟨j, rfl⟩ : ∃ j, k = j + 2 := ⟨k - 2, by omega⟩
    rw [List.take_succ_cons, List.take_succ_cons]
    simp at hk
    have hnd : (List.take (diff l).length (List.take j (diff l ++ pk l))).Nodup := by
      rw [List.take_take, show List.take (min (diff l).length j) (diff l ++ pk l) = List.take (min (diff l).length j) (diff l) by rw [List.take_append_of_le_length (by omega)]]
      exact (diff_nodup l).sublist (List.take_sublist _ _)
    rw [unp_main (n := l.length) (m := (diff l).length) (by simp) (by simp) (by simp) (by omega) hl hp hd (by simpa using hnd)]
    by_cases hj : j < (diff l).length
    · rw [if_pos (by simp; omega)]
    · rw [if_neg (by simp; omega)]
      have e1 : (List.drop 2 ((l.length : Int) :: ((diff l).length : Int) :: List.take j (diff l ++ pk l))).take (diff l).length = diff l := by
        simp only [List.drop_succ_cons, List.drop_zero]
        rw [List.take_take, Nat.min_eq_left (by omega)]
        simp
      have e2 : List.drop (2 + (diff l).length) ((l.length : Int) :: ((diff l).length : Int) :: List.take j (diff l ++ pk l)) = (pk l).take (j - (diff l).length) := by
        rw [← List.drop_drop]
        simp only [List.drop_succ_cons, List.drop_zero]
        rw [List.drop_take, List.drop_left]
      rw [e1, e2, inds_cut (by omega) (by omega)]
      rfl

/-! ### what Unpack reads is what Pack writes -/
theorem unp_err {t : List Int} (h : (unp t).2.2 ≠ 0) : (unp t).1 = [] ∧ (unp t).2.1 = 0 := by
  unfold unp at h ⊢
  generalize inds (t.drop (2 + (t.getD 1 0).toNat)) ((t.drop 2).take (t.getD 1 0).toNat) (t.getD 0 0).toNat = r at *
  by_cases h1 : t.length = 0
  · rw [if_pos h1]; simp
  rw [if_neg h1] at h ⊢
  by_cases h2 : 64 < (t.getD 0 0).toNat
  · rw [if_pos h2]; simp
  rw [if_neg h2] at h ⊢
  by_cases h3 : (t.getD 0 0).toNat = 0
  · rw [if_pos h3] at h; simp at h
  rw [if_neg h3] at h ⊢
  by_cases h4 : t.length < 2
  · rw [if_pos h4]; simp
  rw [if_neg h4] at h ⊢
  by_cases h5 : (t.getD 1 0).toNat < 1 ∨ (t.getD 0 0).toNat < (t.getD 1 0).toNat
  · rw [if_pos h5]; simp
  rw [if_neg h5] at h ⊢
  by_cases h6 : ¬ ((t.drop 2).take (t.getD 1 0).toNat).Nodup
  · rw [if_pos h6]; simp
  rw [if_neg h6] at h ⊢
  by_cases h7 : t.length < 2 + (t.getD 1 0).toNat
  · rw [if_pos h7]; simp
  rw [if_neg h7] at h ⊢
  by_cases h8 : r.2 ≠ 0
  · rw [if_pos h8]; simp
  rw [if_neg h8] at h
  simp at h

theorem take_mem {p : List Int} {x s : Nat} (hx : x < s) (hx' : x < p.length) : p.getD x 0 ∈ p.take s := by
  rw [List.mem_take_iff_getElem]
  exact ⟨x, by omega, by rw [List.getD_eq_getElem?_getD, List.getElem?_eq_getElem hx']; rfl⟩
theorem take_fresh {p : List Int} {s : Nat} (hn : p.Nodup) (hs : s < p.length) : p.getD s 0 ∉ p.take s := by
  intro h
  rw [List.mem_take_iff_getElem] at h
  obtain ⟨y, hy, he⟩ := h
  rw [List.getD_eq_getElem?_getD, List.getElem?_eq_getElem hs] at he
  have := (List.pairwise_iff_getElem.1 hn) y s (by omega) hs (by omega)
  exact this (by simpa using he)
theorem idxOf_getD {p : List Int} {x : Nat} (hn : p.Nodup) (hx : x < p.length) : p.idxOf (p.getD x 0) = x := by
  rw [List.getD_eq_getElem?_getD, List.getElem?_eq_getElem hx]
  exact hn.idxOf_getElem x hx
theorem rd_back {u p l : List Int} {n w : Nat} (hp : p.Nodup) : ∀ (r i seen : Nat) (acc : List Int), rd u p p.length n w r i seen acc = (l, 0) → i + r = n → acc.length = i → seen ≤ p.length → diff acc = p.take seen →
    (i < n ∨ seen = p.length) → l.length = n ∧ l.take i = acc ∧ diff l = p ∧ ∀ j, i ≤ j → j < n → ∃ rest, dg u w j = some (p.idxOf (l.getD j 0), rest) ∧ (j + 1 = n → rest = 0) := by
  intro r
  induction r with
  | zero =>
    intro i seen acc h hi ha hs hd hl
    rw [rd_end] at h
    cases h
    refine ⟨by omega, List.take_of_length_le (by omega), ?_, fun j hj hj' => by omega⟩
    rw [hd, List.take_of_length_le (by omega)]
  | succ r ih =>
    intro i seen acc h hi ha hs hd hl
    cases hg : dg u w i with
    | none => rw [rd_short hg] at h; simp at h
    | some xr =>
      obtain ⟨x, rest⟩ := xr
      cases hwr : wrong p.length n i seen x rest with
      | true => rw [rd_wrong hg hwr] at h; simp at h
      | false =>
        rw [rd_go hg hwr] at h
        unfold wrong at hwr
        simp at hwr
        obtain ⟨⟨⟨h1, h2⟩, h3⟩, h4⟩ := hwr
        have hadd : diff (acc ++ [p.getD x 0]) = p.take (nxt seen x) ∧ nxt seen x ≤ p.length := by
          rw [diff_snoc, hd]
          unfold add
          by_cases hx : x = seen
          · subst hx
            have e : nxt x x = x + 1 := by simp [nxt]
            rw [if_neg (take_fresh hp h2), e, take_snoc h2]
            exact ⟨rfl, h2⟩
          · have e : nxt seen x = seen := by simp [nxt, hx]
            rw [e] at h1 ⊢
            rw [if_pos (take_mem h1 h2)]
            exact ⟨rfl, hs⟩
        obtain ⟨k1, k2, k3, k4⟩ := ih (i + 1) (nxt seen x) _ h (by omega) (by simp [ha]) hadd.2 hadd.1 (by omega)
        have ht : l.take i = acc := by
          have := congrArg (List.take i) k2
          rwa [List.take_take, Nat.min_eq_left (Nat.le_succ i), List.take_append_of_le_length (Nat.le_of_eq ha.symm), List.take_of_length_le (Nat.le_of_eq ha)] at this
        have hc : l.getD i 0 = p.getD x 0 := by
          have : (l.take (i + 1))[i]? = (acc ++ [p.getD x 0])[i]? := by rw [k2]
          rw [List.getElem?_take, if_pos (by omega), List.getElem?_append_right (by omega), ha, Nat.sub_self] at this
          exact getD_of this
        refine ⟨k1, ht, k3, fun j hj hj' => ?_⟩
        by_cases hji : j = i
        · subst hji
          refine ⟨rest, ?_, fun h => h4 (by omega)⟩
          rw [hc, idxOf_getD hp h2]
          exact hg
        · exact k4 j (by omega) hj'

theorem inds_back {u p l : List Int} {n : Nat} (hb : ∀ x ∈ u, 0 ≤ x ∧ x ≤ 255) (hp : p.Nodup) (hn : 1 ≤ n) (h : inds u p n = (l, 0)) :
    l.length = n ∧ diff l = p ∧ (n * width p.length + 7) / 8 ≤ u.length ∧ pk l = u.take ((n * width p.length + 7) / 8) := by
  obtain ⟨h1, _, h3, h4⟩ := rd_back hp n 0 0 [] h (by omega) rfl (Nat.zero_le _) (by simp [diff]) (.inl hn)
  subst h3
  subst h1
  refine ⟨rfl, rfl, ?_⟩
  unfold pk
  rcases width_cases (diff l).length with h0 | hw
  · rw [show width (diff l).length = 0 by unfold width; rw [if_pos h0]]
    simp [packs]
  · generalize hwe : width (diff l).length = w at *
    have key : ∀ j, j < (l.length * w + 7) / 8 → ∃ b : Nat, u[j]? = some (b : Int) ∧ byt w (ix l) l.length j = b := by
      intro j hj
      have hex : ∃ i, i < l.length ∧ i * w / 8 = j ∧ (l.length * w < 8 * j + 8 → (l.length - 1) * w / 8 = j ∧ l.length * w - 8 * j = (l.length - 1) * w % 8 + w) := by
        rcases hw with rfl | rfl | rfl | rfl
        · exact ⟨j * 8, by omega, by omega, by omega⟩
        · exact ⟨j * 4, by omega, by omega, by omega⟩
        · exact ⟨j * 2, by omega, by omega, by omega⟩
        · exact ⟨j, by omega, by omega, by omega⟩
      obtain ⟨i, hi, hij, hend⟩ := hex
      have hw0 : w ≠ 0 := by rcases hw with rfl | rfl | rfl | rfl <;> decide
      obtain ⟨c, hc⟩ : ∃ c, u[j]? = some c := by
        obtain ⟨rest, hg, _⟩ := h4 i (Nat.zero_le _) hi
        unfold dg at hg
        rw [if_neg hw0, hij] at hg
        cases hu : u[j]? with
        | none => rw [hu] at hg; cases hg
        | some c => exact ⟨c, rfl⟩
      have hcb := hb c (List.mem_of_getElem? hc)
      refine ⟨c.toNat, by rw [hc]; congr 1; omega, ?_⟩
      have hdig : ∀ k, k < l.length → k * w / 8 = j → ix l k = c.toNat / 2 ^ (k * w % 8) % 2 ^ w ∧ (k + 1 = l.length → c.toNat / 2 ^ (k * w % 8) / 2 ^ w = 0) := by
        intro k hk hkj
        obtain ⟨rest, hg, hr⟩ := h4 k (Nat.zero_le _) hk
        unfold dg at hg
        rw [if_neg hw0, hkj, hc] at hg
        simp at hg
        obtain ⟨g1, g2⟩ := hg
        exact ⟨g1.symm, fun h => by rw [g2]; exact hr h⟩
      rw [byt_of w (ix l) hw c.toNat j l.length (fun k hk hkj => (hdig k hk hkj).1)]
      apply Nat.mod_eq_of_lt
      by_cases hfull : l.length * w < 8 * j + 8
      · obtain ⟨e1, e2⟩ := hend hfull
        have h0 := (hdig (l.length - 1) (by omega) e1).2 (by omega)
        rw [Nat.div_div_eq_div_mul, ← Nat.pow_add] at h0
        rw [Nat.min_eq_right (by omega), e2]
        rcases Nat.div_eq_zero_iff.1 h0 with h | h
        · have := Nat.two_pow_pos ((l.length - 1) * w % 8 + w); omega
        · exact h
      · rw [Nat.min_eq_left (by omega)]
        omega
    have hlen : (l.length * w + 7) / 8 ≤ u.length := by
      by_cases hz : (l.length * w + 7) / 8 = 0
      · omega
      · obtain ⟨b, hb, _⟩ := key ((l.length * w + 7) / 8 - 1) (by omega)
        have := (List.getElem?_eq_some_iff.1 hb).1
        omega
    refine ⟨hlen, ?_⟩
    apply List.ext_getElem?
    intro j
    by_cases hj : j < (l.length * w + 7) / 8
    · obtain ⟨b, hb, he⟩ := key j hj
      rw [packs_at hj, he, List.getElem?_take, if_pos hj, hb]
    · rw [List.getElem?_eq_none (by rw [packs_length]; omega), List.getElem?_eq_none (by rw [List.length_take]; omega)]

/-- P8.6, the other way -/
theorem unp_ok {t : List Int} (hb : ∀ x ∈ t, 0 ≤ x ∧ x ≤ 255) (h : (unp t).2.2 = 0) :
    bad (unp t).1 = false ∧ ∃ n : Nat, (unp t).2.1 = (n : Int) ∧ 1 ≤ n ∧ n ≤ t.length ∧ packB (unp t).1 = t.take n := by
  by_cases h1 : t.length = 0
  · unfold unp at h; rw [if_pos h1] at h; simp at h
  by_cases h2 : 64 < (t.getD 0 0).toNat
  · unfold unp at h; rw [if_neg h1, if_pos h2] at h; simp at h
  have hx0 : t = t.getD 0 0 :: t.drop 1 := by
    cases t with
    | nil => simp at h1
    | cons x r => simp
  have hg0 : 0 ≤ t.getD 0 0 ∧ t.getD 0 0 ≤ 255 := hb _ (by rw [hx0]; simp)
  by_cases h3 : (t.getD 0 0).toNat = 0
  · have e : unp t = ([], 1, 0) := by unfold unp; rw [if_neg h1, if_neg h2, if_pos h3]
    rw [e]
    refine ⟨by simp [bad], 1, rfl, by omega, by omega, ?_⟩
    have h0 : t.getD 0 0 = 0 := by omega
    rw [h0] at hx0
    rw [hx0]
    simp [packB, bad]
  by_cases h4 : t.length < 2
  · unfold unp at h; rw [if_neg h1, if_neg h2, if_neg h3, if_pos h4] at h; simp at h
  by_cases h5 : (t.getD 1 0).toNat < 1 ∨ (t.getD 0 0).toNat < (t.getD 1 0).toNat
  · unfold unp at h; rw [if_neg h1, if_neg h2, if_neg h3, if_neg h4, if_pos h5] at h; simp at h
  by_cases h6 : ¬ ((t.drop 2).take (t.getD 1 0).toNat).Nodup
  · unfold unp at h; rw [if_neg h1, if_neg h2, if_neg h3, if_neg h4, if_neg h5, if_pos h6] at h; simp at h
  have h6' : ((t.drop 2).take (t.getD 1 0).toNat).Nodup := by simpa using h6
  have hm := unp_main (t := t) (by omega) rfl rfl (by omega) (by omega) (by omega) (by omega) h6'
  by_cases h7 : t.length < 2 + (t.getD 1 0).toNat
  · rw [hm, if_pos h7] at h; simp at h
  rw [if_neg h7] at hm
  have hx : t = t.getD 0 0 :: t.getD 1 0 :: t.drop 2 := by
    match t, h4 with
    | x :: y :: r, _ => simp
    | [x], h4 => simp at h4
    | [], h4 => simp at h4
  have hg1 : 0 ≤ t.getD 1 0 ∧ t.getD 1 0 ≤ 255 := hb _ (by rw [hx]; simp)
  generalize hn : (t.getD 0 0).toNat = n at *
  generalize hmm : (t.getD 1 0).toNat = m at *
  generalize hp : (t.drop 2).take m = p at *
  have hpl : p.length = m := by rw [← hp, List.length_take, List.length_drop]; omega
  generalize hi : inds (t.drop (2 + m)) p n = r at *
  obtain ⟨l, e⟩ := r
  by_cases h8 : e ≠ 0
  · rw [hm, if_pos h8] at h; exact absurd h h8
  rw [if_neg h8] at hm
  have he : e = 0 := by simpa using h8
  subst he
  obtain ⟨k1, k2, k3, k4⟩ := inds_back (fun x hx => hb x (List.mem_of_mem_drop hx)) h6' (by omega) hi
  rw [hm]
  show bad l = false ∧ ∃ k : Nat, ((2 + m + (n * width m + 7) / 8 : Nat) : Int) = (k : Int) ∧ 1 ≤ k ∧ k ≤ t.length ∧ packB l = t.take k
  have hbad : bad l = false := by
    unfold bad
    have hall : l.all cell = true := by
      rw [List.all_eq_true]
      intro c hc
      have h9 : c ∈ p := by rw [← k2, mem_diff]; exact hc
      rw [← hp] at h9
      have := hb c (List.mem_of_mem_drop (List.mem_of_mem_take h9))
      simp [cell]; omega
    rw [hall]
    simp
    omega
  rw [hpl] at k3 k4
  rw [List.length_drop] at k3
  refine ⟨hbad, _, rfl, by omega, by omega, ?_⟩
  rw [packB_main hbad (by omega), packMain_eq, k4, k2, k1, hpl]
  have e0 : (n : Int) = t.getD 0 0 := by omega
  have e1 : (m : Int) = t.getD 1 0 := by omega
  have e2 : t.drop (2 + m) = (t.drop 2).drop m := by rw [List.drop_drop]
  have e3 : t.take (2 + m + (n * width m + 7) / 8) = t.getD 0 0 :: t.getD 1 0 :: (t.drop 2).take (m + (n * width m + 7) / 8) := by
    rw [show 2 + m + (n * width m + 7) / 8 = (m + (n * width m + 7) / 8) + 1 + 1 by omega]
    conv => lhs; rw [hx]
    rw [List.take_succ_cons, List.take_succ_cons]
  rw [e0, e1, e2, e3, ← hp, List.take_add]

/-! ### Delta and Patch -/
theorem packB_nonempty {l : List Int} (h : bad l = false) : 1 ≤ (packB l).length := by
  by_cases h0 : l.length = 0
  · rw [packB_nil h h0]; simp
  · rw [packB_main h h0, packMain_eq]; simp
theorem bad_bytes {l : List Int} (h : bad l = false) : ∀ x ∈ l, 0 ≤ x ∧ x ≤ 255 := by
  intro x hx
  have := List.all_eq_true.1 (good_cells h) x hx
  simpa [cell] using this
theorem brick_len {l : List Int} (h : brick l = true) : l.length = 64 := by unfold brick at h; simp at h; exact h.1
theorem brick_cells {l : List Int} (h : brick l = true) : l.all cell = true := by unfold brick at h; simp at h; simpa using h.2
theorem chg_bad {old new : List Int} (h : brick new = true) : bad (chg old new 64) = false := by
  have := chg_good (old := old) h
  cases hb : bad (chg old new 64) with
  | false => rfl
  | true => rw [packE_bad hb] at this; simp at this
theorem chg_prefix (old new : List Int) (k : Nat) : ∀ d, ∃ q, chg old new (k + d) = chg old new k ++ q := by
  intro d
  induction d with
  | zero => exact ⟨[], by simp⟩
  | succ d ih =>
    obtain ⟨q, hq⟩ := ih
    by_cases h : old.getD (k + d) 0 = new.getD (k + d) 0
    · exact ⟨q, by rw [← Nat.add_assoc, chg_same h, hq]⟩
    · exact ⟨q ++ [new.getD (k + d) 0], by rw [← Nat.add_assoc, chg_diff h, hq, List.append_assoc]⟩
theorem bit_delta {old new s : List Int} {i : Nat} (hi : i < 64) : bit (bytes 1 (dbit old new) 64 8 ++ s) i = dbit old new i := by
  unfold bit
  have h := (byt_digit 1 (dbit old new) (.inl rfl) 64 (fun j _ => dbit_lt old new j) i hi).1
  rw [Nat.mul_one] at h
  have hg : (bytes 1 (dbit old new) 64 8 ++ s).getD (i / 8) 0 = (byt 1 (dbit old new) 64 (i / 8) : Int) := by
    apply getD_of
    rw [List.getElem?_append_left (by rw [bytes_length]; omega)]
    have : i / 8 < 8 := by omega
    simp [bytes, this]
  rw [hg]
  exact h
theorem st_delta {old new s : List Int} (hn : new.length = 64) : ∀ i, i ≤ 64 → st old (bytes 1 (dbit old new) 64 8 ++ s) (chg old new 64) i = some ((chg old new i).length, new.take i) := by
  intro i
  induction i with
  | zero => intro _; simp [st, chg]
  | succ i ih =>
    intro hi
    have h0 := ih (by omega)
    have hb := bit_delta (old := old) (new := new) (s := s) (i := i) (by omega)
    by_cases h : old.getD i 0 = new.getD i 0
    · have hd : dbit old new i = 0 := by unfold dbit; rw [if_pos h]
      rw [st_keep h0 (by rw [hb, hd]), chg_same h, h, take_snoc (by omega)]
    · have hd : dbit old new i = 1 := by unfold dbit; rw [if_neg h]
      obtain ⟨q, hq⟩ := chg_prefix old new (i + 1) (64 - (i + 1))
      rw [show i + 1 + (64 - (i + 1)) = 64 by omega] at hq
      have hc : (chg old new 64)[(chg old new i).length]? = some (new.getD i 0) := by
        rw [hq, chg_diff h, List.append_assoc, List.getElem?_append_right (by omega)]
        simp
      rw [st_take h0 (by rw [hb, hd]; decide) hc (fun e => h e.symm), take_snoc (by omega), chg_diff h]
      simp
/-- P8.6 for deltas, one way -/
theorem pat_dltB {old new : List Int} (h : brick old = true) (h' : brick new = true) : pat old (dltB old new) = (new, 0) := by
  rw [dltB_good h h']
  have hl : (bytes 1 (dbit old new) 64 8).length = 8 := bytes_length _ _ _ _
  have hd : (bytes 1 (dbit old new) 64 8 ++ packB (chg old new 64)).drop 8 = packB (chg old new 64) := List.drop_left' hl
  have hu := unp_packB (chg_bad (old := old) h') []
  rw [List.append_nil] at hu
  unfold pat
  rw [if_neg (by rw [h]; decide), if_neg (by rw [List.length_append]; omega), hd, hu]
  rw [if_neg (by simp)]
  have hn := brick_len h'
  refine (pfin_ok ?_ (st_delta hn 64 (Nat.le_refl _)) rfl).trans ?_
  · show ((packB (chg old new 64)).length : Int) = _
    rw [List.length_append]; omega
  · rw [List.take_of_length_le (by omega)]

theorem chg_congr {old new new' : List Int} : ∀ i, (∀ j, j < i → new.getD j 0 = new'.getD j 0) → chg old new i = chg old new' i := by
  intro i
  induction i with
  | zero => intro _; rfl
  | succ i ih =>
    intro h
    unfold chg
    rw [ih (fun j hj => h j (by omega)), h i (by omega)]
theorem getD_app {l : List Int} {c : Int} {j : Nat} (h : j < l.length) : (l ++ [c]).getD j 0 = l.getD j 0 := by
  rw [List.getD_eq_getElem?_getD, List.getD_eq_getElem?_getD, List.getElem?_append_left h]
theorem getD_end {l : List Int} {c : Int} {j : Nat} (h : l.length = j) : (l ++ [c]).getD j 0 = c := by
  apply getD_of; rw [List.getElem?_append_right (by omega), h]; simp
theorem bit_lt (t : List Int) (i : Nat) : bit t i < 2 := Nat.mod_lt _ (by decide)
theorem st_back {old t cells : List Int} : ∀ (i k : Nat) (out : List Int), i ≤ old.length → st old t cells i = some (k, out) →
    chg old out i = cells.take k ∧ k ≤ cells.length ∧ (∀ j, j < i → dbit old out j = bit t j) ∧ ∀ c ∈ out, c ∈ old ∨ c ∈ cells := by
  intro i
  induction i with
  | zero => intro k out _ h; simp [st] at h; obtain ⟨rfl, rfl⟩ := h; simp [chg]
  | succ i ih =>
    intro k out hi h
    unfold st at h
    cases hs : st old t cells i with
    | none => rw [hs] at h; cases h
    | some s =>
      obtain ⟨k', out'⟩ := s
      rw [hs] at h
      obtain ⟨h1, h2, h3, h4⟩ := ih k' out' (by omega) hs
      obtain ⟨hl, _⟩ := st_length i k' out' hs
      simp only [] at h
      have hold : old.getD i 0 ∈ old := by
        rw [List.getD_eq_getElem?_getD, List.getElem?_eq_getElem (by omega)]; exact List.getElem_mem _
      have go (c : Int) (m : c ∈ old ∨ c ∈ cells) (hbit : (if old.getD i 0 = c then 0 else 1) = bit t i) :
          chg old (out' ++ [c]) i = cells.take k' ∧ (∀ j, j < i + 1 → dbit old (out' ++ [c]) j = bit t j) ∧ ∀ x ∈ out' ++ [c], x ∈ old ∨ x ∈ cells := by
        refine ⟨?_, ?_, ?_⟩
        · rw [← h1]; exact chg_congr i (fun j hj => getD_app (by omega))
        · intro j hj
          by_cases hji : j = i
          · subst hji; unfold dbit; rw [getD_end hl]; exact hbit
          · have := h3 j (by omega)
            unfold dbit at this ⊢
            rw [getD_app (by omega)]; exact this
        · intro x hx
          rcases List.mem_append.1 hx with hx | hx
          · exact h4 x hx
          · simp at hx; subst hx; exact m
      by_cases hb : bit t i = 0
      · rw [if_pos hb] at h
        simp only [Option.some.injEq, Prod.mk.injEq] at h
        obtain ⟨rfl, rfl⟩ := h
        obtain ⟨g1, g2, g3⟩ := go (old.getD i 0) (.inl hold) (by rw [if_pos rfl, hb])
        exact ⟨by rw [chg_same (by rw [getD_end hl]), g1], h2, g2, g3⟩
      · rw [if_neg hb] at h
        cases hc : cells[k']? with
        | none => rw [hc] at h; cases h
        | some c =>
          rw [hc] at h
          simp only [] at h
          by_cases he : c = old.getD i 0
          · rw [if_pos he] at h; cases h
          · rw [if_neg he] at h
            simp only [Option.some.injEq, Prod.mk.injEq] at h
            obtain ⟨rfl, rfl⟩ := h
            obtain ⟨g1, g2, g3⟩ := go c (.inr (List.mem_of_getElem? hc)) (by
              rw [if_neg (fun e => he e.symm)]
              have := bit_lt t i
              omega)
            have hk := (List.getElem?_eq_some_iff.1 hc).1
            refine ⟨?_, by omega, g2, g3⟩
            rw [chg_diff (by rw [getD_end hl]; exact fun e => he e.symm), g1, getD_end hl, List.take_add_one, hc]
            rfl
theorem bytes_of {old new t : List Int} (hb : ∀ x ∈ t, 0 ≤ x ∧ x ≤ 255) (ht : 8 ≤ t.length) (h : ∀ j, j < 64 → dbit old new j = bit t j) : bytes 1 (dbit old new) 64 8 = t.take 8 := by
  apply List.ext_getElem?
  intro j
  by_cases hj : j < 8
  · have hjl : j < t.length := by omega
    obtain ⟨c, hc⟩ : ∃ c, t[j]? = some c := ⟨_, List.getElem?_eq_getElem hjl⟩
    have hcb := hb c (List.mem_of_getElem? hc)
    rw [List.getElem?_take, if_pos hj, hc]
    have := byt_of 1 (dbit old new) (.inl rfl) c.toNat j 64 (by
      intro i hi hij
      rw [h i hi]
      rw [Nat.mul_one] at hij ⊢
      unfold bit
      rw [hij, getD_of hc])
    rw [show min 8 (64 * 1 - 8 * j) = 8 by omega, Nat.mod_eq_of_lt (by omega)] at this
    simp [bytes, hj, this]
    omega
  · rw [List.getElem?_eq_none (by rw [bytes_length]; omega), List.getElem?_eq_none (by rw [List.length_take]; omega)]

/-- P8.6 for deltas, the other way -/
theorem pat_ok {old t : List Int} (hb : ∀ x ∈ t, 0 ≤ x ∧ x ≤ 255) (h : (pat old t).2 = 0) :
    dltE old (pat old t).1 = 0 ∧ dltB old (pat old t).1 = t := by
  cases hbr : brick old with
  | false => unfold pat at h; rw [if_pos hbr] at h; simp at h
  | true =>
    unfold pat at h ⊢
    rw [if_neg (by rw [hbr]; decide)] at h ⊢
    by_cases h1 : t.length < 8
    · rw [if_pos h1] at h; simp at h
    rw [if_neg h1] at h ⊢
    by_cases h2 : (unp (t.drop 8)).2.2 ≠ 0
    · rw [if_pos h2] at h; exact absurd h h2
    rw [if_neg h2] at h ⊢
    obtain ⟨k1, n, k2, k3, k4, k5⟩ := unp_ok (fun x hx => hb x (List.mem_of_mem_drop hx)) (by simpa using h2 : (unp (t.drop 8)).2.2 = 0)
    generalize (unp (t.drop 8)).1 = cells at *
    generalize (unp (t.drop 8)).2.1 = m at *
    subst k2
    rw [List.length_drop] at k4
    unfold pfin at h ⊢
    by_cases h3 : (n : Int) ≠ (t.length : Int) - 8
    · rw [if_pos h3] at h; simp at h
    rw [if_neg h3] at h ⊢
    have hol := brick_len hbr
    cases hs : st old t cells 64 with
    | none => rw [hs] at h; simp at h
    | some s =>
      obtain ⟨k, out⟩ := s
      rw [hs] at h
      simp only [] at h ⊢
      by_cases h4 : k ≠ cells.length
      · rw [if_pos h4] at h; simp at h
      rw [if_neg h4]
      have hk : k = cells.length := by simpa using h4
      subst hk
      obtain ⟨g1, _, g3, g4⟩ := st_back 64 _ out (by omega) hs
      obtain ⟨hl, _⟩ := st_length 64 _ out hs
      have hbo : brick out = true := by
        unfold brick
        rw [hl]
        simp only [decide_true, Bool.true_and]
        rw [List.all_eq_true]
        intro c hc
        rcases g4 c hc with h | h
        · exact List.all_eq_true.1 (brick_cells hbr) c h
        · exact List.all_eq_true.1 (good_cells k1) c h
      show dltE old out = 0 ∧ dltB old out = t
      refine ⟨dltE_good hbr hbo, ?_⟩
      rw [dltB_good hbr hbo, g1, List.take_of_length_le (Nat.le_refl _), k5, bytes_of hb (by omega) g3, List.take_of_length_le (l := t.drop 8) (by rw [List.length_drop]; omega), List.take_append_drop]
theorem pat_err {old t : List Int} (h : (pat old t).2 ≠ 0) : (pat old t).1 = [] := by
  unfold pat at h ⊢
  split
  · rfl
  · rename_i h1
    rw [if_neg h1] at h
    split
    · rfl
    · rename_i h2
      rw [if_neg h2] at h
      split
      · rfl
      · rename_i h3
        rw [if_neg h3] at h
        unfold pfin at h ⊢
        split
        · rfl
        · rename_i h4
          rw [if_neg h4] at h
          cases hs : st old t (unp (t.drop 8)).1 64 with
          | none => rfl
          | some s =>
            obtain ⟨k, out⟩ := s
            rw [hs] at h
            simp only [] at h ⊢
            split
            · rfl
            · rename_i h5
              rw [if_neg h5] at h
              simp at h
theorem dltE_ok {old new : List Int} (h : dltE old new = 0) : brick old = true ∧ brick new = true := by
  unfold dltE at h
  split at h
  · rename_i hh; simpa using hh
  · simp at h

/-! ### the lengths -/
theorem foldl_add_in (l : List Int) : ∀ p : List Int, (∀ x ∈ l, x ∈ p) → l.foldl add p = p := by
  induction l with
  | nil => intro p _; rfl
  | cons x l ih =>
    intro p h
    rw [List.foldl_cons]
    have hx : add p x = p := by unfold add; rw [if_pos (h x (by simp))]
    rw [hx]
    exact ih p (fun y hy => h y (by simp [hy]))
theorem packB_length {l : List Int} (h : bad l = false) (h0 : l.length ≠ 0) : (packB l).length = 2 + (diff l).length + (l.length * width (diff l).length + 7) / 8 := by
  rw [packB_main h h0, packMain_eq]
  unfold pk
  simp [packs_length]
  omega
theorem encB_le (l : List Int) (h : encE l = 0) : (encB l).length ≤ 130 := by
  unfold encE at h
  unfold encB
  by_cases h1 : l.length ≠ 64
  · rw [if_pos h1]; simp
  · rw [if_neg h1] at h ⊢
    cases hb : bad l with
    | true => rw [packE_bad hb] at h; simp at h
    | false =>
      rw [packB_length hb (by omega)]
      have h2 := diff_length l
      have h3 : width (diff l).length ≤ 8 := by unfold width; repeat (split <;> try omega)
      have h4 : l.length * width (diff l).length ≤ l.length * 8 := Nat.mul_le_mul_left _ h3
      omega
/-- all cells of one material, but one of them of another -/
def two (o u : Int) (k : Nat) : List Int := (List.replicate 64 o).set k u
theorem two_length (o u : Int) (k : Nat) : (two o u k).length = 64 := by simp [two]
theorem two_same (o : Int) (k : Nat) : two o o k = List.replicate 64 o := by
  unfold two
  apply List.ext_getElem?
  intro i
  rw [List.getElem?_set]
  split
  · rename_i h; subst h
    split
    · rename_i h'; rw [List.length_replicate] at h'; rw [List.getElem?_replicate, if_pos h']
    · rename_i h'; rw [List.length_replicate] at h'; rw [List.getElem?_eq_none]; simp; omega
  · rfl
theorem two_mem {o u x : Int} {k : Nat} (h : x ∈ two o u k) : x = o ∨ x = u := by
  unfold two at h
  rcases List.mem_or_eq_of_mem_set h with h | h
  · exact .inl (List.eq_of_mem_replicate h)
  · exact .inr h
theorem two_good {o u : Int} {k : Nat} (h1 : 0 ≤ o) (h2 : o ≤ 255) (h3 : 0 ≤ u) (h4 : u ≤ 255) : bad (two o u k) = false := by
  unfold bad
  have : (two o u k).all cell = true := by
    rw [List.all_eq_true]
    intro x hx
    rcases two_mem hx with rfl | rfl <;> simp [cell] <;> omega
  rw [this, two_length]
  rfl
theorem foldl_add_rep (o : Int) (n : Nat) (p : List Int) (h : o ∈ p) : (List.replicate n o).foldl add p = p :=
  foldl_add_in _ p (fun x hx => by rw [List.eq_of_mem_replicate hx]; exact h)
theorem diff_rep (o : Int) (n : Nat) (h : 0 < n) : diff (List.replicate n o) = [o] := by
  obtain ⟨m, rfl⟩ : ∃ m, n = m + 1 := ⟨n - 1, by omega⟩
  rw [List.replicate_succ]
  unfold diff
  rw [List.foldl_cons]
  exact foldl_add_rep o m _ (by simp [add])
theorem diff_two {o u : Int} {k : Nat} (hk : k < 64) (hne : o ≠ u) : (diff (two o u k)).length = 2 := by
  have e : two o u k = List.replicate k o ++ u :: List.replicate (63 - k) o := by
    unfold two
    rw [List.set_eq_take_append_cons_drop, if_pos (by simpa using hk), List.take_replicate, List.drop_replicate]
    rw [Nat.min_eq_left (by omega), show 64 - (k + 1) = 63 - k by omega]
  rw [e]
  unfold diff
  rw [List.foldl_append, List.foldl_cons]
  by_cases h0 : k = 0
  · subst h0
    show (List.foldl add (add [] u) (List.replicate (63 - 0) o)).length = 2
    rw [show 63 - 0 = 62 + 1 from rfl, List.replicate_succ, List.foldl_cons, foldl_add_rep _ _ _ (add_mem _ _)]
    simp [add, hne]
  · have h1 := diff_rep o k (by omega)
    unfold diff at h1
    rw [h1, foldl_add_rep o (63 - k) _ (add_sub _ _ _ (by simp))]
    have : u ≠ o := fun e => hne e.symm
    simp [add, this]
theorem encE_two {o u : Int} {k : Nat} (h1 : 0 ≤ o) (h2 : o ≤ 255) (h3 : 0 ≤ u) (h4 : u ≤ 255) : encE (two o u k) = 0 := by
  unfold encE
  rw [if_neg (by rw [two_length]; decide)]
  exact packE_good (two_good h1 h2 h3 h4)
theorem encB_two {o u : Int} {k : Nat} (hk : k < 64) (h1 : 0 ≤ o) (h2 : o ≤ 255) (h3 : 0 ≤ u) (h4 : u ≤ 255) : (encB (two o u k)).length = if o = u then 3 else 12 := by
  unfold encB
  rw [if_neg (by rw [two_length]; decide), packB_length (two_good h1 h2 h3 h4) (by rw [two_length]; decide), two_length]
  split
  · rename_i h; subst h; rw [two_same, diff_rep o 64 (by decide)]; simp [width]
  · rename_i h; rw [diff_two hk h]; simp [width]
theorem encB_one {o : Int} (h1 : 0 ≤ o) (h2 : o ≤ 255) : (encB (List.replicate 64 o)).length = 3 := by
  have := encB_two (k := 0) (by decide) h1 h2 h1 h2
  rwa [two_same, if_pos rfl] at this
theorem encE_one {o : Int} (h1 : 0 ≤ o) (h2 : o ≤ 255) : encE (List.replicate 64 o) = 0 := by
  have := encE_two (k := 0) h1 h2 h1 h2
  rwa [two_same] at this
theorem brick_one {o : Int} (h1 : 0 ≤ o) (h2 : o ≤ 255) : brick (List.replicate 64 o) = true := by
  have := good_cells (two_good (k := 0) h1 h2 h1 h2)
  rw [two_same] at this
  unfold brick
  rw [this]
  simp
theorem chg_self (l : List Int) : ∀ k, chg l l k = [] := by
  intro k
  induction k with
  | zero => rfl
  | succ k ih => rw [chg_same rfl, ih]
theorem dltB_self {l : List Int} (h : brick l = true) : (dltB l l).length = 9 := by
  rw [dltB_good h h, chg_self, List.length_append, bytes_length]
  rfl

end Go.Proofs.Ytcgieiocbjkdlaa.Pal
