/- The plain functions of the palette's layer: no program in sight. -/
namespace Go.Proofs.Ytcgieiocbjkdlaa.Pal

/-- the different cells, in the order in which they occur first -/
def add (p : List Int) (c : Int) : List Int := if c ∈ p then p else p ++ [c]
def diff (l : List Int) : List Int := l.foldl add []

theorem diff_snoc (l : List Int) (c : Int) : diff (l ++ [c]) = add (diff l) c := by simp [diff]
theorem diff_take (l : List Int) (k : Nat) (x : Int) (h : l[k]? = some x) : diff (l.take (k + 1)) = add (diff (l.take k)) x := by
  rw [List.take_add_one, h]; exact diff_snoc _ _

theorem add_length (p : List Int) (c : Int) : (add p c).length ≤ p.length + 1 := by
  unfold add; split <;> simp
theorem add_mem (p : List Int) (c : Int) : c ∈ add p c := by
  unfold add; split <;> simp_all
theorem add_sub (p : List Int) (c x : Int) (h : x ∈ p) : x ∈ add p c := by
  unfold add; split <;> simp_all
theorem diff_length_take (l : List Int) (k : Nat) : (diff (l.take k)).length ≤ k := by
  induction k with
  | zero => simp [diff]
  | succ k ih =>
    cases h : l[k]? with
    | none =>
      rw [List.take_add_one, h]; simp; omega
    | some x =>
      rw [diff_take l k x h]
      have := add_length (diff (l.take k)) x
      omega
theorem diff_length (l : List Int) : (diff l).length ≤ l.length := by
  have := diff_length_take l l.length
  simpa using this

/-- the first place of a number in a list, or -1 -/
def find (xs : List Int) (c : Int) : Int := if c ∈ xs then ((xs.idxOf c : Nat) : Int) else -1
theorem find_pos {xs : List Int} {c : Int} (h : c ∈ xs) : find xs c = ((xs.idxOf c : Nat) : Int) := if_pos h
theorem find_neg {xs : List Int} {c : Int} (h : c ∉ xs) : find xs c = -1 := if_neg h

/-- the bits of an index -/
def width (m : Nat) : Nat := if m ≤ 1 then 0 else if m ≤ 2 then 1 else if m ≤ 4 then 2 else if m ≤ 16 then 4 else 8

/-- byte j of the first k indices with w bits each -/
def byt (w : Nat) (f : Nat → Nat) : Nat → Nat → Nat
  | 0, _ => 0
  | k + 1, j => byt w f k j + if k * w / 8 = j then f k * 2 ^ (k * w % 8) else 0
def packs (w : Nat) (f : Nat → Nat) (n : Nat) : List Int := (List.range ((n * w + 7) / 8)).map fun j => (byt w f n j : Int)

def Wd (w : Nat) : Prop := w = 1 ∨ w = 2 ∨ w = 4 ∨ w = 8

/-- what has not been reached is 0; what has been reached is below its bits -/
theorem byt_lt (w : Nat) (f : Nat → Nat) (hw : Wd w) : ∀ k, (∀ i, i < k → f i < 2 ^ w) → ∀ j,
    (k * w ≤ 8 * j → byt w f k j = 0) ∧ (8 * j < k * w → k * w ≤ 8 * j + 8 → byt w f k j < 2 ^ (k * w - 8 * j)) ∧ byt w f k j < 256 := by
  intro k
  induction k with
  | zero => intro _ j; simp [byt]
  | succ k ih =>
    intro hf j
    obtain ⟨h1, h2, h3⟩ := ih (fun i hi => hf i (by omega)) j
    have hk := hf k (by omega)
    unfold byt
    rcases hw with rfl | rfl | rfl | rfl
    · by_cases hj : k * 1 / 8 = j
      · rw [if_pos hj]
        have : k * 1 % 8 = 0 ∨ k * 1 % 8 = 1 ∨ k * 1 % 8 = 2 ∨ k * 1 % 8 = 3 ∨ k * 1 % 8 = 4 ∨ k * 1 % 8 = 5 ∨ k * 1 % 8 = 6 ∨ k * 1 % 8 = 7 := by omega
        by_cases h0 : k * 1 ≤ 8 * j
        · have hb := h1 h0
          have hs : k * 1 % 8 = 0 := by omega
          have he : (k + 1) * 1 - 8 * j = 1 := by omega
          rw [hb, hs, he]; simp at hk ⊢; omega
        · have hb := h2 (by omega) (by omega)
          have he : (k + 1) * 1 - 8 * j = k * 1 % 8 + 1 := by omega
          have he' : k * 1 - 8 * j = k * 1 % 8 := by omega
          rw [he] ; rw [he'] at hb
          rcases this with hs | hs | hs | hs | hs | hs | hs | hs <;> rw [hs] at hb ⊢ <;> simp at hk hb ⊢ <;> omega
      · rw [if_neg hj]
        refine ⟨fun h => by simpa using h1 (by omega), fun ha hb => ?_, by simpa using h3⟩
        have := h2 (by omega) (by omega)
        omega
    · by_cases hj : k * 2 / 8 = j
      · rw [if_pos hj]
        have : k * 2 % 8 = 0 ∨ k * 2 % 8 = 2 ∨ k * 2 % 8 = 4 ∨ k * 2 % 8 = 6 := by omega
        by_cases h0 : k * 2 ≤ 8 * j
        · have hb := h1 h0
          have hs : k * 2 % 8 = 0 := by omega
          have he : (k + 1) * 2 - 8 * j = 2 := by omega
          rw [hb, hs, he]; simp at hk ⊢; omega
        · have hb := h2 (by omega) (by omega)
          have he : (k + 1) * 2 - 8 * j = k * 2 % 8 + 2 := by omega
          have he' : k * 2 - 8 * j = k * 2 % 8 := by omega
          rw [he] ; rw [he'] at hb
          rcases this with hs | hs | hs | hs <;> rw [hs] at hb ⊢ <;> simp at hk hb ⊢ <;> omega
      · rw [if_neg hj]
        refine ⟨fun h => by simpa using h1 (by omega), fun ha hb => ?_, by simpa using h3⟩
        omega
    · by_cases hj : k * 4 / 8 = j
      · rw [if_pos hj]
        have : k * 4 % 8 = 0 ∨ k * 4 % 8 = 4 := by omega
        by_cases h0 : k * 4 ≤ 8 * j
        · have hb := h1 h0
          have hs : k * 4 % 8 = 0 := by omega
          have he : (k + 1) * 4 - 8 * j = 4 := by omega
          rw [hb, hs, he]; simp at hk ⊢; omega
        · have hb := h2 (by omega) (by omega)
          have he : (k + 1) * 4 - 8 * j = k * 4 % 8 + 4 := by omega
          have he' : k * 4 - 8 * j = k * 4 % 8 := by omega
          rw [he] ; rw [he'] at hb
          rcases this with hs | hs <;> rw [hs] at hb ⊢ <;> simp at hk hb ⊢ <;> omega
      · rw [if_neg hj]
        refine ⟨fun h => by simpa using h1 (by omega), fun ha hb => ?_, by simpa using h3⟩
        omega
    · by_cases hj : k * 8 / 8 = j
      · rw [if_pos hj]
        have hs : k * 8 % 8 = 0 := by omega
        have hb := h1 (by omega)
        have he : (k + 1) * 8 - 8 * j = 8 := by omega
        rw [hb, hs, he]; simp at hk ⊢; omega
      · rw [if_neg hj]
        refine ⟨fun h => by simpa using h1 (by omega), fun ha hb => ?_, by simpa using h3⟩
        omega

def cell (c : Int) : Bool := decide (0 ≤ c) && decide (c ≤ 255)

/-- the first m bytes of the first k indices -/
def bytes (w : Nat) (f : Nat → Nat) (k m : Nat) : List Int := (List.range m).map fun j => (byt w f k j : Int)
theorem packs_eq (w : Nat) (f : Nat → Nat) (n : Nat) : packs w f n = bytes w f n ((n * w + 7) / 8) := rfl
theorem bytes_length (w : Nat) (f : Nat → Nat) (k m : Nat) : (bytes w f k m).length = m := by simp [bytes]
theorem bytes_more (w : Nat) (f : Nat → Nat) (k m : Nat) (h : byt w f k m = 0) : bytes w f k m ++ [0] = bytes w f k (m + 1) := by
  simp [bytes, List.range_succ, h]
theorem bytes_at (pre : List Int) (w : Nat) (f : Nat → Nat) (k m j : Nat) (hj : j < m) : (pre ++ bytes w f k m)[pre.length + j]? = some (byt w f k j : Int) := by
  rw [List.getElem?_append_right (by omega)]
  simp [bytes, hj]
theorem bytes_set (pre : List Int) (w : Nat) (f : Nat → Nat) (k m j : Nat) (hj : j = k * w / 8) : (pre ++ bytes w f k m).set (pre.length + j) ((byt w f k j + f k * 2 ^ (k * w % 8) : Nat) : Int) = pre ++ bytes w f (k + 1) m := by
  rw [List.set_append_right _ _ (by omega)]
  congr 1
  apply List.ext_getElem?
  intro i
  rw [show pre.length + j - pre.length = j by omega]
  by_cases hi : i < m
  · rw [List.getElem?_set]
    by_cases hij : j = i
    · subst hij
      have hi' : k * w / 8 < m := by omega
      simp [bytes, byt, hi', hj]
    · rw [if_neg hij]
      have : ¬ k * w / 8 = i := by omega
      simp [bytes, byt, hi, this]
  · rw [List.getElem?_eq_none (by simp [bytes]; omega), List.getElem?_eq_none (by simp [bytes]; omega)]

def bad (cells : List Int) : Bool := !cells.all cell || decide (64 < cells.length)
/-- the packed form's bytes, and the error -/
def packMain (cells : List Int) : List Int := (cells.length : Int) :: ((diff cells).length : Int) :: (diff cells ++ packs (width (diff cells).length) (fun i => (diff cells).idxOf (cells.getD i 0)) cells.length)
def packB (cells : List Int) : List Int := if bad cells then [] else if cells.length = 0 then [0] else packMain cells
def packE (cells : List Int) : Int := if bad cells then 1 else 0

theorem packB_bad {cells : List Int} (h : bad cells = true) : packB cells = [] := by simp [packB, h]
theorem packE_bad {cells : List Int} (h : bad cells = true) : packE cells = 1 := by simp [packE, h]
theorem packE_good {cells : List Int} (h : bad cells = false) : packE cells = 0 := by simp [packE, h]
theorem packB_nil {cells : List Int} (h : bad cells = false) (h0 : cells.length = 0) : packB cells = [0] := by simp [packB, h, h0]
theorem packB_main {cells : List Int} (h : bad cells = false) (h0 : ¬ cells.length = 0) : packB cells = packMain cells := by simp [packB, h, h0]

theorem mem_foldl_add (l : List Int) : ∀ (p : List Int) (c : Int), c ∈ l.foldl add p ↔ c ∈ p ∨ c ∈ l := by
  induction l with
  | nil => simp
  | cons x l ih =>
    intro p c
    rw [List.foldl_cons, ih]
    unfold add
    split <;> simp_all <;> grind
theorem mem_diff (l : List Int) (c : Int) : c ∈ diff l ↔ c ∈ l := by simp [diff, mem_foldl_add]

theorem width_wd {m : Nat} (h : 1 < m) : Wd (width m) := by
  unfold Wd width
  repeat (split <;> try omega)
theorem width_fits {m : Nat} (h : m ≤ 64) : m ≤ 2 ^ width m := by
  unfold width
  repeat (split <;> try omega)

/-! ### Unpack -/
/-- the index at place i, and what the byte holds above it; none: the text ends -/
def dg (t : List Int) (w i : Nat) : Option (Nat × Nat) :=
  if w = 0 then some (0, 0) else (t[i * w / 8]?).map fun b => (b.toNat / 2 ^ (i * w % 8) % 2 ^ w, b.toNat / 2 ^ (i * w % 8) / 2 ^ w)
def nxt (seen x : Nat) : Nat := if x = seen then seen + 1 else seen
def wrong (m n i seen x rest : Nat) : Bool := decide (nxt seen x ≤ x) || decide (m ≤ x) || decide (n - 1 - i < m - nxt seen x) || (decide (i = n - 1) && decide (rest ≠ 0))
/-- r indices more, from place i on -/
def rd (t p : List Int) (m n w : Nat) : Nat → Nat → Nat → List Int → List Int × Int
  | 0, _, _, acc => (acc, 0)
  | r + 1, i, seen, acc =>
    match dg t w i with
    | none => ([], 5)
    | some (x, rest) => if wrong m n i seen x rest = true then ([], 6) else rd t p m n w r (i + 1) (nxt seen x) (acc ++ [p.getD x 0])

theorem rd_end {t p : List Int} {m n w i seen : Nat} {acc : List Int} : rd t p m n w 0 i seen acc = (acc, 0) := rfl
theorem rd_short {t p : List Int} {m n w r i seen : Nat} {acc : List Int} (h : dg t w i = none) : rd t p m n w (r + 1) i seen acc = ([], 5) := by simp [rd, h]
theorem rd_wrong {t p : List Int} {m n w r i seen x rest : Nat} {acc : List Int} (h : dg t w i = some (x, rest)) (h' : wrong m n i seen x rest = true) : rd t p m n w (r + 1) i seen acc = ([], 6) := by simp [rd, h, h']
theorem rd_go {t p : List Int} {m n w r i seen x rest : Nat} {acc : List Int} (h : dg t w i = some (x, rest)) (h' : wrong m n i seen x rest = false) :
    rd t p m n w (r + 1) i seen acc = rd t p m n w r (i + 1) (nxt seen x) (acc ++ [p.getD x 0]) := by simp [rd, h, h']

def inds (t p : List Int) (n : Nat) : List Int × Int := rd t p p.length n (width p.length) n 0 0 []

/-- the cells, the bytes read, the error -/
def unp (t : List Int) : List Int × Int × Int :=
  if t.length = 0 then ([], 0, 5)
  else if 64 < (t.getD 0 0).toNat then ([], 0, 6)
  else if (t.getD 0 0).toNat = 0 then ([], 1, 0)
  else if t.length < 2 then ([], 0, 5)
  else if (t.getD 1 0).toNat < 1 ∨ (t.getD 0 0).toNat < (t.getD 1 0).toNat then ([], 0, 6)
  else if ¬ ((t.drop 2).take (t.getD 1 0).toNat).Nodup then ([], 0, 6)
  else if t.length < 2 + (t.getD 1 0).toNat then ([], 0, 5)
  else if (inds (t.drop (2 + (t.getD 1 0).toNat)) ((t.drop 2).take (t.getD 1 0).toNat) (t.getD 0 0).toNat).2 ≠ 0 then ([], 0, (inds (t.drop (2 + (t.getD 1 0).toNat)) ((t.drop 2).take (t.getD 1 0).toNat) (t.getD 0 0).toNat).2)
  else ((inds (t.drop (2 + (t.getD 1 0).toNat)) ((t.drop 2).take (t.getD 1 0).toNat) (t.getD 0 0).toNat).1, ((2 + (t.getD 1 0).toNat + ((t.getD 0 0).toNat * width (t.getD 1 0).toNat + 7) / 8 : Nat) : Int), 0)

theorem rd_length (t p : List Int) (m n w : Nat) : ∀ (r i seen : Nat) (acc : List Int), (rd t p m n w r i seen acc).1.length ≤ acc.length + r := by
  intro r
  induction r with
  | zero => intro i seen acc; simp [rd]
  | succ r ih =>
    intro i seen acc
    unfold rd
    split
    · simp
    · split
      · simp
      · rename_i x rest _ _
        have := ih (i + 1) (nxt seen x) (acc ++ [p.getD x 0])
        rw [List.length_append, List.length_singleton] at this
        omega
theorem inds_length (t p : List Int) (n : Nat) : (inds t p n).1.length ≤ n := by
  have := rd_length t p p.length n (width p.length) n 0 0 []
  rw [List.length_nil, Nat.zero_add] at this
  exact this
theorem unp_length (t : List Int) : (unp t).1.length ≤ 64 := by
  unfold unp
  have hl := inds_length (t.drop (2 + (t.getD 1 0).toNat)) ((t.drop 2).take (t.getD 1 0).toNat) (t.getD 0 0).toNat
  generalize inds (t.drop (2 + (t.getD 1 0).toNat)) ((t.drop 2).take (t.getD 1 0).toNat) (t.getD 0 0).toNat = r at *
  by_cases h1 : t.length = 0
  · rw [if_pos h1]; simp
  rw [if_neg h1]
  by_cases h2 : 64 < (t.getD 0 0).toNat
  · rw [if_pos h2]; simp
  rw [if_neg h2]
  by_cases h3 : (t.getD 0 0).toNat = 0
  · rw [if_pos h3]; simp
  rw [if_neg h3]
  by_cases h4 : t.length < 2
  · rw [if_pos h4]; simp
  rw [if_neg h4]
  by_cases h5 : (t.getD 1 0).toNat < 1 ∨ (t.getD 0 0).toNat < (t.getD 1 0).toNat
  · rw [if_pos h5]; simp
  rw [if_neg h5]
  by_cases h6 : ¬ ((t.drop 2).take (t.getD 1 0).toNat).Nodup
  · rw [if_pos h6]; simp
  rw [if_neg h6]
  by_cases h7 : t.length < 2 + (t.getD 1 0).toNat
  · rw [if_pos h7]; simp
  rw [if_neg h7]
  by_cases h8 : r.2 ≠ 0
  · rw [if_pos h8]; simp
  rw [if_neg h8]
  show r.1.length ≤ 64
  omega

/-! ### Encode, Decode, Materials -/
def encB (cells : List Int) : List Int := if cells.length ≠ 64 then [] else packB cells
def encE (cells : List Int) : Int := if cells.length ≠ 64 then 1 else packE cells
def dec (t : List Int) : List Int × Int :=
  if (unp t).2.2 ≠ 0 then ([], (unp t).2.2) else if (unp t).2.1 ≠ (t.length : Int) ∨ (unp t).1.length ≠ 64 then ([], 6) else ((unp t).1, 0)
theorem dec_length (t : List Int) : (dec t).1.length ≤ 64 := by
  unfold dec
  split
  · simp
  · split
    · simp
    · show (unp t).1.length ≤ 64
      omega
def mat (t : List Int) : List Int × Int := (diff (dec t).1, (dec t).2)
def brick (l : List Int) : Bool := decide (l.length = 64) && l.all cell

/-! ### Delta -/
def dbit (old new : List Int) (i : Nat) : Nat := if old.getD i 0 = new.getD i 0 then 0 else 1
/-- the cells of new that differ, of the first k -/
def chg (old new : List Int) : Nat → List Int
  | 0 => []
  | k + 1 => chg old new k ++ if old.getD k 0 = new.getD k 0 then [] else [new.getD k 0]
theorem chg_same {old new : List Int} {k : Nat} (h : old.getD k 0 = new.getD k 0) : chg old new (k + 1) = chg old new k := by simp only [chg, if_pos h, List.append_nil]
theorem chg_diff {old new : List Int} {k : Nat} (h : ¬ old.getD k 0 = new.getD k 0) : chg old new (k + 1) = chg old new k ++ [new.getD k 0] := by simp only [chg, if_neg h]
theorem chg_length (old new : List Int) (k : Nat) : (chg old new k).length ≤ k := by
  induction k with
  | zero => simp [chg]
  | succ k ih => unfold chg; rw [List.length_append]; split <;> simp <;> omega
theorem chg_cells (old new : List Int) (hb : new.all cell = true) (k : Nat) (hk : k ≤ new.length) : (chg old new k).all cell = true := by
  induction k with
  | zero => simp [chg]
  | succ k ih =>
    unfold chg
    rw [List.all_append, ih (by omega), Bool.true_and]
    split
    · simp
    · simp only [List.all_cons, List.all_nil, Bool.and_true]
      exact List.all_eq_true.1 hb _ (by rw [List.getD_eq_getElem?_getD, List.getElem?_eq_getElem (by omega)]; exact List.getElem_mem _)
def dltB (old new : List Int) : List Int := if brick old && brick new then bytes 1 (dbit old new) 64 8 ++ packB (chg old new 64) else []
def dltE (old new : List Int) : Int := if brick old && brick new then 0 else 1
theorem chg_good {old new : List Int} (h : brick new = true) : packE (chg old new 64) = 0 := by
  unfold brick at h
  simp at h
  apply packE_good
  unfold bad
  rw [chg_cells old new (by simpa using h.2) 64 (by omega)]
  have := chg_length old new 64
  simp; omega
theorem dltB_good {old new : List Int} (h : brick old = true) (h' : brick new = true) : dltB old new = bytes 1 (dbit old new) 64 8 ++ packB (chg old new 64) := by simp [dltB, h, h']
theorem dltE_good {old new : List Int} (h : brick old = true) (h' : brick new = true) : dltE old new = 0 := by simp [dltE, h, h']
theorem dltB_bad {old new : List Int} (h : ¬ (brick old = true ∧ brick new = true)) : dltB old new = [] := by unfold dltB; rw [if_neg (by simpa using h)]
theorem dltE_bad {old new : List Int} (h : ¬ (brick old = true ∧ brick new = true)) : dltE old new = 1 := by unfold dltE; rw [if_neg (by simpa using h)]
theorem byt1_same (f : Nat → Nat) (k j : Nat) (h : f k = 0) : byt 1 f (k + 1) j = byt 1 f k j := by simp [byt, h]
theorem byt1_diff (f : Nat → Nat) (k j : Nat) (h : f k = 1) : byt 1 f (k + 1) j = byt 1 f k j + if k / 8 = j then 2 ^ (k % 8) else 0 := by simp [byt, h]
theorem dbit_lt (old new : List Int) (i : Nat) : dbit old new i < 2 ^ 1 := by unfold dbit; split <;> decide
theorem packB_length_le (cells : List Int) : (packB cells).length ≤ 1000000 := by
  unfold packB
  split
  · simp
  · split
    · simp
    · rename_i hb _
      have hl : cells.length ≤ 64 := by unfold bad at hb; simp at hb; omega
      have hd := diff_length cells
      have hw : width (diff cells).length ≤ 8 := by unfold width; repeat (split <;> try omega)
      have : cells.length * width (diff cells).length ≤ cells.length * 8 := Nat.mul_le_mul_left _ hw
      simp [packMain, packs]
      omega

/-! ### Patch -/
def bit (t : List Int) (i : Nat) : Nat := (t.getD (i / 8) 0).toNat / 2 ^ (i % 8) % 2
def st (old t cells : List Int) : Nat → Option (Nat × List Int)
  | 0 => some (0, [])
  | i + 1 =>
    match st old t cells i with
    | none => none
    | some (k, out) =>
      if bit t i = 0 then some (k, out ++ [old.getD i 0])
      else match cells[k]? with
        | none => none
        | some c => if c = old.getD i 0 then none else some (k + 1, out ++ [c])
theorem st_keep {old t cells out : List Int} {i k : Nat} (h : st old t cells i = some (k, out)) (hb : bit t i = 0) : st old t cells (i + 1) = some (k, out ++ [old.getD i 0]) := by simp [st, h, hb]
theorem st_short {old t cells out : List Int} {i k : Nat} (h : st old t cells i = some (k, out)) (hb : ¬ bit t i = 0) (hc : cells[k]? = none) : st old t cells (i + 1) = none := by simp [st, h, hb, hc]
theorem st_same {old t cells out : List Int} {i k : Nat} {c : Int} (h : st old t cells i = some (k, out)) (hb : ¬ bit t i = 0) (hc : cells[k]? = some c) (he : c = old.getD i 0) : st old t cells (i + 1) = none := by
  simp only [st, h, if_neg hb, hc]; rw [if_pos he]
theorem st_take {old t cells out : List Int} {i k : Nat} {c : Int} (h : st old t cells i = some (k, out)) (hb : ¬ bit t i = 0) (hc : cells[k]? = some c) (he : ¬ c = old.getD i 0) : st old t cells (i + 1) = some (k + 1, out ++ [c]) := by
  simp only [st, h, if_neg hb, hc]; rw [if_neg he]
theorem st_none {old t cells : List Int} {i : Nat} (h : st old t cells i = none) : ∀ d, st old t cells (i + d) = none := by
  intro d
  induction d with
  | zero => exact h
  | succ d ih => rw [← Nat.add_assoc]; unfold st; rw [ih]
theorem st_none64 {old t cells : List Int} {i : Nat} (h : st old t cells (i + 1) = none) (hi : i < 64) : st old t cells 64 = none := by
  have := st_none h (63 - i); rwa [show i + 1 + (63 - i) = 64 by omega] at this
theorem st_length {old t cells : List Int} : ∀ (i k : Nat) (out : List Int), st old t cells i = some (k, out) → out.length = i ∧ k ≤ i := by
  intro i
  induction i with
  | zero => intro k out h; simp [st] at h; obtain ⟨rfl, rfl⟩ := h; simp
  | succ i ih =>
    intro k out h
    unfold st at h
    cases hs : st old t cells i with
    | none => rw [hs] at h; cases h
    | some s =>
      obtain ⟨k', out'⟩ := s
      rw [hs] at h
      have := ih k' out' hs
      simp only [] at h
      split at h
      · simp at h; obtain ⟨rfl, rfl⟩ := h; simp; omega
      · split at h
        · cases h
        · split at h
          · cases h
          · simp at h; obtain ⟨rfl, rfl⟩ := h; simp; omega
/-- what is made of a brick once the cells have been read -/
def pfin (old t cells : List Int) (n : Int) : List Int × Int :=
  if n ≠ (t.length : Int) - 8 then ([], 6)
  else match st old t cells 64 with
    | none => ([], 6)
    | some (k, out) => if k ≠ cells.length then ([], 6) else (out, 0)
theorem pfin_n {old t cells : List Int} {n : Int} (h : ¬ n = (t.length : Int) - 8) : pfin old t cells n = ([], 6) := by unfold pfin; rw [if_pos h]
theorem pfin_none {old t cells : List Int} {n : Int} (h : st old t cells 64 = none) : pfin old t cells n = ([], 6) := by
  unfold pfin; split
  · rfl
  · rw [h]
theorem pfin_k {old t cells out : List Int} {k : Nat} {n : Int} (h : st old t cells 64 = some (k, out)) (hk : ¬ k = cells.length) : pfin old t cells n = ([], 6) := by
  unfold pfin; split
  · rfl
  · rw [h]; simp only []; rw [if_pos hk]
theorem pfin_ok {old t cells out : List Int} {k : Nat} {n : Int} (hn : n = (t.length : Int) - 8) (h : st old t cells 64 = some (k, out)) (hk : k = cells.length) : pfin old t cells n = (out, 0) := by
  unfold pfin; rw [if_neg (by simpa using hn), h]; simp only []; rw [if_neg (by simpa using hk)]
def pat (old t : List Int) : List Int × Int :=
  if brick old = false then ([], 1)
  else if t.length < 8 then ([], 5)
  else if (unp (t.drop 8)).2.2 ≠ 0 then ([], (unp (t.drop 8)).2.2)
  else pfin old t (unp (t.drop 8)).1 (unp (t.drop 8)).2.1

end Go.Proofs.Ytcgieiocbjkdlaa.Pal
