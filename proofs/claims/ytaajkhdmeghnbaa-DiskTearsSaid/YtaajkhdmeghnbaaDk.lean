/- Disks, plainly: pages with a content and, perhaps, a pending content. -/
import Derived.Test.YtaajkhdmeghnbaaStr
namespace Go.Proofs.Ytaajkhdmeghnbaa

/-- a page: its content and its pending content -/
abbrev Pg := List Int × Option (List Int)
structure Dk where
  p : List Pg
  off : Bool
  trip : Int
def zer : List Int := List.replicate 128 0
def PgOk (x : Pg) : Prop := x.1.length = 128 ∧ Byt x.1 ∧ ∀ n, x.2 = some n → n.length = 128 ∧ Byt n
structure DkOk (d : Dk) : Prop where
  pages : ∀ x ∈ d.p, PgOk x
  lo : -1 ≤ d.trip
  hi : d.trip ≤ 9223372036854775807
  few : d.p.length ≤ 40
theorem byt_zer : Byt zer := fun x hx => by unfold zer at hx; rw [List.mem_replicate] at hx; omega
theorem zer_len : zer.length = 128 := List.length_replicate ..

/-- what is read of a page -/
def Pg.now (x : Pg) : List Int := x.2.getD x.1
theorem PgOk.now {x : Pg} (h : PgOk x) : x.now.length = 128 ∧ Byt x.now := by
  obtain ⟨a, b⟩ := x
  cases b with
  | none => exact ⟨h.1, h.2.1⟩
  | some n => exact h.2.2 n rfl
/-- the first c bytes of what is pending, if anything is -/
def Pg.settle (c : Nat) (x : Pg) : Pg := match x.2 with
  | none => x
  | some n => (n.take c ++ x.1.drop c, none)
theorem PgOk.settle {x : Pg} (h : PgOk x) (c : Nat) : PgOk (x.settle c) := by
  obtain ⟨a, b⟩ := x
  cases b with
  | none => exact h
  | some n =>
    obtain ⟨h1, h2, h3⟩ := h
    obtain ⟨h4, h5⟩ := h3 n rfl
    refine ⟨?_, ?_, fun n hn => by cases hn⟩
    · simp only [Pg.settle, List.length_append, List.length_take, List.length_drop]
      simp only at h1
      omega
    · exact (h5.take c).append (h2.drop c)
theorem settle_none (x : Pg) (c : Nat) : (x.settle c).2 = none := by
  obtain ⟨a, b⟩ := x
  cases b <;> rfl
theorem settle_all {x : Pg} (h : PgOk x) : x.settle 128 = (x.now, none) := by
  obtain ⟨a, b⟩ := x
  cases b with
  | none => rfl
  | some n =>
    obtain ⟨h1, h2, h3⟩ := h
    obtain ⟨h4, h5⟩ := h3 n rfl
    simp only at h1
    simp only [Pg.settle, Pg.now, Option.getD_some]
    rw [List.take_of_length_le (by omega), List.drop_of_length_le (by omega), List.append_nil]

/-- the numbers of the pages that are pending -/
def pendOf (p : List Pg) : List Nat := (List.range p.length).filter fun i => (p[i]?.bind (·.2)).isSome
/-- how many pages ahead of page i are pending -/
def rank (p : List Pg) (i : Nat) : Nat := ((List.range i).filter fun i => (p[i]?.bind (·.2)).isSome).length
def isPend (p : List Pg) (i : Nat) : Bool := (p[i]?.bind (·.2)).isSome
theorem isPend_lt {p : List Pg} {i : Nat} (h : isPend p i = true) : i < p.length := by
  unfold isPend at h
  cases h1 : p[i]? with
  | none => rw [h1] at h; cases h
  | some x => exact (List.getElem?_eq_some_iff.1 h1).1
theorem mem_pend {p : List Pg} {i : Nat} : i ∈ pendOf p ↔ isPend p i = true := by
  unfold pendOf
  rw [List.mem_filter, List.mem_range]
  exact ⟨fun h => h.2, fun h => ⟨isPend_lt h, h⟩⟩
theorem rank_succ (p : List Pg) (i : Nat) : rank p (i + 1) = rank p i + if isPend p i = true then 1 else 0 := by
  unfold rank
  rw [List.range_succ, List.filter_append, List.length_append]
  unfold isPend
  cases h : (p[i]?.bind (·.2)).isSome <;> simp [h]
theorem rank_mono (p : List Pg) {i j : Nat} (h : i ≤ j) : rank p i ≤ rank p j := by
  induction j with
  | zero => have : i = 0 := by omega
            subst this; exact Nat.le_refl _
  | succ j ih =>
    by_cases e : i = j + 1
    · subst e; exact Nat.le_refl _
    · have := ih (by omega)
      rw [rank_succ]; omega
theorem rank_lt (p : List Pg) {i j : Nat} (hi : isPend p i = true) (h : i < j) : rank p i < rank p j := by
  have h1 := rank_succ p i
  rw [if_pos hi] at h1
  have := rank_mono p (show i + 1 ≤ j by omega)
  omega
theorem rank_inj (p : List Pg) {i j : Nat} (hi : isPend p i = true) (hj : isPend p j = true) (h : rank p i = rank p j) : i = j := by
  rcases Nat.lt_trichotomy i j with h1 | h1 | h1
  · have := rank_lt p hi h1; omega
  · exact h1
  · have := rank_lt p hj h1; omega
theorem rank_at {p : List Pg} {k i : Nat} (h : (pendOf p)[k]? = some i) : isPend p i = true ∧ rank p i = k := by
  have hm := mem_pend.1 (List.mem_of_getElem? h)
  refine ⟨hm, ?_⟩
  have key : ∀ n i k, ((List.range n).filter fun i => (p[i]?.bind (·.2)).isSome)[k]? = some i → rank p i = k := by
    intro n
    induction n with
    | zero => intro i k h; simp at h
    | succ n ih =>
      intro i k h
      rw [List.range_succ, List.filter_append] at h
      by_cases hk : k < ((List.range n).filter fun i => (p[i]?.bind (·.2)).isSome).length
      · rw [List.getElem?_append_left hk] at h
        exact ih i k h
      · rw [List.getElem?_append_right (by omega)] at h
        have hk2 : k = rank p n := by
          unfold rank
          have := (List.getElem?_eq_some_iff.1 h).1
          have h3 : ([n].filter fun i => (p[i]?.bind (·.2)).isSome).length ≤ 1 := List.length_filter_le _ _
          omega
        have := List.mem_of_getElem? h
        rw [List.mem_filter, List.mem_singleton] at this
        rw [this.1, hk2]
  exact key _ _ _ h
theorem at_rank {p : List Pg} {i : Nat} (h : isPend p i = true) : (pendOf p)[rank p i]? = some i := by
  obtain ⟨k, hk⟩ := List.getElem?_of_mem (mem_pend.2 h)
  rw [(rank_at hk).2]; exact hk
theorem pend_len_le (p : List Pg) : (pendOf p).length ≤ p.length := by
  have := List.length_filter_le (fun i => (p[i]?.bind (·.2)).isSome) (List.range p.length)
  rw [List.length_range] at this
  exact this
theorem pend_sorted (p : List Pg) : (pendOf p).Pairwise (· < ·) := List.Pairwise.filter _ List.pairwise_lt_range

/-- the numbers of bytes that a failure of the power settles of the k-th pending page -/
def pick (picks : List Int) (k : Nat) : Nat := match picks[k]? with
  | none => 128
  | some x => (min (max x 0) 128).toNat
theorem pick_le (picks : List Int) (k : Nat) : pick picks k ≤ 128 := by
  unfold pick
  split <;> omega

def Dk.is (d : Dk) (i : Int) : Bool := decide (0 ≤ i) && decide (i < d.p.length)
/-- a step: is the power still on? -/
def Dk.step (d : Dk) : Dk × Bool :=
  if d.trip = 0 then ({ d with off := true }, false) else if 0 < d.trip then ({ d with trip := d.trip - 1 }, true) else (d, true)
def mkDk (pages : Nat) : Dk := ⟨List.replicate pages (zer, none), false, -1⟩
/-- ErrDown, ErrArg and OK of the program -/
def eDown : Int := 20
def eArg : Int := 1
def Dk.read (d : Dk) (i : Int) : List Int × Int :=
  if d.off = true then ([], eDown) else if d.is i = false then ([], eArg) else ((d.p[i.toNat]?.map Pg.now).getD [], 0)
def put (old : List Int) (at_ : Nat) (s : List Int) : List Int := old.take at_ ++ s ++ old.drop (at_ + s.length)
def Dk.write (d : Dk) (i at_ : Int) (s : List Int) : Dk × Int :=
  if d.off = true then (d, eDown) else if (d.is i && decide (0 ≤ at_) && decide (at_ ≤ 128) && decide ((s.length : Int) ≤ 128 - at_)) = false then (d, eArg)
  else if d.step.2 = false then (d.step.1, eDown)
  else ({ d.step.1 with p := d.p.modify i.toNat fun x => (x.1, some (put x.now at_.toNat s)) }, 0)
def Dk.flush (d : Dk) : Dk × Int :=
  if d.off = true then (d, eDown) else if d.step.2 = false then (d.step.1, eDown) else ({ d.step.1 with p := d.p.map fun x => (x.now, none) }, 0)
def Dk.setTrip (d : Dk) (n : Int) : Dk := { d with trip := max n (-1) }
/-- the first k pending pages settled -/
def settled (p : List Pg) (picks : List Int) (k : Nat) : List Pg := p.mapIdx fun i x => if rank p i < k then x.settle (pick picks (rank p i)) else x
def Dk.mount (d : Dk) (picks : List Int) : Dk := ⟨settled d.p picks (pendOf d.p).length, false, -1⟩
def flip (l : List Int) (n : Nat) (b : Nat) : List Int := l.modify n fun x => bits .xor .u8 x (2 ^ b)
def Dk.rot (d : Dk) (i bit : Int) : Dk × Int :=
  if (d.is i && decide (0 ≤ bit) && decide (bit < 1024)) = false then (d, eArg)
  else ({ d with p := d.p.modify i.toNat fun x => (flip x.1 (bit.toNat / 8) (bit.toNat % 8), x.2) }, 0)
def Dk.image (d : Dk) : List (List Int) := d.p.map (·.1)

theorem settled_zero (p : List Pg) (picks : List Int) : settled p picks 0 = p := by
  unfold settled
  apply List.ext_getElem?
  intro i
  rw [List.getElem?_mapIdx]
  cases p[i]? <;> simp
theorem settled_len (p : List Pg) (picks : List Int) (k : Nat) : (settled p picks k).length = p.length := by unfold settled; rw [List.length_mapIdx]
theorem settled_at {p : List Pg} {i : Nat} {x : Pg} (h : p[i]? = some x) (picks : List Int) (k : Nat) : (settled p picks k)[i]? = some (if rank p i < k then x.settle (pick picks (rank p i)) else x) := by
  unfold settled
  rw [List.getElem?_mapIdx, h]; rfl
theorem settle_not {p : List Pg} {i : Nat} {x : Pg} (h : p[i]? = some x) (hn : isPend p i = false) (c : Nat) : x.settle c = x := by
  unfold isPend at hn
  rw [h] at hn
  obtain ⟨a, b⟩ := x
  cases b with
  | none => rfl
  | some n => cases hn
theorem settled_succ {p : List Pg} {k i : Nat} (h : (pendOf p)[k]? = some i) (picks : List Int) : settled p picks (k + 1) = (settled p picks k).modify i (Pg.settle (pick picks k)) := by
  obtain ⟨hp, hr⟩ := rank_at h
  apply List.ext_getElem?
  intro j
  rw [List.getElem?_modify]
  cases hj : p[j]? with
  | none =>
    have hl := List.getElem?_eq_none_iff.1 hj
    rw [List.getElem?_eq_none_iff.2 (by rw [settled_len]; exact hl), List.getElem?_eq_none_iff.2 (by rw [settled_len]; exact hl)]; rfl
  | some x =>
    rw [settled_at hj, settled_at hj]
    by_cases e : i = j
    · subst e
      simp only [hr, if_true, Nat.lt_irrefl, if_false, show k < k + 1 by omega]
      rfl
    · simp only [if_neg e]
      show some _ = some _
      congr 1
      by_cases hjp : isPend p j = true
      · have hne : rank p j ≠ k := fun e2 => e (rank_inj p hp hjp (hr.trans e2.symm))
        by_cases h1 : rank p j < k
        · rw [if_pos h1, if_pos (by omega)]
        · rw [if_neg h1, if_neg (by omega)]
      · have hjp : isPend p j = false := by simpa using hjp
        rw [settle_not hj hjp, ite_self, ite_self]
theorem settled_end_none {p : List Pg} (picks : List Int) {x : Pg} (hx : x ∈ settled p picks (pendOf p).length) : x.2 = none := by
  obtain ⟨i, hi⟩ := List.getElem?_of_mem hx
  cases hj : p[i]? with
  | none =>
    have hl := List.getElem?_eq_none_iff.1 hj
    rw [List.getElem?_eq_none_iff.2 (by rw [settled_len]; exact hl)] at hi; cases hi
  | some y =>
    rw [settled_at hj] at hi
    by_cases hp : isPend p i = true
    · have hr := (List.getElem?_eq_some_iff.1 (at_rank hp)).1
      rw [if_pos hr] at hi
      injection hi with hi
      rw [← hi]; exact settle_none _ _
    · have hp : isPend p i = false := by simpa using hp
      rw [settle_not hj hp, ite_self] at hi
      injection hi with hi
      subst hi
      unfold isPend at hp
      rw [hj] at hp
      cases h2 : y.2 with
      | none => rfl
      | some n => rw [Option.bind_some, h2] at hp; cases hp
/-- with nothing pending any longer there is nothing to clear -/
theorem settled_clear {p : List Pg} (picks : List Int) : (settled p picks (pendOf p).length).map (fun x => (x.1, none)) = settled p picks (pendOf p).length := by
  conv => rhs; rw [← List.map_id (settled p picks _)]
  refine List.map_congr_left fun x hx => ?_
  have := settled_end_none picks hx
  obtain ⟨a, b⟩ := x
  simp only at this
  rw [this]; rfl
end Go.Proofs.Ytaajkhdmeghnbaa
