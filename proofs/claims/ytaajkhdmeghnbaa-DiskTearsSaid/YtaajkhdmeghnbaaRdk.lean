/- The reference's disk: what lies in memory; the small functions. -/
import Derived.Test.YtaajkhdmeghnbaaCln
namespace Go.Proofs.Ytaajkhdmeghnbaa
open Go.RowKit Go.Sort

/-- the three cells of a page of the reference -/
def rcell (x : Pg) : Nat → Value
  | 0 => .string (strOfNums x.1)
  | 1 => .string (strOfNums (x.2.getD []))
  | _ => .bool x.2.isSome
/-- block g holds n rows of three cells, told by F -/
structure RC (w : World) (g n : Nat) (F : Nat → Nat → Value) : Prop where
  at_ : ∀ i j, i < n → j < 3 → w.cell? ⟨g, i * 3 + j, none⟩ = some (F i j)
  free : ∀ i j, i < n → j < 3 → w.frozen? ⟨g, i * 3 + j, none⟩ = false
  lt : g < w.heap.size
def upd (F : Nat → Nat → Value) (i j : Nat) (v : Value) : Nat → Nat → Value := fun a b => if a = i ∧ b = j then v else F a b
section
variable {w w' : World} {g n : Nat} {F G : Nat → Nat → Value}
theorem RC.congr (h : RC w g n F) (hFG : ∀ i j, i < n → j < 3 → F i j = G i j) : RC w g n G := ⟨fun i j hi hj => by rw [← hFG i j hi hj]; exact h.at_ i j hi hj, h.free, h.lt⟩
theorem RC.set (h : RC w g n F) {i j : Nat} (hi : i < n) (hj : j < 3) (v : Value) : RC (w.setCell ⟨g, i * 3 + j, none⟩ v) g n (upd F i j v) := by
  refine ⟨fun a b ha hb => ?_, fun a b ha hb => by rw [World.frozen?_setCell]; exact h.free a b ha hb, by simpa [World.setCell] using h.lt⟩
  unfold upd
  by_cases e : a = i ∧ b = j
  · obtain ⟨rfl, rfl⟩ := e
    rw [if_pos ⟨rfl, rfl⟩]
    exact World.cell?_setCell_same w _ _ (h.at_ a b ha hb)
  · rw [if_neg e, World.cell?_setCell_other w _ _ _ (fun he => by
      injection he with h1 h2 h3
      exact e (by omega))]
    exact h.at_ a b ha hb
theorem RC.of_heap (h : RC w g n F) (he : w'.heap[g]? = w.heap[g]?) (hs : w.heap.size ≤ w'.heap.size) : RC w' g n F :=
  ⟨fun i j hi hj => (cell_of_heap he _).trans (h.at_ i j hi hj), fun i j hi hj => (frozen_of_heap he _).trans (h.free i j hi hj), Nat.lt_of_lt_of_le h.lt hs⟩
theorem RC.chg {S : Nat → Prop} (h : RC w g n F) (hc : Chg S w w') (hn : ¬ S g) : RC w' g n F := h.of_heap (hc.block g h.lt hn) hc.size
end
def Fof (p : List Pg) : Nat → Nat → Value := fun i j => rcell (p.getD i ([], none)) j
theorem fof_at {p : List Pg} {i : Nat} {x : Pg} (h : p[i]? = some x) (j : Nat) : Fof p i j = rcell x j := by unfold Fof; rw [List.getD_eq_getElem?_getD, h]; rfl
theorem fof_modify {p : List Pg} {i : Nat} (f : Pg → Pg) {a : Nat} (h : a ≠ i) (b : Nat) : Fof (p.modify i f) a b = Fof p a b := by
  unfold Fof
  rw [List.getD_eq_getElem?_getD, List.getD_eq_getElem?_getD, List.getElem?_modify]
  have h2 : ¬ i = a := fun e => h e.symm
  cases p[a]? <;> simp [h2]
theorem fof_modify_at {p : List Pg} {i : Nat} {x : Pg} (h : p[i]? = some x) (f : Pg → Pg) (b : Nat) : Fof (p.modify i f) i b = rcell (f x) b := fof_at (by rw [List.getElem?_modify, h]; simp) b
/-- the reference's disk d: its struct in block q, the pages in block g -/
structure RkIs (w : World) (q g cap : Nat) (d : Dk) : Prop where
  ok : DkOk d
  pos : 0 < d.p.length
  hcap : d.p.length ≤ cap ∧ cap ≤ maxLen
  kq : Bk w q #[.slice (some ⟨g, 0, none⟩) d.p.length cap, .bool d.off, .int .i64 d.trip] 56
  pg : RC w g d.p.length (Fof d.p)
  ne : q ≠ g
def In2 (q g : Nat) (k : Nat) : Prop := k = q ∨ k = g
section
variable {w w' : World} {q g cap : Nat} {d : Dk}
theorem RkIs.chg {S : Nat → Prop} (h : RkIs w q g cap d) (hc : Chg S w w') (hn : ∀ k, In2 q g k → ¬ S k) : RkIs w' q g cap d :=
  ⟨h.ok, h.pos, h.hcap, h.kq.chg hc (hn _ (.inl rfl)), h.pg.chg hc (hn _ (.inr rfl)), h.ne⟩
theorem RkIs.later (h : RkIs w q g cap d) (hb : Below w.heap.size w w') : RkIs w' q g cap d := h.chg (.ofBelow hb (fun _ => False)) (fun _ _ e => e)
theorem RkIs.lt (h : RkIs w q g cap d) : q < w.heap.size ∧ g < w.heap.size := ⟨h.kq.lt, h.pg.lt⟩
theorem RkIs.put (h : RkIs w q g cap d) (d' : Dk) (w' : World) (hp : d'.p = d.p) (ht : -1 ≤ d'.trip ∧ d'.trip ≤ 9223372036854775807)
    (hk : Bk w' q #[.slice (some ⟨g, 0, none⟩) d.p.length cap, .bool d'.off, .int .i64 d'.trip] 56) (hc : Chg (· = q) w w') : RkIs w' q g cap d' :=
  ⟨⟨by rw [hp]; exact h.ok.pages, ht.1, ht.2, by rw [hp]; exact h.ok.few⟩, by rw [hp]; exact h.pos, by rw [hp]; exact h.hcap, by rw [hp]; exact hk, by rw [hp]; exact h.pg.chg hc (fun e => h.ne e.symm), h.ne⟩
end
theorem ris_any (w : World) (q g cap : Nat) (d : Dk) (h : RkIs w q g cap d) (i : Int) :
    Calls Try.prog 50 #[.pointer (some ⟨q, 0, none⟩), .int .i64 i] w fun e w' => e = .returned (.bool (d.is i)) ∧ w = w' := by
  have c0 := h.kq.cell 0 rfl
  unfold Dk.is
  have hl := h.ok.few
  clear h
  generalize d.p.length = n at *
  by_cases h0 : 0 ≤ i
  · have t0 : decide (0 ≤ i) = true := by simpa using h0
    go_enter Try.func50, Try.ntmps50
    go_wp2
    go_ret
    exact ⟨ret_bool (by simp [h0]), rfl⟩
  · have t0 : decide (0 ≤ i) = false := by simpa using h0
    go_enter Try.func50, Try.ntmps50
    go_wp2
    go_ret
    exact ⟨ret_bool (by simp), rfl⟩
theorem rlen_any (w : World) (q g cap : Nat) (d : Dk) (h : RkIs w q g cap d) :
    Calls Try.prog 39 #[.pointer (some ⟨q, 0, none⟩)] w fun e w' => e = .returned (.int .i64 (d.p.length : Int)) ∧ w = w' := by
  have c0 := h.kq.cell 0 rfl
  clear h
  go_enter Try.func39, Try.ntmps39
  go_wp2
  go_ret
  exact ⟨rfl, rfl⟩
theorem rup_any (w : World) (q g cap : Nat) (d : Dk) (h : RkIs w q g cap d) :
    Calls Try.prog 40 #[.pointer (some ⟨q, 0, none⟩)] w fun e w' => e = .returned (.bool (!d.off)) ∧ w = w' := by
  have c0 := h.kq.cell 1 rfl
  clear h
  go_enter Try.func40, Try.ntmps40
  go_wp2
  go_ret
  exact ⟨rfl, rfl⟩
theorem rtrip_any (w : World) (q g cap : Nat) (d : Dk) (h : RkIs w q g cap d) (n : Int) (hn : -9223372036854775808 ≤ n ∧ n ≤ 9223372036854775807) :
    Calls Try.prog 36 #[.pointer (some ⟨q, 0, none⟩), .int .i64 n] w fun e w' => e = .returned (.tuple #[]) ∧ RkIs w' q g cap (d.setTrip n) ∧ Chg (· = q) w w' := by
  have H := Bx.mk h
  have c3 := h.kq.cell 2 rfl
  have f3 := h.kq.frozen 2
  have hm : (if -1 < n then n else -1) = max n (-1) := by omega
  have hm2 : max (-1) n = max n (-1) := by omega
  clear h
  go_enter Try.func36, Try.ntmps36
  go_wp2
  go_end0
  exact ⟨rfl, H.out.put _ _ rfl ⟨by show -1 ≤ max n (-1); omega, by show max n (-1) ≤ _; omega⟩ (H.out.kq.set 2 _) (chg_cell _ _ _ _), chg_cell _ _ _ _⟩
/-- what a step of the reference's answers -/
def RStepPost (q g cap : Nat) (w : World) (d' : Dk) (n : Int) (e : Ending) (w' : World) : Prop := e = .returned (.int .i64 n) ∧ RkIs w' q g cap d' ∧ Chg (· = q) w w'
theorem rstep_any (w : World) (q g cap : Nat) (d : Dk) (h : RkIs w q g cap d) :
    Calls Try.prog 52 #[.pointer (some ⟨q, 0, none⟩)] w (RStepPost q g cap w d.step.1 (errS d.step.2)) := by
  have H := Bx.mk h
  have c2 := h.kq.cell 1 rfl
  have f2 := h.kq.frozen 1
  have c3 := h.kq.cell 2 rfl
  have f3 := h.kq.frozen 2
  have b1 := h.ok.lo
  have b2 := h.ok.hi
  have K2 : ∀ v, Bk (w.setCell ⟨q, 1, none⟩ v) q #[.slice (some ⟨g, 0, none⟩) d.p.length cap, v, .int .i64 d.trip] 56 := fun v => h.kq.set 1 v
  have K3 : ∀ v, Bk (w.setCell ⟨q, 2, none⟩ v) q #[.slice (some ⟨g, 0, none⟩) d.p.length cap, .bool d.off, v] 56 := fun v => h.kq.set 2 v
  clear h
  by_cases h0 : d.trip = 0
  · have ht : decide (d.trip = 0) = true := by simpa using h0
    have t0 : (d.trip == 0) = true := by simpa using h0
    have hs : d.step = ({ d with off := true }, false) := by unfold Dk.step; rw [if_pos h0]
    rw [hs]
    have HK := Bx.mk fun hk => H.out.put { d with off := true } (w.setCell ⟨q, 1, none⟩ (.bool true)) rfl ⟨b1, b2⟩ hk (chg_cell _ _ _ _)
    have HJ := Bx.mk (HK.out (K2 _))
    clear h0 K2 K3 H hs HK
    generalize ({ d with off := true } : Dk) = d' at *
    generalize d.trip = T at *
    generalize d.off = O at *
    go_enter Try.func52, Try.ntmps52
    go_wp2
    go_ret
    exact ⟨rfl, HJ.out, chg_cell _ _ _ _⟩
  · have ht : decide (d.trip = 0) = false := by simpa using h0
    have t0 : (d.trip == 0) = false := by simpa using h0
    by_cases h1 : 0 < d.trip
    · have hs : d.step = ({ d with trip := d.trip - 1 }, true) := by unfold Dk.step; rw [if_neg h0, if_pos h1]
      rw [hs]
      have HK := Bx.mk fun hk => H.out.put { d with trip := d.trip - 1 } (w.setCell ⟨q, 2, none⟩ (.int .i64 (d.trip - 1))) rfl ⟨by show -1 ≤ d.trip - 1; omega, by show d.trip - 1 ≤ _; omega⟩ hk (chg_cell _ _ _ _)
      have HJ := Bx.mk (HK.out (K3 _))
      clear h0 K2 K3 H hs HK
      generalize ({ d with trip := d.trip - 1 } : Dk) = d' at *
      generalize d.trip = T at *
      generalize d.off = O at *
      have t1 : decide (0 < T) = true := by simpa using h1
      go_enter Try.func52, Try.ntmps52
      go_wp2
      go_ret
      exact ⟨rfl, HJ.out, chg_cell _ _ _ _⟩
    · have hs : d.step = (d, true) := by unfold Dk.step; rw [if_neg h0, if_neg h1]
      rw [hs]
      clear h0 K2 K3 hs
      have t1 : decide (0 < d.trip) = false := by simpa using h1
      generalize hT : d.trip = T at *
      have hT := Bx.mk hT
      go_enter Try.func52, Try.ntmps52
      go_wp2
      go_ret
      exact ⟨rfl, H.out, Chg.refl _ _⟩
theorem rnow_any (w : World) (q g cap : Nat) (d : Dk) (h : RkIs w q g cap d) (i : Nat) (x : Pg) (hx : d.p[i]? = some x) :
    Calls Try.prog 51 #[.pointer (some ⟨q, 0, none⟩), .int .i64 (i : Int)] w fun e w' => e = .returned (.string (strOfNums x.now)) ∧ w = w' := by
  have hi := (List.getElem?_eq_some_iff.1 hx).1
  have hfew := h.ok.few
  have c0 := h.kq.cell 0 rfl
  have p0 := h.pg.at_ i 0 hi (by omega)
  have p1 := h.pg.at_ i 1 hi (by omega)
  have p2 := h.pg.at_ i 2 hi (by omega)
  rw [fof_at hx] at p0 p1 p2
  have b0 : (0 : Int) ≤ (i : Int) := by omega
  have b1 : (i : Int) < (d.p.length : Int) := by omega
  clear h hx hi
  obtain ⟨o, nw⟩ := x
  simp only [rcell, Nat.add_zero] at p0 p1 p2
  cases nw with
  | none =>
    simp only [Option.isSome_none] at p2
    go_enter Try.func51, Try.ntmps51
    go_wp2
    go_ret
    exact ⟨rfl, rfl⟩
  | some n =>
    simp only [Option.isSome_some, Option.getD_some] at p1 p2
    go_enter Try.func51, Try.ntmps51
    go_wp2
    go_ret
    exact ⟨rfl, rfl⟩
theorem rread_any (w : World) (q g cap : Nat) (d : Dk) (h : RkIs w q g cap d) (i : Int) :
    Calls Try.prog 33 #[.pointer (some ⟨q, 0, none⟩), .int .i64 i] w fun e w' => e = .returned (.tuple #[.string (strOfNums (d.read i).1), .int .i64 (d.read i).2]) ∧ w = w' := by
  have c2 := h.kq.cell 1 rfl
  have hIs := Bx.mk (ris_any w q g cap d h i)
  by_cases ho : d.off = true
  · have hr : d.read i = ([], 20) := by unfold Dk.read eDown; rw [if_pos ho]
    rw [hr]
    clear h hr
    go_enter Try.func33, Try.ntmps33
    go_wp2_with (go_at_call 50; refine hIs.out.mono ?_; rintro _ _ ⟨rfl, rfl⟩)
    go_ret2
    exact ⟨rfl, rfl⟩
  · replace ho : d.off = false := by simpa using ho
    by_cases hi : d.is i = true
    · obtain ⟨k, x, rfl, hx⟩ := is_at hi
      have hr : d.read k = (x.now, 0) := by unfold Dk.read; rw [ho, hi, Int.toNat_natCast, hx]; rfl
      rw [hr]
      have hN := Bx.mk (rnow_any w q g cap d h k x hx)
      rw [hi] at hIs
      clear h hr hx hi
      generalize x.now = xs at *
      generalize d.off = O at *
      subst ho
      go_enter Try.func33, Try.ntmps33
      go_wp2_with (first
        | (go_at_call 50; refine hIs.out.mono ?_; rintro _ _ ⟨rfl, rfl⟩)
        | (go_at_call 51; refine hN.out.mono ?_; rintro _ _ ⟨rfl, rfl⟩))
      go_ret2
      exact ⟨rfl, rfl⟩
    · replace hi : d.is i = false := by simpa using hi
      have hr : d.read i = ([], 1) := by unfold Dk.read eArg; rw [ho, hi]; rfl
      rw [hr]
      rw [hi] at hIs
      clear h hr hi
      go_enter Try.func33, Try.ntmps33
      go_wp2_with (go_at_call 50; refine hIs.out.mono ?_; rintro _ _ ⟨rfl, rfl⟩)
      go_ret2
      exact ⟨rfl, rfl⟩
end Go.Proofs.Ytaajkhdmeghnbaa
