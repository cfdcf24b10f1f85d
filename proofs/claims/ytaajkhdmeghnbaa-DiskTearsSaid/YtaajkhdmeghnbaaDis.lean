/- The program's disk: what lies in memory; the small functions. -/
import Derived.Test.YtaajkhdmeghnbaaPgm
import Derived.Test.YtaajkhdmeghnbaaShf
import Derived.Deep.Cut
import Derived.Deep.CutRange
import Derived.Deep.RegionHeld3
import Derived.Deep.QuietTactic
import Derived.BigQuiet
namespace Go.Proofs.Ytaajkhdmeghnbaa
open Go.RowKit

theorem chg_cell (w : World) (p o : Nat) (v : Value) : Chg (· = p) w (w.setCell ⟨p, o, none⟩ v) := Chg.setCell (S := (· = p)) (Chg.refl _ _) (.inl rfl) _
/-- the program's disk d: its struct in block p, the pages in block g, the map in block mb -/
structure DkIs (w : World) (p g mb cap m : Nat) (d : Dk) : Prop where
  ok : DkOk d
  pos : 0 < d.p.length
  hcap : d.p.length ≤ cap ∧ cap ≤ maxLen
  kp : Bk w p #[.slice (some ⟨g, 0, none⟩) d.p.length cap, .map (some mb), .bool d.off, .int .i64 d.trip] 69
  pg : Pages w g d.p
  km : PgMap w mb m d.p
  ne : p ≠ g ∧ g ≠ mb ∧ p ≠ mb
/-- the blocks of a disk -/
def In3 (p g mb : Nat) (k : Nat) : Prop := k = p ∨ k = g ∨ k = mb
section
variable {w w' : World} {p g mb cap m : Nat} {d : Dk}
theorem DkIs.chg {S : Nat → Prop} (h : DkIs w p g mb cap m d) (hc : Chg S w w') (hn : ∀ k, In3 p g mb k → ¬ S k) : DkIs w' p g mb cap m d :=
  ⟨h.ok, h.pos, h.hcap, h.kp.chg hc (hn _ (.inl rfl)), h.pg.chg hc (hn _ (.inr (.inl rfl))), h.km.chg hc (hn _ (.inr (.inr rfl))), h.ne⟩
theorem DkIs.later (h : DkIs w p g mb cap m d) (hb : Below w.heap.size w w') : DkIs w' p g mb cap m d := h.chg (.ofBelow hb (fun _ => False)) (fun _ _ e => e)
theorem DkIs.lt (h : DkIs w p g mb cap m d) : p < w.heap.size ∧ g < w.heap.size ∧ mb < w.heap.size := ⟨h.kp.lt, h.pg.lt, h.km.lt⟩
theorem DkIs.mono (h : DkIs w p g mb cap m d) {m' : Nat} (hm : m ≤ m') : DkIs w p g mb cap m' d := ⟨h.ok, h.pos, h.hcap, h.kp, h.pg, h.km.mono hm, h.ne⟩
end
theorem is_any (w : World) (p g mb cap m : Nat) (d : Dk) (h : DkIs w p g mb cap m d) (i : Int) :
    Calls Try.prog 43 #[.pointer (some ⟨p, 0, none⟩), .int .i64 i] w fun e w' => e = .returned (.bool (d.is i)) ∧ w = w' := by
  have c0 := h.kp.cell 0 rfl
  unfold Dk.is
  have hl := h.ok.few
  clear h
  generalize d.p.length = n at *
  by_cases h0 : 0 ≤ i
  · have t0 : decide (0 ≤ i) = true := by simpa using h0
    go_enter Try.func43, Try.ntmps43
    go_wp2
    go_ret
    exact ⟨ret_bool (by simp [h0]), rfl⟩
  · have t0 : decide (0 ≤ i) = false := by simpa using h0
    go_enter Try.func43, Try.ntmps43
    go_wp2
    go_ret
    exact ⟨ret_bool (by simp), rfl⟩
theorem len_any (w : World) (p g mb cap m : Nat) (d : Dk) (h : DkIs w p g mb cap m d) :
    Calls Try.prog 31 #[.pointer (some ⟨p, 0, none⟩)] w fun e w' => e = .returned (.int .i64 (d.p.length : Int)) ∧ w = w' := by
  have c0 := h.kp.cell 0 rfl
  clear h
  go_enter Try.func31, Try.ntmps31
  go_wp2
  go_ret
  exact ⟨rfl, rfl⟩
theorem up_any (w : World) (p g mb cap m : Nat) (d : Dk) (h : DkIs w p g mb cap m d) :
    Calls Try.prog 20 #[.pointer (some ⟨p, 0, none⟩)] w fun e w' => e = .returned (.bool (!d.off)) ∧ w = w' := by
  have c0 := h.kp.cell 2 rfl
  clear h
  go_enter Try.func20, Try.ntmps20
  go_wp2
  go_ret
  exact ⟨rfl, rfl⟩
theorem DkIs.put {w : World} {p g mb cap m : Nat} {d : Dk} (h : DkIs w p g mb cap m d) (d' : Dk) (w' : World) (hp : d'.p = d.p) (ht : -1 ≤ d'.trip ∧ d'.trip ≤ 9223372036854775807)
    (hk : Bk w' p #[.slice (some ⟨g, 0, none⟩) d.p.length cap, .map (some mb), .bool d'.off, .int .i64 d'.trip] 69) (hc : Chg (· = p) w w') : DkIs w' p g mb cap m d' :=
  ⟨⟨by rw [hp]; exact h.ok.pages, ht.1, ht.2, by rw [hp]; exact h.ok.few⟩, by rw [hp]; exact h.pos, by rw [hp]; exact h.hcap, by rw [hp]; exact hk,
    by rw [hp]; exact h.pg.chg hc (fun e => h.ne.1 e.symm), by rw [hp]; exact h.km.chg hc (fun e => h.ne.2.2 e.symm), h.ne⟩
theorem trip_any (w : World) (p g mb cap m : Nat) (d : Dk) (h : DkIs w p g mb cap m d) (n : Int) (hn : -9223372036854775808 ≤ n ∧ n ≤ 9223372036854775807) :
    Calls Try.prog 17 #[.pointer (some ⟨p, 0, none⟩), .int .i64 n] w fun e w' => e = .returned (.tuple #[]) ∧ DkIs w' p g mb cap m (d.setTrip n) ∧ Chg (· = p) w w' := by
  have H := Bx.mk h
  have c3 := h.kp.cell 3 rfl
  have f3 := h.kp.frozen 3
  have hm : (if n < -1 then -1 else n) = max n (-1) := by omega
  clear h
  go_enter Try.func17, Try.ntmps17
  go_wp2
  go_end0
  exact ⟨rfl, H.out.put _ _ rfl ⟨by show -1 ≤ max n (-1); omega, by show max n (-1) ≤ _; omega⟩ (H.out.kp.set 3 _) (chg_cell _ _ _ _), chg_cell _ _ _ _⟩
/-- what a step of the program's answers -/
def StepPost (p g mb cap m : Nat) (w : World) (d' : Dk) (n : Int) (e : Ending) (w' : World) : Prop := e = .returned (.int .i64 n) ∧ DkIs w' p g mb cap m d' ∧ Chg (· = p) w w'
def errS (b : Bool) : Int := if b = true then 0 else 20
theorem step_any (w : World) (p g mb cap m : Nat) (d : Dk) (h : DkIs w p g mb cap m d) :
    Calls Try.prog 46 #[.pointer (some ⟨p, 0, none⟩)] w (StepPost p g mb cap m w d.step.1 (errS d.step.2)) := by
  have H := Bx.mk h
  have c2 := h.kp.cell 2 rfl
  have f2 := h.kp.frozen 2
  have c3 := h.kp.cell 3 rfl
  have f3 := h.kp.frozen 3
  have b1 := h.ok.lo
  have b2 := h.ok.hi
  have K2 : ∀ v, Bk (w.setCell ⟨p, 2, none⟩ v) p #[.slice (some ⟨g, 0, none⟩) d.p.length cap, .map (some mb), v, .int .i64 d.trip] 69 := fun v => h.kp.set 2 v
  have K3 : ∀ v, Bk (w.setCell ⟨p, 3, none⟩ v) p #[.slice (some ⟨g, 0, none⟩) d.p.length cap, .map (some mb), .bool d.off, v] 69 := fun v => h.kp.set 3 v
  clear h
  by_cases h0 : d.trip = 0
  · have ht : decide (d.trip = 0) = true := by simpa using h0
    have t0 : (d.trip == 0) = true := by simpa using h0
    have hs : d.step = ({ d with off := true }, false) := by unfold Dk.step; rw [if_pos h0]
    rw [hs]
    have HK := Bx.mk fun hk => H.out.put { d with off := true } (w.setCell ⟨p, 2, none⟩ (.bool true)) rfl ⟨b1, b2⟩ hk (chg_cell _ _ _ _)
    have HJ := Bx.mk (HK.out (K2 _))
    clear h0 K2 K3 H hs HK
    generalize ({ d with off := true } : Dk) = d' at *
    generalize d.trip = T at *
    generalize d.off = O at *
    go_enter Try.func46, Try.ntmps46
    go_wp2
    go_ret
    exact ⟨rfl, HJ.out, chg_cell _ _ _ _⟩
  · have ht : decide (d.trip = 0) = false := by simpa using h0
    have t0 : (d.trip == 0) = false := by simpa using h0
    by_cases h1 : 0 < d.trip
    · have hs : d.step = ({ d with trip := d.trip - 1 }, true) := by unfold Dk.step; rw [if_neg h0, if_pos h1]
      rw [hs]
      have HK := Bx.mk fun hk => H.out.put { d with trip := d.trip - 1 } (w.setCell ⟨p, 3, none⟩ (.int .i64 (d.trip - 1))) rfl ⟨by show -1 ≤ d.trip - 1; omega, by show d.trip - 1 ≤ _; omega⟩ hk (chg_cell _ _ _ _)
      have HJ := Bx.mk (HK.out (K3 _))
      clear h0 K2 K3 H hs HK
      generalize ({ d with trip := d.trip - 1 } : Dk) = d' at *
      generalize d.trip = T at *
      generalize d.off = O at *
      have t1 : decide (0 < T) = true := by simpa using h1
      go_enter Try.func46, Try.ntmps46
      go_wp2
      go_ret
      exact ⟨rfl, HJ.out, chg_cell _ _ _ _⟩
    · have hs : d.step = (d, true) := by unfold Dk.step; rw [if_neg h0, if_neg h1]
      rw [hs]
      clear h0 K2 K3 hs
      have t1 : decide (0 < d.trip) = false := by simpa using h1
      generalize hT : d.trip = T at *
      have hT := Bx.mk hT
      go_enter Try.func46, Try.ntmps46
      go_wp2
      go_ret
      exact ⟨rfl, H.out, Chg.refl _ _⟩
theorem row_cells (xs : List Int) (k : IntKind) : (xs.map (Value.int k)).toArray.size = xs.length := by simp
theorem pgInfo : ∀ cs : Array Value, cs.size = 128 → (Try.prog.info? 72).map (·.size) = some cs.size := fun cs h => by rw [h]; kernel_rfl
set_option maxRecDepth 100000 in
theorem text_any (w : World) (xs : List Int) (hl : xs.length = 128) :
    Calls Try.prog 45 #[arrV .u8 xs] w fun e w' => e = .returned (.string (strOfNums xs)) ∧ Below w.heap.size w w' := by
  have hsl : Sl (w.alloc (.cells (xs.map (Value.int .u8)).toArray 72)) .u8 (some ⟨w.heap.size, 0, none⟩) xs := fun i x hx => ⟨_, 0, rfl, by rw [Nat.zero_add]; exact cells_new _ _ _ _ _ (by rw [List.getElem?_toArray, List.getElem?_map, hx]; rfl)⟩
  have hcv := conv_str (P := Try.prog) 75 5 9 Try.underlying75 Try.underlying5 Try.underlying9 hsl 128 128 hl.symm
  clear hl hsl
  unfold arrV
  generalize (xs.map (Value.int .u8)).toArray = cs at *
  go_enter Try.func45, Try.ntmps45
  go_wp2_with fail
  go_ret
  exact ⟨rfl, (Below.refl _ _).alloc (Nat.le_refl _) _⟩
/-- what New makes -/
theorem new_bad (w : World) (n : Int) (h : n < 1 ∨ 4096 < n) : Calls Try.prog 11 #[.int .i64 n] w fun e w' => e = .returned (.tuple #[.pointer none, .int .i64 1]) ∧ w = w' := by
  rcases h with h | h
  · go_enter Try.func11, Try.ntmps11
    go_wp2
    go_ret2
    exact ⟨rfl, rfl⟩
  · have h2 : ¬ n < 1 := by omega
    go_enter Try.func11, Try.ntmps11
    go_wp2
    go_ret2
    exact ⟨rfl, rfl⟩
theorem mkDk_ok (n : Nat) (h : n ≤ 40) : DkOk (mkDk n) := by
  refine ⟨fun x hx => ?_, by show (-1 : Int) ≤ -1; omega, by show (-1 : Int) ≤ _; omega, by unfold mkDk; rw [List.length_replicate]; exact h⟩
  unfold mkDk at hx
  simp only [List.mem_replicate] at hx
  rw [hx.2]
  exact ⟨zer_len, byt_zer, fun n h => by cases h⟩
def NewPost (n : Nat) (w : World) (e : Ending) (w' : World) : Prop :=
  ∃ p g mb, e = .returned (.tuple #[.pointer (some ⟨p, 0, none⟩), .int .i64 0]) ∧ DkIs w' p g mb n 0 (mkDk n) ∧ w.heap.size ≤ p ∧ w.heap.size ≤ g ∧ w.heap.size ≤ mb ∧ Below w.heap.size w w'
theorem pgAll : (Try.prog.info? 72).map (fun i => (i.zero, i.size, i.bytes)) = some (some (arrV .u8 zer), 128, 128) := by kernel_rfl
/-- the cells of n new pages -/
def zcells (n : Nat) : Array Value := (List.replicate (n * 128) (Value.int .u8 0)).toArray
theorem zer_get {i : Nat} {x : Int} (h : zer[i]? = some x) : x = 0 := by
  have := List.mem_of_getElem? h
  unfold zer at this
  exact (List.mem_replicate.1 this).2
set_option maxRecDepth 100000 in
theorem made_zer (n : Nat) : madeCells (arrV .u8 zer).cells (n * 128) = zcells n := by
  apply Array.ext
  · simp [madeCells, zcells]
  · intro i h1 h2
    have hc : (arrV .u8 zer).cells = (zer.map (Value.int .u8)).toArray := rfl
    have hs : ((zer.map (Value.int .u8)).toArray).size = 128 := by rw [row_cells, zer_len]
    have hl : i % 128 < (zer.map (Value.int .u8)).toArray.size := by rw [hs]; omega
    have h3 : (madeCells (arrV .u8 zer).cells (n * 128))[i] = (zer.map (Value.int .u8)).toArray[i % 128]! := by
      simp only [madeCells, Array.getElem_map, Array.getElem_range, hc, hs]
    rw [h3, getElem!_pos (zer.map (Value.int .u8)).toArray (i % 128) hl]
    have h4 : (zcells n)[i] = Value.int .u8 0 := by
      have : ∀ h, ((List.replicate (n * 128) (Value.int .u8 0)).toArray)[i]'h = Value.int .u8 0 := fun h => by rw [List.getElem_toArray, List.getElem_replicate]
      exact this _
    rw [h4, List.getElem_toArray, List.getElem_map]
    have h5 : zer[i % 128]? = some (zer[i % 128]'(by rw [zer_len]; omega)) := List.getElem?_eq_getElem _
    rw [zer_get h5]
theorem made_pages (W : World) (n : Nat) (hn : n ≤ 40) : (Instr.makeSlice 66 (.int .i64 (n : Int)) (.int .i64 (n : Int))).run Try.prog W = .ok (.slice (some ⟨W.heap.size, 0, none⟩) n n) (W.alloc (.cells (zcells n) 72)) := by
  obtain ⟨i0, hi0, hz0, hz1, hz2⟩ := info_parts pgAll
  have := run_make W 66 72 i0 _ Try.underlying66 hi0 hz0 .i64 .i64 (n : Int) (n : Int) (by omega) (Int.le_refl _) (by rw [hz2]; omega) (by omega)
  rw [hz1, Int.toNat_natCast, made_zer] at this
  exact this
theorem pages_made (w : World) (n : Nat) (t : TypeId) : Pages (w.alloc (.cells (zcells n) t)) w.heap.size (List.replicate n (zer, none)) := by
  have hc : ∀ j, j < n * 128 → (w.alloc (.cells (zcells n) t)).cell? ⟨w.heap.size, j, none⟩ = some (.int .u8 0) := fun j hj => cells_new _ _ _ _ _ (by unfold zcells; rw [List.getElem?_toArray, List.getElem?_replicate, if_pos hj])
  refine ⟨fun i x hx j v hv => ?_, fun j hj => ?_, by simp⟩
  · rw [List.getElem?_replicate] at hx
    split at hx
    · injection hx with hx
      subst hx
      rw [List.getElem?_map] at hv
      cases hz : zer[j]? with
      | none => rw [hz] at hv; cases hv
      | some y =>
        rw [hz] at hv
        obtain rfl := zer_get hz
        have hj := (List.getElem?_eq_some_iff.1 hz).1
        rw [zer_len] at hj
        injection hv with hv
        rw [← hv]
        exact hc _ (by omega)
    · cases hx
  · rw [List.length_replicate] at hj
    rw [Nat.zero_add, hc j hj]
    exact ⟨rfl, frozen_new _ _ _ _⟩
theorem new_ok (w : World) (n : Nat) (h1 : 1 ≤ n) (h2 : n ≤ 40) : Calls Try.prog 11 #[.int .i64 (n : Int)] w (NewPost n w) := by
  have h3 : ¬ (n : Int) < 1 := by omega
  have h4 : (n : Int) ≤ 4096 := by omega
  have hmk := fun W => made_pages W n h2
  have hmm := @run_makeMap Try.prog
  go_enter Try.func11, Try.ntmps11
  go_wp2
  go_ret2
  have hpg := pages_made w n 72
  generalize hz : zcells n = Z at *
  have e1 := PgMap.made (w.alloc (.cells Z 72)) (p := List.replicate n (zer, none)) (fun x hx => by rw [(List.mem_replicate.1 hx).2])
  rw [show (w.alloc (.cells Z 72)).heap.size = w.heap.size + 1 by simp] at e1
  have b2 := (Below.refl (w.alloc (.cells Z 72)).heap.size _).alloc (Nat.le_refl _) (.map #[] 0)
  refine ⟨w.heap.size + 1 + 1, w.heap.size, w.heap.size + 1, rfl, ⟨mkDk_ok n h2, ?_, ?_, ?_, ?_, ?_, by omega, by omega, by omega⟩, by omega, by omega, by omega, ?_⟩
  · show 0 < (List.replicate n (zer, none)).length
    rw [List.length_replicate]; omega
  · show (List.replicate n (zer, none)).length ≤ n ∧ n ≤ maxLen
    rw [List.length_replicate]; unfold maxLen; omega
  · show Bk _ _ #[.slice _ (List.replicate n (zer, none)).length n, _, _, _] _
    rw [List.length_replicate]
    exact blk_new _ _ _ (by simp)
  · exact (hpg.later b2).later ((Below.refl _ _).alloc (Nat.le_refl _) _)
  · exact e1.chg (.ofBelow ((Below.refl _ _).alloc (Nat.le_refl _) _) (fun _ => False)) (fun e => e)
  · exact (((Below.refl _ _).alloc (Nat.le_refl _) _).alloc (by simp) _).alloc (by simp; omega) _
end Go.Proofs.Ytaajkhdmeghnbaa
