/- The laws' plain part: lengths, reads, what a flush and a mount leave; one disk kept apart. -/
import Derived.Test.YtaajkhdmeghnbaaSnw
import Derived.Test.YtaajkhdmeghnbaaPla2
namespace Go.Proofs.Ytaajkhdmeghnbaa
open Go.RowKit Go.Sort

theorem step_len (d : Dk) : d.step.1.p.length = d.p.length := by rw [step_p]
theorem doOp_len (d : Dk) (x : Opn) : (d.doOp x).1.p.length = d.p.length := by
  unfold Dk.doOp
  split
  · rfl
  split
  · unfold Dk.write
    split
    · rfl
    split
    · rfl
    split
    · exact step_len d
    · show (List.modify _ _ _).length = _
      rw [List.length_modify]
  split
  · unfold Dk.flush
    split
    · rfl
    split
    · exact step_len d
    · show (List.map _ _).length = _
      rw [List.length_map]
  split
  · rfl
  split
  · exact settled_len _ _ _
  split
  · unfold Dk.rot
    split
    · rfl
    · show (List.modify _ _ _).length = _
      rw [List.length_modify]
  · rfl
theorem playN_len (n : Nat) (xs : List Opn) : (playN (mkDk n) xs).p.length = n := by
  have key : ∀ (xs : List Opn) (d : Dk), (playN d xs).p.length = d.p.length := by
    intro xs
    induction xs with
    | nil => intro d; rfl
    | cons x xs ih => intro d; exact (ih _).trans (doOp_len d x)
  rw [key]
  exact List.length_replicate ..
/-- what is read of the first n pages -/
def Dk.reads (d : Dk) (n : Nat) : List (List Int) := (List.range n).map fun i : Nat => (d.read (i : Int)).1
theorem reads_len (d : Dk) (n : Nat) : (d.reads n).length = n := by unfold Dk.reads; rw [List.length_map, List.length_range]
theorem reads_at (d : Dk) {n k : Nat} (h : k < n) : (d.reads n)[k]? = some (d.read k).1 := by
  unfold Dk.reads
  rw [List.getElem?_map, List.getElem?_range h]; rfl
theorem read_on {d : Dk} (ho : d.off = false) {k : Nat} {x : Pg} (hx : d.p[k]? = some x) : d.read k = (x.now, 0) := by
  have hi : d.is k = true := by
    have := (List.getElem?_eq_some_iff.1 hx).1
    unfold Dk.is
    simp; omega
  unfold Dk.read
  rw [ho, hi, Int.toNat_natCast, hx]; rfl
theorem reads_on {d : Dk} (ho : d.off = false) : d.reads d.p.length = d.p.map Pg.now := by
  apply List.ext_getElem?
  intro k
  by_cases hk : k < d.p.length
  · rw [reads_at d hk, List.getElem?_map, read_on ho (List.getElem?_eq_getElem hk), List.getElem?_eq_getElem hk]; rfl
  · rw [List.getElem?_eq_none (by rw [reads_len]; omega), List.getElem?_eq_none (by rw [List.length_map]; omega)]
theorem pend_nil {p : List Pg} (h : ∀ x ∈ p, x.2 = none) : pendOf p = [] := by
  rw [List.eq_nil_iff_forall_not_mem]
  intro i hi
  have h1 := mem_pend.1 hi
  have h2 := isPend_lt h1
  unfold isPend at h1
  rw [List.getElem?_eq_getElem h2, Option.bind_some, h _ (List.getElem_mem h2)] at h1
  cases h1
theorem pend_mount (d : Dk) (picks : List Int) : pendOf (d.mount picks).p = [] := pend_nil fun _ hx => settled_end_none picks hx
/-- one disk, all in blocks from B on -/
structure One (B p g mb cap m : Nat) (d : Dk) (w : World) : Prop where
  dk : DkIs w p g mb cap m d
  lo : ∀ k, In3 p g mb k → B ≤ k
section
variable {B p g mb cap m q gq cq : Nat} {d d' d2 : Dk} {w w' : World}
theorem Both.one (h : Both B p g mb cap m q gq cq d d' w) : One B p g mb cap m d w := ⟨h.dk, h.lo3⟩
theorem One.of (h : One B p g mb cap m d w) {m' : Nat} (hd : DkIs w' p g mb cap m' d2) : One B p g mb cap m' d2 w' := ⟨hd, h.lo⟩
theorem One.later (h : One B p g mb cap m d w) (hb : Below w.heap.size w w') : One B p g mb cap m d w' := ⟨h.dk.later hb, h.lo⟩
theorem One.bel {w0 : World} (h : One B p g mb cap m d w) (hb : Below B w0 w) (hB : B ≤ w.heap.size) (hc : Chg (In3 p g mb) w w') : Below B w0 w' := hb.trans (hc.below hB fun k hk e => by have := h.lo k e; omega)
theorem One.not (h : One B p g mb cap m d w) {b : Nat} (hb : b < B) : ¬ In3 p g mb b := fun e => by have := h.lo b e; omega
end
theorem sl_lt {w : World} {k : IntKind} {a : Option Addr} {xs : List Int} (h : Sl w k a xs) : ∀ b o, a = some ⟨b, o, none⟩ → 0 < xs.length → b < w.heap.size := fun b o e hl => by
  obtain ⟨b', o', e', hc⟩ := h 0 _ (List.getElem?_eq_getElem hl)
  rw [e] at e'
  injection e' with e'
  injection e' with e1 _ _
  rw [e1]
  exact block_lt_of_cell hc
/-- the law's words on a flush -/
theorem flush_gives {D : Dk} (ho : D.off = false) (hn : 1 ≤ D.p.length) (picks : List Int) : ∃ D2 D4 : Dk, (D.setTrip (-1)).flush = (D2, 0) ∧ (D2.setTrip 0).write 0 0 [122] = (D4, 20) ∧
    (D4.mount picks).image = (D.setTrip (-1)).reads D.p.length ∧ pendOf (D4.mount picks).p = [] := by
  have ht : (D.setTrip (-1)).trip = -1 := by unfold Dk.setTrip; show max (-1 : Int) (-1) = -1; omega
  have hf : (D.setTrip (-1)).flush = ({ D.setTrip (-1) with p := D.p.map fun x => (x.now, none) }, 0) := by
    have hs : (D.setTrip (-1)).step = (D.setTrip (-1), true) := by unfold Dk.step; rw [ht, if_neg (by omega), if_neg (by omega)]
    unfold Dk.flush
    rw [hs, show (D.setTrip (-1)).off = false from ho]
    rfl
  refine ⟨_, { D with p := D.p.map fun x => (x.now, none), off := true, trip := 0 }, hf, ?_, ?_, pend_mount _ _⟩
  · unfold Dk.write Dk.step Dk.setTrip Dk.is eDown
    have h0 : 0 < D.p.length := by omega
    have hm : max (0 : Int) (-1) = 0 := by omega
    simp [ho, h0, hm]
  · have hr : (D.setTrip (-1)).reads D.p.length = D.p.map Pg.now := reads_on (d := D.setTrip (-1)) ho
    rw [hr]
    unfold Dk.image Dk.mount
    have hp : pendOf (D.p.map fun x => (x.now, none)) = [] := pend_nil fun x hx => by
      obtain ⟨y, _, rfl⟩ := List.mem_map.1 hx
      rfl
    simp only [hp, List.length_nil, settled_zero, List.map_map]
    rfl
theorem flush_gone {D : Dk} (ho : D.off = true) : (D.setTrip (-1)).flush = (D.setTrip (-1), 20) := by
  unfold Dk.flush eDown
  rw [if_pos (show (D.setTrip (-1)).off = true from ho)]
end Go.Proofs.Ytaajkhdmeghnbaa
