/- Mount, plainly: which pages are torn, and where. -/
import Derived.Test.YtaajkhdmeghnbaaOne
namespace Go.Proofs.Ytaajkhdmeghnbaa
open Go.RowKit Go.Sort

theorem rank_end (p : List Pg) : rank p p.length = (pendOf p).length := rfl
theorem mount_read {D : Dk} (picks : List Int) {i : Nat} {x : Pg} (hx : D.p[i]? = some x) : (D.mount picks).read (i : Int) = ((if rank D.p i < (pendOf D.p).length then x.settle (pick picks (rank D.p i)) else x).now, 0) :=
  read_on (d := D.mount picks) rfl (settled_at hx picks _)
theorem tear_pend {D : Dk} (ho : DkOk D) (picks : List Int) {i : Nat} {x : Pg} (hx : D.p[i]? = some x) (hp : isPend D.p i = true) :
    ∃ n, x.2 = some n ∧ n.length = 128 ∧ (D.mount picks).read (i : Int) = (n.take (pick picks (rank D.p i)) ++ x.1.drop (pick picks (rank D.p i)), 0) ∧ rank D.p (i + 1) = rank D.p i + 1 ∧ (pendOf D.p)[rank D.p i]? = some i := by
  have hat := at_rank hp
  have hlt := (List.getElem?_eq_some_iff.1 hat).1
  have hok := ho.pages x (List.mem_of_getElem? hx)
  rw [mount_read picks hx, if_pos hlt, rank_succ, if_pos hp]
  unfold isPend at hp
  rw [hx] at hp
  obtain ⟨a, b⟩ := x
  cases b with
  | none => cases hp
  | some n => exact ⟨n, rfl, (hok.2.2 n rfl).1, rfl, rfl, hat⟩
theorem tear_not {D : Dk} (picks : List Int) {i : Nat} {x : Pg} (hx : D.p[i]? = some x) (hp : isPend D.p i = false) :
    (D.mount picks).read (i : Int) = (x.1, 0) ∧ rank D.p (i + 1) = rank D.p i ∧ (rank D.p i = (pendOf D.p).length ∨ ∃ j, (pendOf D.p)[rank D.p i]? = some j ∧ j ≠ i) := by
  have hil := (List.getElem?_eq_some_iff.1 hx).1
  rw [mount_read picks hx, settle_not hx hp, ite_self, rank_succ, if_neg (by rw [hp]; simp)]
  refine ⟨?_, rfl, ?_⟩
  · unfold isPend at hp
    rw [hx] at hp
    obtain ⟨a, b⟩ := x
    cases b with
    | none => rfl
    | some n => cases hp
  · have h1 : rank D.p i ≤ (pendOf D.p).length := by rw [← rank_end]; exact rank_mono _ (by omega)
    by_cases h2 : rank D.p i = (pendOf D.p).length
    · exact .inl h2
    · right
      obtain ⟨j, hj⟩ : ∃ j, (pendOf D.p)[rank D.p i]? = some j := ⟨_, List.getElem?_eq_getElem (by omega)⟩
      refine ⟨j, hj, fun e => ?_⟩
      subst e
      rw [(rank_at hj).1] at hp; cases hp
theorem ints_at {l : List Nat} {k i : Nat} (h : l[k]? = some i) : (ints l)[k]? = some (i : Int) := by unfold ints; rw [List.getElem?_map, h]; rfl
theorem pick_at {picks : List Int} {k : Nat} {x : Int} (h : picks[k]? = some x) : (pick picks k : Int) = min (max x 0) 128 := by
  unfold pick
  rw [h]
  show ((min (max x 0) 128).toNat : Int) = _
  omega
theorem pick_out {picks : List Int} {k : Nat} (h : picks.length ≤ k) : pick picks k = 128 := by
  unfold pick
  rw [List.getElem?_eq_none h]
end Go.Proofs.Ytaajkhdmeghnbaa
