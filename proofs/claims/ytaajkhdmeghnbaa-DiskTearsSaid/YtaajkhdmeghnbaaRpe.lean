/- The reference's Pending, Image, Mount. -/
import Derived.Test.YtaajkhdmeghnbaaRse2
namespace Go.Proofs.Ytaajkhdmeghnbaa
open Go.RowKit Go.Sort

/-- the numbers of the pending pages among the first k -/
def pendTo (p : List Pg) (k : Nat) : List Nat := (List.range k).filter fun i => (p[i]?.bind (·.2)).isSome
theorem pendTo_succ (p : List Pg) (k : Nat) : pendTo p (k + 1) = pendTo p k ++ if isPend p k = true then [k] else [] := by
  unfold pendTo isPend
  rw [List.range_succ, List.filter_append]
  cases h : (p[k]?.bind (·.2)).isSome <;> simp [h]
theorem pendTo_len (p : List Pg) (k : Nat) : (pendTo p k).length ≤ k := by
  have := List.length_filter_le (fun i => (p[i]?.bind (·.2)).isSome) (List.range k)
  rwa [List.length_range] at this
theorem ints_snoc (l : List Nat) (k : Nat) : ints (l ++ [k]) = ints l ++ [(k : Int)] := by unfold ints; rw [List.map_append]; rfl
structure RpI (w : World) (p : List Pg) (k : Nat) (v : Value) (wr : World) : Prop where
  own : Own wr w.heap.size 3 .i64 v (ints (pendTo p k))
  bel : Below w.heap.size w wr
set_option maxRecDepth 100000 in
theorem rpend_any (w : World) (q g cap : Nat) (d : Dk) (h : RkIs w q g cap d) : Calls Try.prog 42 #[.pointer (some ⟨q, 0, none⟩)] w (PendPost w d.p) := by
  have hfew := h.ok.few
  have H := Bx.mk h
  have HI : Bx (RpI w d.p 0 (.slice none 0 0) w) := ⟨Own.nil _ _ _ _, Below.refl _ _⟩
  clear h
  generalize hn : d.p.length = n at *
  replace hn := Bx.mk hn
  go_enter Try.func42, Try.ntmps42
  go_wp2_with fail
  go_loopw [3, 4] (fun v3 v4 wr => ∃ k : Nat, k ≤ n ∧ v4 = .int .i64 k ∧ Bx (RpI w d.p k v3 wr)) (fun _ v4 _ => n - (intOf v4).toNat)
  case atStart => exact ⟨0, by omega, rfl, HI⟩
  case round =>
    clear HI
    obtain ⟨k, hk, rfl, HI⟩ := hrel
    have Hr := H.out.later HI.out.bel
    have c0 := Hr.kq.cell 0 rfl
    simp only [hn.out] at c0
    by_cases hlt2 : k < n
    · have t0 : decide ((k : Int) < (n : Int)) = true := by simp; omega
      have hkl : k < d.p.length := by have := hn.out; omega
      obtain ⟨x, hx⟩ : ∃ x, d.p[k]? = some x := ⟨_, List.getElem?_eq_getElem hkl⟩
      have p2 := Hr.pg.at_ k 2 hkl (by omega)
      rw [fof_at hx] at p2
      simp only [rcell] at p2
      have hsu := pendTo_succ d.p k
      have hip : isPend d.p k = x.2.isSome := by unfold isPend; rw [hx]; rfl
      rw [hip] at hsu
      have b0 : (0 : Int) ≤ (k : Int) := by omega
      have b1 : (k : Int) < (n : Int) := by omega
      clear hx hip Hr
      by_cases hp : x.2.isSome = true
      · rw [hp] at p2 hsu
        rw [if_pos rfl] at hsu
        replace hsu := Bx.mk hsu
        have hlen := Bx.mk (show (ints (pendTo d.p k)).length ≤ 1000000000 by unfold ints; rw [List.length_map]; have := pendTo_len d.p k; omega)
        go_wp2_with (at_builtin; refine wpList_append_int rfl _ _ _ rfl 3 .i64 (.int .i64 0) 8 (by decide) Try.underlying32 (by kernel_rfl) rfl w.heap.size _ (ints (pendTo d.p k)) rfl (HI.out.own.alloc _) (k : Int) ⟨wr.heap.size, 0, none⟩ 1 rfl (cell_new _ _ _) hlen.out (le_alloc HI.out.bel.size _) ?_)
        intro v' w4 ho hg hv
        have HI4 : Bx (RpI w d.p (k + 1) v' w4) := ⟨⟨by rw [hsu.out, ints_snoc]; exact ho, by
          have h2 : Below w.heap.size w (wr.alloc (.cells #[.int .i64 (k : Int)] 3)) := HI.out.bel.trans (((Below.refl _ _).alloc (Nat.le_refl _) _).mono HI.out.bel.size)
          exact h2.trans ((Chg.ofRow hg).below h2.size (fun j hj e => by have := (HI.out.own.lt j e).1; omega))⟩⟩
        clear ho hg hv HI
        go_wp2_with fail
        go_roundw
        case rel => exact ⟨k + 1, by omega, by go_num, HI4⟩
        case measure => simp [intOf]; omega
      · replace hp : x.2.isSome = false := by simpa using hp
        rw [hp] at p2 hsu
        rw [if_neg (by decide), List.append_nil] at hsu
        have HI4 : Bx (RpI w d.p (k + 1) u3 wr) := ⟨⟨by rw [hsu]; exact HI.out.own, HI.out.bel⟩⟩
        clear HI hsu
        go_wp2_with fail
        go_roundw
        case rel => exact ⟨k + 1, by omega, by go_num, HI4⟩
        case measure => simp [intOf]; omega
    · have t0 : decide ((k : Int) < (n : Int)) = false := by simp; omega
      obtain rfl : k = n := by omega
      clear Hr
      go_wp2_with fail
      go_ret
      exact ⟨u3, rfl, by have := HI.out.own; rwa [← hn.out] at this, HI.out.bel⟩
set_option maxRecDepth 100000 in
theorem rimage_any (w : World) (q g cap : Nat) (d : Dk) (h : RkIs w q g cap d) : Calls Try.prog 41 #[.pointer (some ⟨q, 0, none⟩)] w (ImgPost w d.image) := by
  have hfew := h.ok.few
  have H := Bx.mk h
  have hn2 : Bx (d.image.length = d.p.length) := ⟨by unfold Dk.image; rw [List.length_map]⟩
  have HI : Bx (ImI w (d.image.take 0) (.slice none 0 0) w) := ⟨by rw [List.take_zero]; exact Ownv.nil _ _ _, Below.refl _ _⟩
  clear h
  generalize hn : d.p.length = n at *
  replace hn := Bx.mk hn
  go_enter Try.func41, Try.ntmps41
  go_wp2_with fail
  go_loopw [3, 4] (fun v3 v4 wr => ∃ k : Nat, k ≤ n ∧ v4 = .int .i64 k ∧ Bx (ImI w (d.image.take k) v3 wr)) (fun _ v4 _ => n - (intOf v4).toNat)
  case atStart => exact ⟨0, by omega, rfl, HI⟩
  case round =>
    clear HI
    obtain ⟨k, hk, rfl, HI⟩ := hrel
    have Hr := H.out.later HI.out.bel
    have c0 := Hr.kq.cell 0 rfl
    simp only [hn.out] at c0
    by_cases hlt2 : k < n
    · have t0 : decide ((k : Int) < (n : Int)) = true := by simp; omega
      have hkl : k < d.p.length := by have := hn.out; omega
      obtain ⟨x, hx⟩ : ∃ x, d.p[k]? = some x := ⟨_, List.getElem?_eq_getElem hkl⟩
      have p0 := Hr.pg.at_ k 0 hkl (by omega)
      rw [fof_at hx] at p0
      simp only [rcell, Nat.add_zero] at p0
      have htk := Bx.mk (take_snoc (l := d.image) (k := k) (x := x.1) (by unfold Dk.image; rw [List.getElem?_map, hx]; rfl))
      have hlen : Bx ((strs (d.image.take k)).length ≤ 1000000000) := ⟨by rw [strs_length, List.length_take]; omega⟩
      have b0 : (0 : Int) ≤ (k : Int) := by omega
      have b1 : (k : Int) < (n : Int) := by omega
      clear hx Hr
      go_wp2_with (at_builtin; refine wpList_append_val rfl _ _ _ rfl 9 (.string ⟨#[]⟩) 16 (by decide) Try.underlying43 (by kernel_rfl) rfl w.heap.size _ (strs (d.image.take k)) rfl (HI.out.own.alloc _) (.string (strOfNums x.1)) rfl ⟨wr.heap.size, 0, none⟩ 1 rfl (cell_new _ _ _) hlen.out (le_alloc HI.out.bel.size _) ?_)
      intro v' w4 ho hg hv
      have HI4 : Bx (ImI w (d.image.take (k + 1)) v' w4) := by
        rw [htk.out]
        refine ⟨⟨by rw [strs_snoc]; exact ho, ?_⟩⟩
        have h2 : Below w.heap.size w (wr.alloc (.cells #[.string (strOfNums x.1)] 9)) := HI.out.bel.trans (((Below.refl _ _).alloc (Nat.le_refl _) _).mono HI.out.bel.size)
        exact h2.trans ((Chg.ofRow hg).below h2.size (fun j hj e => by have := (HI.out.own.lt j e).1; omega))
      clear ho hg hv HI
      go_wp2_with fail
      go_roundw
      case rel => exact ⟨k + 1, by omega, by go_num, HI4⟩
      case measure => simp [intOf]; omega
    · have t0 : decide ((k : Int) < (n : Int)) = false := by simp; omega
      obtain rfl : k = n := by omega
      clear Hr
      go_wp2_with fail
      go_ret
      exact ⟨u3, rfl, by have := HI.out.own; rwa [List.take_of_length_le (by rw [hn2.out]; omega)] at this, HI.out.bel⟩
end Go.Proofs.Ytaajkhdmeghnbaa
