/- The program's Image. -/
import Derived.Test.YtaajkhdmeghnbaaPen
import Derived.Test.YtaajkhdmeghnbaaStl
namespace Go.Proofs.Ytaajkhdmeghnbaa
open Go.RowKit Go.Sort

theorem take_snoc {α : Type} {l : List α} {k : Nat} {x : α} (h : l[k]? = some x) : l.take (k + 1) = l.take k ++ [x] := by
  obtain ⟨hk, rfl⟩ := List.getElem?_eq_some_iff.1 h
  exact List.take_succ_eq_append_getElem hk
/-- Image's answer -/
def ImgPost (w : World) (ls : List (List Int)) (e : Ending) (w' : World) : Prop := ∃ v, e = .returned v ∧ Ownv w' w.heap.size 9 v (strs ls) ∧ Below w.heap.size w w'
structure ImI (w : World) (ls : List (List Int)) (v : Value) (wr : World) : Prop where
  own : Ownv wr w.heap.size 9 v (strs ls)
  bel : Below w.heap.size w wr
set_option maxRecDepth 100000 in
theorem image_any (w : World) (p g mb cap m : Nat) (d : Dk) (h : DkIs w p g mb cap m d) : Calls Try.prog 24 #[.pointer (some ⟨p, 0, none⟩)] w (ImgPost w d.image) := by
  have hfew := h.ok.few
  have c0 := h.kp.cell 0 rfl
  have H := Bx.mk h
  have hn : Bx (d.image.length = d.p.length) := ⟨by unfold Dk.image; rw [List.length_map]⟩
  have HI : Bx (ImI w (d.image.take 0) (.slice none 0 0) w) := ⟨by rw [List.take_zero]; exact Ownv.nil _ _ _, Below.refl _ _⟩
  clear h
  generalize hN : d.p.length = n at *
  replace hN := Bx.mk hN
  go_enter Try.func24, Try.ntmps24
  go_wp2_with fail
  go_loopw [3, 11] (fun v3 v11 wr => ∃ k : Nat, k ≤ n ∧ v11 = .int .i64 k ∧ Bx (ImI w (d.image.take k) v3 wr)) (fun _ v11 _ => n - (intOf v11).toNat)
  case atStart => exact ⟨0, by omega, rfl, HI⟩
  case round =>
    clear HI c0
    obtain ⟨k, hk, rfl, HI⟩ := hrel
    by_cases hlt : k < n
    · have t0 : decide ((k : Int) < (n : Int)) = true := by simp; omega
      obtain ⟨x, hx⟩ : ∃ x, d.p[k]? = some x := ⟨_, List.getElem?_eq_getElem (by have := hN.out; omega)⟩
      have hok := H.out.ok.pages x (List.mem_of_getElem? hx)
      have hHr := Bx.mk (H.out.later HI.out.bel)
      have hrg := Bx.mk (hHr.out.pg.at_ k x hx)
      have s1 := Bx.mk (pgInfo _ ((row_cells x.1 .u8).trans hok.1))
      have s2 := Bx.mk (show Try.zeroCells72.size = (x.1.map (Value.int .u8)).toArray.size by rw [row_cells, hok.1]; kernel_rfl)
      have s3 := Bx.mk (one_ints .u8 x.1)
      have hT := Bx.mk fun W => text_any W x.1 hok.1
      have htk := Bx.mk (take_snoc (l := d.image) (k := k) (x := x.1) (by unfold Dk.image; rw [List.getElem?_map, hx]; rfl))
      have b0 : (0 : Int) ≤ (k : Int) := by omega
      have b1 : (k : Int) < (n : Int) := by omega
      clear hx hok hHr
      unfold arrV at hT
      go_upto_region 5 with (first
        | refine wpList_load_mid rfl _ _ rfl g (k * 128) rfl _ _ hrg.out Try.underlying72 rfl (by have := s1.out; rwa [List.size_toArray] at this) ?_
        | refine wpList_store_whole rfl _ _ _ rfl wr.heap.size rfl _ _ rfl _ (heap_alloc_new wr (.cells Try.zeroCells72 72)) s1.out s2.out s3.out ?_)
      simp only [Act.put]
      generalize hW : World.setRow (World.alloc wr _) _ _ = W1
      have kq : Bx (Bk W1 wr.heap.size (x.1.map (Value.int .u8)).toArray 72) := by rw [← hW]; exact ⟨setRow_heap _ _ _ _ _ (0, 0) (heap_alloc_new _ _)⟩
      have hb1 : Bx (Below wr.heap.size wr W1) := by rw [← hW]; exact ⟨below_setRow ((Below.refl _ _).alloc (Nat.le_refl _) _) (Nat.le_refl _) _⟩
      have HI1 : Bx (ImI w (d.image.take k) u3 W1) := ⟨HI.out.own.below hb1.out, HI.out.bel.trans (hb1.out.mono HI.out.bel.size)⟩
      have hlen : Bx ((strs (d.image.take k)).length ≤ 1000000000) := ⟨by rw [strs_length, List.length_take]; omega⟩
      clear hW HI hrg hb1
      go_wp2_with (first
        | refine wpList_load_whole rfl _ _ rfl wr.heap.size rfl _ _ kq.out _ Try.underlying72 rfl s1.out ?_
        | (go_at_call 45; refine (hT.out _).mono ?_; rintro _ w2 ⟨rfl, hb2⟩; replace hb2 := Bx.mk hb2)
        | (at_builtin; refine wpList_append_val rfl _ _ _ rfl 9 (.string ⟨#[]⟩) 16 (by decide) Try.underlying43 (by kernel_rfl) rfl w.heap.size _ (strs (d.image.take k)) rfl ((HI1.out.own.below hb2.out).alloc _) (.string (strOfNums x.1)) rfl ⟨w2.heap.size, 0, none⟩ 1 rfl (cell_new _ _ _) hlen.out (le_alloc (Nat.le_trans HI1.out.bel.size hb2.out.size) _) ?_))
      intro v' w4 ho hg hv
      have HI4 : Bx (ImI w (d.image.take (k + 1)) v' w4) := by
        rw [htk.out]
        refine ⟨⟨by rw [strs_snoc]; exact ho, ?_⟩⟩
        have h2 : Below w.heap.size w (w2.alloc (.cells #[.string (strOfNums x.1)] 9)) := (HI1.out.bel.trans (hb2.out.mono HI1.out.bel.size)).trans (((Below.refl _ _).alloc (Nat.le_refl _) _).mono (Nat.le_trans HI1.out.bel.size hb2.out.size))
        exact h2.trans ((Chg.ofRow hg).below h2.size (fun j hj e => by have := (HI1.out.own.lt j e).1; omega))
      clear ho hg hv HI1 hb2 kq
      go_wp2_with fail
      go_roundw
      case rel => exact ⟨k + 1, by omega, by go_num, HI4⟩
      case measure => simp [intOf]; omega
    · have t0 : decide ((k : Int) < (n : Int)) = false := by simp; omega
      obtain rfl : k = n := by omega
      go_wp2_with fail
      go_ret
      exact ⟨u3, rfl, by have := HI.out.own; rwa [List.take_of_length_le (by rw [hn.out]; omega)] at this, HI.out.bel⟩
end Go.Proofs.Ytaajkhdmeghnbaa
