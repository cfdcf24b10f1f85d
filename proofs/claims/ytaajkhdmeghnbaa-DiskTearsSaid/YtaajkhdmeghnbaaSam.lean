/- Lists that are equal are found so; the law's zeros. -/
import Derived.Test.YtaajkhdmeghnbaaOp
namespace Go.Proofs.Ytaajkhdmeghnbaa
open Go.RowKit Go.Sort

theorem sameInts_eq (w : World) (a b : Option Addr) (ca cb : Nat) (xs : List Int) (hl : xs.length ≤ 1000000) (ha : Sl w .i64 a xs) (hb : Sl w .i64 b xs) :
    Calls Try.prog 27 #[.slice a xs.length ca, .slice b xs.length cb] w fun e w' => e = .returned (.bool true) ∧ Below w.heap.size w w' := by
  have Ha := Bx.mk ha
  have Hb := Bx.mk hb
  have HI : Bx (Below w.heap.size w w) := ⟨Below.refl _ _⟩
  clear ha hb
  generalize hn : xs.length = n at *
  replace hn := Bx.mk hn
  go_enter Try.func27, Try.ntmps27
  go_wp2_with fail
  go_loopw [5] (fun v5 wr => ∃ k : Nat, k ≤ n ∧ v5 = .int .i64 k ∧ Bx (Below w.heap.size w wr)) (fun v5 _ => n - (intOf v5).toNat)
  case atStart => exact ⟨0, by omega, rfl, HI⟩
  case round =>
    clear HI
    obtain ⟨k, hk, rfl, HI⟩ := hrel
    by_cases hlt : k < n
    · have t0 : decide ((k : Int) < (n : Int)) = true := by simp; omega
      obtain ⟨x, hx⟩ : ∃ x, xs[k]? = some x := ⟨_, List.getElem?_eq_getElem (by have := hn.out; omega)⟩
      obtain ⟨ba, oa, rfl, h1⟩ := (Ha.out.below HI.out) k x hx
      obtain ⟨bb, ob, rfl, h2⟩ := (Hb.out.below HI.out) k x hx
      clear hx
      have b0 : (0 : Int) ≤ (k : Int) := by omega
      have b1 : (k : Int) < (n : Int) := by omega
      have t1 : (x != x) = false := by simp
      have c1 : ∀ dk osk, (grow (redrawn wr dk) osk).cell? ⟨ba, oa + k, none⟩ = some (.int .i64 x) := cell_regrown h1
      have c2 : ∀ dk osk, (grow (redrawn wr dk) osk).cell? ⟨bb, ob + k, none⟩ = some (.int .i64 x) := cell_regrown h2
      clear h1 h2
      go_wp2_with fail
      refine wp_region_quiet_below (by kernel_rfl) (by kernel_rfl) ?_
      repeat (first | go_big_quiet_step (fail) | quiet_step (fail))
      refine wpQuiet_nil ?_
      rintro _ ⟨⟨dq, osq⟩, rfl⟩
      have HI2 : Bx (Below w.heap.size w (grow (redrawn wr dq) osq)) := ⟨below_on HI.out (below_regrown wr dq osq)⟩
      clear c1 c2 HI
      generalize grow (redrawn wr dq) osq = w2 at *
      go_wp2_with fail
      go_roundw
      case rel => exact ⟨k + 1, by omega, by go_num, HI2⟩
      case measure => simp [intOf]; omega
    · have t0 : decide ((k : Int) < (n : Int)) = false := by simp; omega
      go_wp2_with fail
      go_ret
      exact ⟨rfl, HI.out⟩
theorem sameTexts_eq (w : World) (a b : Option Addr) (ca cb : Nat) (ls : List (List Int)) (hl : ls.length ≤ 1000000) (ha : Slv w a (strs ls)) (hb : Slv w b (strs ls)) :
    Calls Try.prog 23 #[.slice a ls.length ca, .slice b ls.length cb] w fun e w' => e = .returned (.bool true) ∧ Below w.heap.size w w' := by
  have Ha := Bx.mk ha
  have Hb := Bx.mk hb
  have HI : Bx (Below w.heap.size w w) := ⟨Below.refl _ _⟩
  clear ha hb
  generalize hn : ls.length = n at *
  replace hn := Bx.mk hn
  go_enter Try.func23, Try.ntmps23
  go_wp2_with fail
  go_loopw [5] (fun v5 wr => ∃ k : Nat, k ≤ n ∧ v5 = .int .i64 k ∧ Bx (Below w.heap.size w wr)) (fun v5 _ => n - (intOf v5).toNat)
  case atStart => exact ⟨0, by omega, rfl, HI⟩
  case round =>
    clear HI
    obtain ⟨k, hk, rfl, HI⟩ := hrel
    by_cases hlt : k < n
    · have t0 : decide ((k : Int) < (n : Int)) = true := by simp; omega
      obtain ⟨x, hx⟩ : ∃ x, ls[k]? = some x := ⟨_, List.getElem?_eq_getElem (by have := hn.out; omega)⟩
      obtain ⟨ba, oa, rfl, h1⟩ := (Ha.out.below HI.out) k _ (strs_at hx)
      obtain ⟨bb, ob, rfl, h2⟩ := (Hb.out.below HI.out) k _ (strs_at hx)
      clear hx
      have b0 : (0 : Int) ≤ (k : Int) := by omega
      have b1 : (k : Int) < (n : Int) := by omega
      generalize strOfNums x = X at *
      have t2 : (X.toList != X.toList) = false := by simp
      have t3 : (X.toList == X.toList) = true := by simp
      have c1 : ∀ dk osk, (grow (redrawn wr dk) osk).cell? ⟨ba, oa + k, none⟩ = some (.string X) := cell_regrown h1
      have c2 : ∀ dk osk, (grow (redrawn wr dk) osk).cell? ⟨bb, ob + k, none⟩ = some (.string X) := cell_regrown h2
      clear h1 h2
      go_wp2_with fail
      refine wp_region_quiet_below (by kernel_rfl) (by kernel_rfl) ?_
      repeat (first | go_big_quiet_step (fail) | quiet_step (fail))
      refine wpQuiet_nil ?_
      rintro _ ⟨⟨dq, osq⟩, rfl⟩
      have HI2 : Bx (Below w.heap.size w (grow (redrawn wr dq) osq)) := ⟨below_on HI.out (below_regrown wr dq osq)⟩
      clear c1 c2 HI
      generalize grow (redrawn wr dq) osq = w2 at *
      go_wp2_with fail
      go_roundw
      case rel => exact ⟨k + 1, by omega, by go_num, HI2⟩
      case measure => simp [intOf]; omega
    · have t0 : decide ((k : Int) < (n : Int)) = false := by simp; omega
      go_wp2_with fail
      go_ret
      exact ⟨rfl, HI.out⟩
theorem rep_zeros (n : Nat) : (⟨(Lib.repeatL [(0 : UInt8)] n).toArray⟩ : ByteArray) = strOfNums (List.replicate n 0) := by
  have h : ∀ n, Lib.repeatL [(0 : UInt8)] n = List.replicate n 0 := by
    intro n
    induction n with
    | zero => rfl
    | succ n ih => rw [Lib.repeatL, ih, List.replicate_succ]; rfl
  rw [h]
  unfold strOfNums
  simp
theorem zeros_any (w : World) (n : Nat) (hn : n ≤ 1000) : Calls Try.prog 30 #[.int .i64 (n : Int)] w fun e w' => e = .returned (.string (strOfNums (List.replicate n 0))) ∧ Below w.heap.size w w' := by
  have hR := Bx.mk fun (W : World) => Try.strings_Repeat ⟨#[0]⟩ n W (by omega) (by show 1 * n ≤ _; omega)
  have he := rep_zeros n
  have hL : (⟨#[0]⟩ : ByteArray).data.toList = [(0 : UInt8)] := rfl
  rw [hL, he] at hR
  generalize strOfNums (List.replicate n 0) = Z at *
  clear he hL
  go_enter Try.func30, Try.ntmps30
  go_wp2_with (go_at_call 49; refine (hR.out _).mono ?_; rintro _ w2 ⟨rfl, hb2⟩)
  go_ret
  exact ⟨rfl, hb2⟩
end Go.Proofs.Ytaajkhdmeghnbaa
