import Derived.Test.YtabclecmehdeoaaGreatGStl
import Derived.Test.YtabclecmehdeoaaGreatGBase
import Derived.Test.YtabclecmehdeoaaGreatGTree
import Derived.Test.YtabclecmehdeoaaGreatGCel
section
/- voxelref09.size, Children, by the program. -/
namespace Go.Proofs.YtabclecmehdeoaaGreat
open Go.RowKit
open Oct

theorem extract_to_end {l : List Int} {n p : Nat} (hn : l.length = n) : (strOfNums l).extract p n = strOfNums (l.drop p) := by
  rw [str_extract, List.take_of_length_le (by rw [List.length_drop]; omega)]
set_option maxRecDepth 100000 in
set_option maxHeartbeats 1000000 in
theorem ref9_size : ∀ (t : Tr), Tr.WF t → ∀ (r : List Int), Byt r → (Tr.enc t ++ r).length ≤ 1000000000000000 → ∀ (w : World),
    Calls Tryz.prog 78 #[.string (strOfNums (Tr.enc t ++ r))] w fun e w' => e = .returned (.int .i64 ((Tr.enc t).length : Int)) ∧ w = w' := by
  intro t
  induction t with
  | uni c =>
    intro h r hr hl w
    have hby : Byt (Tr.enc (.uni c) ++ r) := Byt.append (Tr.enc_byt _ h) hr
    have hi0 := fun W : World => idx_str (P := Tryz.prog) 9 Tryz.underlying9 hby (k := 0) (x := 117) (by simp [Tr.enc]) W
    rw [show ((0 : Nat) : Int) = 0 from rfl] at hi0
    have he : ((Tr.enc (.uni c)).length : Int) = 2 := by simp [Tr.enc]
    rw [he]
    generalize strOfNums (Tr.enc (.uni c) ++ r) = S at *
    clear hby he hl hr h
    go_enter Tryz.func78, Tryz.ntmps78
    go_wp2_with fail
    go_ret
    exact ⟨rfl, rfl⟩
  | brick l =>
    intro h r hr hl w
    have h64 : l.length = 64 := h.1
    have hby : Byt (Tr.enc (.brick l) ++ r) := Byt.append (Tr.enc_byt _ h) hr
    have hi0 := fun W : World => idx_str (P := Tryz.prog) 9 Tryz.underlying9 hby (k := 0) (x := 98) (by simp [Tr.enc]) W
    rw [show ((0 : Nat) : Int) = 0 from rfl] at hi0
    have he : ((Tr.enc (.brick l)).length : Int) = 65 := by simp [Tr.enc, h64]
    rw [he]
    generalize strOfNums (Tr.enc (.brick l) ++ r) = S at *
    clear hby he hl hr h h64
    go_enter Tryz.func78, Tryz.ntmps78
    go_wp2_with fail
    go_ret
    exact ⟨rfl, rfl⟩
  | node d ch ih =>
    intro h r hr hl w
    have hw : ∀ i, Tr.WF (ch i) := h.2
    have hby : Byt (Tr.enc (.node d ch) ++ r) := Byt.append (Tr.enc_byt _ h) hr
    have hi0 := fun W : World => idx_str (P := Tryz.prog) 9 Tryz.underlying9 hby (k := 0) (x := 110) (by simp [Tr.enc]) W
    rw [show ((0 : Nat) : Int) = 0 from rfl] at hi0
    have hn : (Tr.enc (.node d ch)).length ≤ (Tr.enc (.node d ch) ++ r).length := by rw [List.length_append]; omega
    have hkid := Bx.mk (fun (k : Nat) (hk : k < 8) (n : Nat) (hn : (Tr.enc (.node d ch) ++ r).length = n) => show
      (∃ r', Byt r' ∧ (Tr.enc (ch ⟨k, hk⟩) ++ r').length ≤ 1000000000000000 ∧ (strOfNums (Tr.enc (.node d ch) ++ r)).extract (Tr.pos ch k) n = strOfNums (Tr.enc (ch ⟨k, hk⟩) ++ r')) from by
        rw [extract_to_end hn, Tr.drop_pos d ch r hk]
        refine ⟨_, ?_, ?_, rfl⟩
        · have := Byt.drop hby (Tr.pos ch k)
          rw [Tr.drop_pos d ch r hk] at this
          exact fun x hx => this x (List.mem_append_right _ hx)
        · rw [← Tr.drop_pos d ch r hk, List.length_drop]; omega)
    have hple := Bx.mk (fun k (hk : k ≤ 8) => Nat.le_trans (Tr.pos_le d ch hk) hn)
    have hps := Bx.mk (fun k (hk : k < 8) => Tr.pos_succ ch hk)
    have hp0 := Tr.pos_zero ch
    have hp8 := Tr.pos_all d ch
    rw [← hp8]
    have Hw := Bx.mk hw
    have Hih := Bx.mk ih
    have hsz : (strOfNums (Tr.enc (.node d ch) ++ r)).size = (Tr.enc (.node d ch) ++ r).length := strOfNums_size _
    generalize strOfNums (Tr.enc (.node d ch) ++ r) = S at *
    generalize (Tr.enc (.node d ch) ++ r).length = n at *
    have Hp0 := Bx.mk hp0
    clear hby hp8 hn hw ih hr h hp0
    go_enter Tryz.func78, Tryz.ntmps78
    go_wp2_with fail
    go_loop [3, 4] (fun v3 v4 => ∃ k : Nat, k ≤ 8 ∧ v4 = .int .i64 k ∧ v3 = .int .i64 (Tr.pos ch k)) (fun _ i => 8 - (intOf i).toNat)
    case atStart => exact ⟨0, Nat.zero_le _, rfl, by rw [Hp0.out]; rfl⟩
    case round =>
      obtain ⟨k, hk, rfl, rfl⟩ := hrel
      by_cases hlt : k < 8
      · have t0 : decide ((k : Int) < 8) = true := by simp; omega
        obtain ⟨r', hr', hl', hex⟩ := hkid.out k hlt n rfl
        have hc := Bx.mk fun W => Hih.out ⟨k, hlt⟩ (Hw.out _) r' hr' hl' W
        have hple1 := hple.out (k + 1) (by omega)
        have hple0 := hple.out k (by omega)
        have hs := hps.out k hlt
        generalize hS2 : strOfNums (Tr.enc (ch ⟨k, hlt⟩) ++ r') = S2 at *
        have Hs := Bx.mk (show ((Tr.pos ch (k + 1) : Nat) : Int) = (Tr.pos ch k : Int) + ((Tr.enc (ch ⟨k, hlt⟩)).length : Int) by omega)
        generalize (Tr.enc (ch ⟨k, hlt⟩)).length = m at *
        generalize Tr.pos ch k = p at *
        generalize hq : Tr.pos ch (k + 1) = q at *
        have b1 : (0 : Int) ≤ (p : Int) := by omega
        have b2 : (p : Int) ≤ (n : Int) := by omega
        have b3 : (p : Int) + (m : Int) ≤ 1000000000000000 := by omega
        have Hq := Bx.mk hq
        clear hS2 hr' hl' hs hple0 hple1 hq
        go_wp2_with (go_at_call 78; refine (hc.out _).mono ?_; rintro e w' ⟨rfl, rfl⟩)
        go_round
        case rel => exact ⟨k + 1, by omega, by go_num, by rw [Hq.out, Hs.out]⟩
        case measure => simp [intOf]; omega
      · obtain rfl : k = 8 := by omega
        have t0 : decide (((8 : Nat) : Int) < 8) = false := by decide
        go_wp2_with fail
        go_ret
        exact ⟨rfl, rfl⟩
/-- the texts of the children -/
def kidsE (ch : Fin 8 → Tr) : List (List Int) := List.ofFn fun i => Tr.enc (ch i)
theorem kidsE_len (ch : Fin 8 → Tr) : (kidsE ch).length = 8 := List.length_ofFn
theorem kidsE_at (ch : Fin 8 → Tr) {k : Nat} (hk : k < 8) : (kidsE ch)[k]? = some (Tr.enc (ch ⟨k, hk⟩)) := by
  unfold kidsE
  rw [List.getElem?_eq_getElem (by rw [List.length_ofFn]; exact hk), List.getElem_ofFn]
theorem kidsE_take (ch : Fin 8 → Tr) {k : Nat} (hk : k < 8) : (kidsE ch).take (k + 1) = (kidsE ch).take k ++ [Tr.enc (ch ⟨k, hk⟩)] := by
  have h := kidsE_at ch hk
  rw [List.take_succ_eq_append_getElem (by rw [kidsE_len]; exact hk)]
  rw [List.getElem?_eq_getElem (by rw [kidsE_len]; exact hk)] at h
  injection h with h
  rw [h]
set_option maxRecDepth 100000 in
set_option maxHeartbeats 1000000 in
theorem ref9_children (d : Nat) (ch : Fin 8 → Tr) (h : Tr.WF (.node d ch)) (hl : (Tr.enc (.node d ch)).length ≤ 1000000000000000) (w : World) :
    Calls Tryz.prog 38 #[.string (strOfNums (Tr.enc (.node d ch)))] w fun e w' => ∃ g pc, e = .returned (.slice (some ⟨g, 0, none⟩) 8 pc) ∧ Slv w' (some ⟨g, 0, none⟩) (strs (kidsE ch)) ∧ (w.heap.size ≤ g ∧ g < w'.heap.size) ∧ Below w.heap.size w w' := by
  have hby : Byt (Tr.enc (.node d ch)) := Tr.enc_byt _ h
  have hkid := Bx.mk (fun (k : Nat) (hk : k < 8) (n : Nat) (hn : (Tr.enc (.node d ch)).length = n) => show
    (∃ r', Byt r' ∧ (Tr.enc (ch ⟨k, hk⟩) ++ r').length ≤ 1000000000000000 ∧ (strOfNums (Tr.enc (.node d ch))).extract (Tr.pos ch k) n = strOfNums (Tr.enc (ch ⟨k, hk⟩) ++ r')
      ∧ (strOfNums (Tr.enc (.node d ch))).extract (Tr.pos ch k) (Tr.pos ch k + (Tr.enc (ch ⟨k, hk⟩)).length) = strOfNums (Tr.enc (ch ⟨k, hk⟩))) from by
      have hd := Tr.drop_pos d ch [] hk
      rw [List.append_nil] at hd
      rw [extract_to_end hn, str_extract, Nat.add_sub_cancel_left, hd]
      refine ⟨_, ?_, ?_, rfl, ?_⟩
      · have := Byt.drop hby (Tr.pos ch k)
        rw [hd] at this
        exact fun x hx => this x (List.mem_append_right _ hx)
      · rw [← hd, List.length_drop]; omega
      · rw [List.take_left'] ; rfl)
  have hple := Bx.mk (fun k (hk : k ≤ 8) => Tr.pos_le d ch hk)
  have hps := Bx.mk (fun k (hk : k < 8) => Tr.pos_succ ch hk)
  have Hp0 := Bx.mk (Tr.pos_zero ch)
  have Hw := Bx.mk (show ∀ i, Tr.WF (ch i) from h.2)
  have hsz : (strOfNums (Tr.enc (.node d ch))).size = (Tr.enc (.node d ch)).length := strOfNums_size _
  generalize strOfNums (Tr.enc (.node d ch)) = S at *
  generalize (Tr.enc (.node d ch)).length = n at *
  clear hby h
  go_enter Tryz.func38, Tryz.ntmps38
  go_wp2_with fail
  go_loopw [3, 4, 5] (fun v3 v4 v5 wr => ∃ k : Nat, k ≤ 8 ∧ v5 = .int .i64 k ∧ v4 = .int .i64 (Tr.pos ch k) ∧ Bx (Ownv wr w.heap.size 9 v3 (strs ((kidsE ch).take k))) ∧ Bx (Below w.heap.size w wr)) (fun _ _ i _ => 8 - (intOf i).toNat)
  case atStart => exact ⟨0, Nat.zero_le _, rfl, by rw [Hp0.out]; rfl, ⟨Ownv.nil _ _ _⟩, ⟨Below.refl _ _⟩⟩
  case round =>
    obtain ⟨k, hk, rfl, rfl, hown, hbw⟩ := hrel
    by_cases hlt : k < 8
    · have t0 : decide ((k : Int) < 8) = true := by simp; omega
      obtain ⟨r', hr', hl', hex, hex2⟩ := hkid.out k hlt n rfl
      have hc := Bx.mk fun W => ref9_size (ch ⟨k, hlt⟩) (Hw.out _) r' hr' hl' W
      have hple1 := hple.out (k + 1) (by omega)
      have hple0 := hple.out k (by omega)
      have hs := hps.out k hlt
      have hnext := Bx.mk (show strs ((kidsE ch).take (k + 1)) = strs ((kidsE ch).take k) ++ [.string (strOfNums (Tr.enc (ch ⟨k, hlt⟩)))] by rw [kidsE_take ch hlt, strs_snoc])
      have Htl := Bx.mk (show (strs ((kidsE ch).take k)).length ≤ 1000000000 by rw [strs_length, List.length_take]; omega)
      generalize hS2 : strOfNums (Tr.enc (ch ⟨k, hlt⟩) ++ r') = S2 at *
      generalize strOfNums (Tr.enc (ch ⟨k, hlt⟩)) = S3 at *
      have Hs := Bx.mk (show ((Tr.pos ch (k + 1) : Nat) : Int) = (Tr.pos ch k : Int) + ((Tr.enc (ch ⟨k, hlt⟩)).length : Int) by omega)
      generalize (Tr.enc (ch ⟨k, hlt⟩)).length = m at *
      generalize Tr.pos ch k = p at *
      generalize hq : Tr.pos ch (k + 1) = q at *
      have b1 : (0 : Int) ≤ (p : Int) := by omega
      have b2 : (p : Int) ≤ (n : Int) := by omega
      have b3 : (p : Int) + (m : Int) ≤ (n : Int) := by omega
      have hz : ((p : Int) + (m : Int)).toNat = p + m := by omega
      have Hq := Bx.mk hq
      have hle := hbw.out.size
      clear hS2 hr' hl' hs hple0 hple1 hq
      go_wp2_with (first
        | (go_at_call 78; refine (hc.out _).mono ?_; rintro e w' ⟨rfl, rfl⟩)
        | (at_builtin
           refine wpList_append_val rfl _ _ 39 rfl 9 (.string ByteArray.empty) 16 (by omega) Tryz.underlying39 (by kernel_rfl) rfl w.heap.size _ (strs ((kidsE ch).take k)) rfl (hown.out.alloc _) (.string S3) rfl ⟨wr.heap.size, 0, none⟩ 1 rfl (cell_new _ _ _) Htl.out (le_alloc hle _) ?_
           intro v1 w1 hown1 hg1 _))
      have hown2 := Bx.mk hown1
      rw [← hnext.out] at hown2
      have hbw2 := Bx.mk ((hbw.out.alloc hle (.cells #[.string S3] 9)).grown hg1 (le_alloc hle _) (fun g hg => (hown.out.lt g hg).1))
      clear hown1 hg1
      go_wp2_with fail
      go_roundw
      case rel => exact ⟨k + 1, by omega, by go_num, by rw [Hq.out, Hs.out], hown2, hbw2⟩
      case measure => simp [intOf]; omega
    · obtain rfl : k = 8 := by omega
      have t0 : decide (((8 : Nat) : Int) < 8) = false := by decide
      have hown2 := hown.out
      rw [List.take_of_length_le (by rw [kidsE_len]; exact Nat.le_refl _)] at hown2
      obtain ⟨g, pc, rfl, hsl, hlt2⟩ := hown2.form1 (by rw [strs_length, kidsE_len]; decide)
      have Hl := Bx.mk (show (strs (kidsE ch)).length = 8 by rw [strs_length, kidsE_len])
      have Hsl := Bx.mk hsl
      have Hlt := Bx.mk hlt2
      clear hsl hown2 hown hlt2
      go_wp2_with fail
      go_ret
      exact ⟨g, pc, by rw [Hl.out]; rfl, Hsl.out, Hlt.out, hbw.out⟩
end Go.Proofs.YtabclecmehdeoaaGreat
end
section
/- voxelref09.Inner, by the program. -/
namespace Go.Proofs.YtabclecmehdeoaaGreat
open Go.RowKit Go.Sort
open Oct

/-- the texts are equal so far -/
def sameS (T : Nat → ByteArray) (k : Nat) : Bool := (List.range k).all fun j => (T j).toList == (T 0).toList
theorem sameS_succ (T : Nat → ByteArray) (k : Nat) : sameS T (k + 1) = (sameS T k && ((T k).toList == (T 0).toList)) := by
  unfold sameS; rw [List.range_succ, List.all_append]; simp
theorem strEq_iff (a b : ByteArray) : (a.toList == b.toList) = true ↔ a = b := by
  rw [beq_iff_eq]
  constructor
  · intro h
    rw [ByteArray.toList_eq, ByteArray.toList_eq] at h
    exact ByteArray.ext (Array.ext' h)
  · intro h; rw [h]
theorem sameS_iff (T : Nat → ByteArray) (k : Nat) : sameS T k = true ↔ ∀ j, j < k → T j = T 0 := by
  unfold sameS
  rw [List.all_eq_true]
  simp only [List.mem_range, strEq_iff]
def kidS (ch : Fin 8 → Tr) (k : Nat) : ByteArray := strOfNums ((kidsE ch).getD k [])
theorem kidS_at (ch : Fin 8 → Tr) {k : Nat} (hk : k < 8) : kidS ch k = strOfNums (Tr.enc (ch ⟨k, hk⟩)) := by
  unfold kidS; rw [List.getD_eq_getElem?_getD, kidsE_at ch hk]; rfl
theorem kidS_eq {ch : Fin 8 → Tr} (h : ∀ i, Tr.WF (ch i)) {k : Nat} (hk : k < 8) : kidS ch k = kidS ch 0 ↔ ch ⟨k, hk⟩ = ch 0 := by
  rw [kidS_at ch hk, kidS_at ch (by omega : 0 < 8)]
  constructor
  · intro e
    have := strOfNums_inj (Tr.enc_byt _ (h _)) (Tr.enc_byt _ (h _)) e
    exact (Tr.enc_eq (h _) (h _)).1 this
  · intro e; rw [e]; rfl
theorem same_iff {ch : Fin 8 → Tr} (h : ∀ i, Tr.WF (ch i)) : sameS (kidS ch) 8 = true ↔ ∀ i, ch i = ch 0 := by
  rw [sameS_iff]
  constructor
  · intro e i
    exact (kidS_eq h i.isLt).1 (e i.val i.isLt)
  · intro e j hj
    exact (kidS_eq h hj).2 (e _)
/-- what Inner has put together after k children -/
def accS (d : Nat) (ch : Fin 8 → Tr) (k : Nat) : ByteArray := strOfNums (110 :: (d : Int) :: ((kidsE ch).take k).flatten)
theorem accS_succ (d : Nat) (ch : Fin 8 → Tr) {k : Nat} (hk : k < 8) : accS d ch (k + 1) = accS d ch k ++ kidS ch k := by
  unfold accS
  rw [kidS_at ch hk, str_append, kidsE_take ch hk, List.flatten_append]
  simp
theorem accS_all (d : Nat) (ch : Fin 8 → Tr) : accS d ch 8 = strOfNums (Tr.enc (.node d ch)) := by
  unfold accS
  rw [List.take_of_length_le (by rw [kidsE_len]; exact Nat.le_refl _), Tr.enc_node]; rfl
theorem accS_size (d : Nat) (ch : Fin 8 → Tr) {k : Nat} (hk : k < 8) (n : Nat) (hn : (Tr.enc (.node d ch)).length ≤ n) : (accS d ch k).size + (kidS ch k).size ≤ n := by
  rw [← ByteArray.size_append, ← accS_succ d ch hk]
  unfold accS
  rw [strOfNums_size]
  have := Tr.pos_le d ch (show k + 1 ≤ 8 by omega)
  unfold Tr.pos at this
  simp only [List.length_cons]
  unfold kidsE
  omega
theorem enc_head (t : Tr) : ∃ b r, Tr.enc t = b :: r ∧ ((b == 117) = true ↔ ∃ c, t = .uni c) := by
  cases t with
  | uni c => exact ⟨117, [c], by rw [Tr.enc], by simp⟩
  | brick l => exact ⟨98, l, by rw [Tr.enc], by simp⟩
  | node d ch => exact ⟨110, _, by rw [Tr.enc], by simp⟩
set_option maxRecDepth 100000 in
set_option maxHeartbeats 1000000 in
theorem ref9_inner (d : Nat) (hd : d ≤ 255) (ch : Fin 8 → Tr) (h : ∀ i, Tr.WF (ch i)) (hl : (Tr.enc (.node d ch)).length ≤ 1000000000000000) (a : Option Addr) (cap : Nat) (w : World) (hs : Slv w a (strs (kidsE ch))) :
    Calls Tryz.prog 77 #[.int .i64 (d : Int), .slice a 8 cap] w fun e w' => e = .returned (.string (strOfNums (Tr.enc (Tr.mkInner d ch)))) ∧ Below w.heap.size w w' := by
  have hat : ∀ k, k < 8 → (strs (kidsE ch))[k]? = some (.string (kidS ch k)) := fun k hk => by rw [kidS_at ch hk]; exact strs_at (kidsE_at ch hk)
  obtain ⟨b, off, rfl, hc0⟩ := hs 0 _ (hat 0 (by omega))
  rw [Nat.add_zero] at hc0
  obtain ⟨b0, r0, he0, hu0⟩ := enc_head (ch 0)
  have hby := Tr.enc_byt _ (h 0)
  have hi0 := fun W : World => idx_str (P := Tryz.prog) 9 Tryz.underlying9 hby (k := 0) (x := b0) (by rw [he0]; rfl) W
  rw [show ((0 : Nat) : Int) = 0 from rfl, show strOfNums (Tr.enc (ch 0)) = kidS ch 0 from (kidS_at ch (by omega)).symm] at hi0
  obtain ⟨u, hu⟩ : ∃ u, (b0 == 117) = u := ⟨_, rfl⟩
  have hwd : IntKind.u8.wrap (d : Int) = d := by unfold IntKind.wrap; simp [IntKind.bits, IntKind.signed]; omega
  have hsl : Sl (w.alloc (.cells #[.int .u8 d] 5)) .u8 (some ⟨w.heap.size, 0, none⟩) [(d : Int)] := fun i x hx => by
    match i with
    | 0 => simp at hx; subst hx; exact ⟨_, _, rfl, cell_new _ _ _⟩
    | i + 1 => simp at hx
  have hcv := conv_str (P := Tryz.prog) 90 5 9 Tryz.underlying90 Tryz.underlying5 Tryz.underlying9 hsl 1 1 rfl
  have hst := Bx.mk (show (strOfNums [110]) ++ strOfNums [(d : Int)] = accS d ch 0 from str_append [110] [(d : Int)])
  have hend := Bx.mk (show (u && sameS (kidS ch) 8) = true → Tr.mkInner d ch = ch 0 from fun e => by
    rw [Bool.and_eq_true] at e
    unfold Tr.mkInner
    rw [if_pos ⟨hu0.1 (hu.trans e.1), (same_iff h).1 e.2⟩])
  have hend2 := Bx.mk (show (u && sameS (kidS ch) 8) = false → Tr.mkInner d ch = .node d ch from fun e => by
    unfold Tr.mkInner
    rw [if_neg]
    rintro ⟨h1, h2⟩
    rw [← hu, hu0.2 h1, (same_iff h).2 h2] at e
    cases e)
  have hacc := Bx.mk fun k (hk : k < 8) => accS_succ d ch hk
  have haccE := Bx.mk (accS_all d ch)
  have hasz := Bx.mk fun k (hk : k < 8) => accS_size d ch hk _ hl
  have h1sz : (strOfNums [(d : Int)]).size = 1 := by rw [strOfNums_size]; rfl
  have hk0 := Bx.mk (kidS_at ch (show 0 < 8 by omega))
  have Hs := Bx.mk hs
  have Hat := Bx.mk hat
  have Hu := Bx.mk hu
  have Hhd := Bx.mk hd
  clear hs hat hby he0 hu0 h hsl hd hl
  go_enter Tryz.func77, Tryz.ntmps77
  go_wp2_with fail
  generalize hW : World.alloc w _ = W
  have HB := Bx.mk (show Below w.heap.size w W from by rw [← hW]; exact (Below.refl _ _).alloc (Nat.le_refl _) _)
  clear hW hcv hc0 hi0 h1sz
  clear hu
  go_loopw [5, 6, 7] (fun v5 v6 v7 wr => ∃ k : Nat, k ≤ 8 ∧ v7 = .int .i64 k ∧ v5 = .bool (u && sameS (kidS ch) k) ∧ v6 = .string (accS d ch k) ∧ Bx (Below w.heap.size w wr)) (fun _ _ i _ => 8 - (intOf i).toNat)
  case atStart => exact ⟨0, Nat.zero_le _, rfl, by rw [show sameS (kidS ch) 0 = true from rfl, Bool.and_true], by rw [← hst.out]; rfl, HB⟩
  case round =>
    clear HB
    obtain ⟨k, hk, rfl, rfl, rfl, HB⟩ := hrel
    obtain ⟨b1, off1, he1, hc0⟩ := (Hs.out.below HB.out) 0 _ (Hat.out 0 (by omega))
    simp only [Option.some.injEq, Addr.mk.injEq, and_true] at he1
    obtain ⟨rfl, rfl⟩ := he1
    rw [Nat.add_zero] at hc0
    by_cases hlt : k < 8
    · have t0 : decide ((k : Int) < 8) = true := by simp; omega
      obtain ⟨b1, off1, he1, hck⟩ := (Hs.out.below HB.out) k _ (Hat.out k hlt)
      simp only [Option.some.injEq, Addr.mk.injEq, and_true] at he1
      obtain ⟨rfl, rfl⟩ := he1
      have b1' : (0 : Int) ≤ (k : Int) := by omega
      have b2 : (k : Int) < 8 := by omega
      have hacc1 := Bx.mk (hacc.out k hlt)
      have hz1 := hasz.out k hlt
      have hsn := Bx.mk (sameS_succ (kidS ch) k)
      have Hc0 := Bx.mk hc0
      have Hck := Bx.mk hck
      cases hq : (u && sameS (kidS ch) k) with
      | false =>
        clear hc0 hck
        go_wp2_with fail
        refine wp_region_quiet_below (by kernel_rfl) (by kernel_rfl) ?_
        repeat (first | go_big_quiet_step ((fail)) | quiet_step (fail))
        refine wpQuiet_nil ?_
        rintro _ ⟨⟨dq, osq⟩, rfl⟩
        have hb0 := below_regrown wr dq osq
        have hck := cell_later hb0 Hck.out
        replace HB := Bx.mk (HB.out.trans (hb0.mono HB.out.size))
        clear hb0
        generalize grow (redrawn wr dq) osq = w7 at *
        go_wp2_with fail
        go_roundw
        case rel => exact ⟨k + 1, by omega, by go_num, by rw [hsn.out, ← Bool.and_assoc, hq]; rfl, by rw [hacc1.out], HB⟩
        case measure => simp [intOf]; omega
      | true =>
        have qc1 : ∀ dk osk, (grow (redrawn wr dk) osk).cell? ⟨b, off + k, none⟩ = some (.string (kidS ch k)) := cell_regrown Hck.out
        have qc2 : ∀ dk osk, (grow (redrawn wr dk) osk).cell? ⟨b, off, none⟩ = some (.string (kidS ch 0)) := cell_regrown Hc0.out
        clear hc0 hck
        go_wp2_with fail
        refine wp_region_quiet_below (by kernel_rfl) (by kernel_rfl) ?_
        repeat (first | go_big_quiet_step ((fail)) | quiet_step (fail))
        refine wpQuiet_nil ?_
        rintro _ ⟨⟨dq, osq⟩, rfl⟩
        have hb0 := below_regrown wr dq osq
        have hck := cell_later hb0 Hck.out
        replace HB := Bx.mk (HB.out.trans (hb0.mono HB.out.size))
        clear hb0 qc1 qc2
        generalize grow (redrawn wr dq) osq = w7 at *
        go_wp2_with fail
        go_roundw
        case rel => exact ⟨k + 1, by omega, by go_num, by rw [hsn.out, ← Bool.and_assoc, hq]; rfl, by rw [hacc1.out], HB⟩
        case measure => simp [intOf]; omega
    · obtain rfl : k = 8 := by omega
      have t0 : decide (((8 : Nat) : Int) < 8) = false := by decide
      cases hq : (u && sameS (kidS ch) 8) with
      | true =>
        have He := Bx.mk (hend.out hq)
        clear hq
        go_wp2_with fail
        go_ret
        exact ⟨by rw [He.out]; show Ending.returned (.string (kidS ch 0)) = _; rw [hk0.out]; rfl, HB.out⟩
      | false =>
        have He := Bx.mk (hend2.out hq)
        clear hq
        go_wp2_with fail
        go_ret
        exact ⟨by rw [He.out]; show Ending.returned (.string (accS d ch 8)) = _; rw [haccE.out], HB.out⟩
end Go.Proofs.YtabclecmehdeoaaGreat
end
section
/- voxelref09.has, Add, by the program. -/
namespace Go.Proofs.YtabclecmehdeoaaGreat
open Go.RowKit Go.Sort
open Oct

/-- the texts of trees -/
def encs (ts : List Tr) : List Value := strs (ts.map Tr.enc)
theorem encs_len (ts : List Tr) : (encs ts).length = ts.length := by unfold encs; rw [strs_length, List.length_map]
theorem encs_at {ts : List Tr} {i : Nat} {t : Tr} (h : ts[i]? = some t) : (encs ts)[i]? = some (.string (strOfNums (Tr.enc t))) := strs_at (by rw [List.getElem?_map, h]; rfl)
theorem encs_snoc (ts : List Tr) (t : Tr) : encs (ts ++ [t]) = encs ts ++ [.string (strOfNums (Tr.enc t))] := by unfold encs; rw [List.map_append]; exact strs_snoc _ _
noncomputable def hasB (ts : List Tr) (t : Tr) : Bool := @decide (t ∈ ts) (Classical.propDecidable _)
theorem hasB_yes {ts : List Tr} {t : Tr} (h : t ∈ ts) : hasB ts t = true := @decide_eq_true _ (Classical.propDecidable _) h
theorem hasB_no {ts : List Tr} {t : Tr} (h : t ∉ ts) : hasB ts t = false := @decide_eq_false _ (Classical.propDecidable _) h
theorem text_eq {t t' : Tr} (h : Tr.WF t) (h' : Tr.WF t') : strOfNums (Tr.enc t) = strOfNums (Tr.enc t') ↔ t = t' :=
  ⟨fun e => (Tr.enc_eq h h').1 (strOfNums_inj (Tr.enc_byt _ h) (Tr.enc_byt _ h') e), fun e => by rw [e]⟩
theorem ref9_has (ts : List Tr) (t : Tr) (hts : ∀ x ∈ ts, Tr.WF x) (ht : Tr.WF t) (hl : ts.length ≤ 1000000000) (a : Option Addr) (cap : Nat) (w : World) (hs : Slv w a (encs ts)) :
    Calls Tryz.prog 37 #[.slice a ts.length cap, .string (strOfNums (Tr.enc t))] w fun e w' => e = .returned (.bool (hasB ts t)) ∧ w = w' := by
  have Hs := Bx.mk hs
  have Hw := Bx.mk hts
  have Ht := Bx.mk ht
  obtain ⟨n, hn⟩ : ∃ n, n = ts.length := ⟨_, rfl⟩
  rw [← hn] at hl ⊢
  have Hn := Bx.mk hn
  generalize hS : strOfNums (Tr.enc t) = S
  have HS := Bx.mk hS
  clear hs hts ht hn hS
  go_enter Tryz.func37, Tryz.ntmps37
  go_wp2_with fail
  go_loop [5] (fun i => ∃ k : Nat, k ≤ n ∧ i = .int .i64 k ∧ Bx (∀ j, j < k → ts[j]? ≠ some t)) (fun i => n - (intOf i).toNat)
  case atStart => exact ⟨0, Nat.zero_le _, rfl, ⟨fun j hj => absurd hj (Nat.not_lt_zero j)⟩⟩
  case round =>
    obtain ⟨k, hk, rfl, hno⟩ := hrel
    by_cases hlt : k < n
    · have t0 : decide ((k : Int) < (n : Int)) = true := by simp; omega
      obtain ⟨x, hx⟩ : ∃ x, ts[k]? = some x := ⟨_, List.getElem?_eq_getElem (by rw [← Hn.out]; exact hlt)⟩
      obtain ⟨b, off, rfl, hc⟩ := Hs.out k _ (encs_at hx)
      have b1 : (0 : Int) ≤ (k : Int) := by omega
      have b2 : (k : Int) < (n : Int) := by omega
      have hq : ((strOfNums (Tr.enc x)).toList == S.toList) = true ↔ x = t := by rw [strEq_iff, ← HS.out, text_eq (Hw.out x (List.mem_of_getElem? hx)) Ht.out]
      have HX := Bx.mk hx
      generalize strOfNums (Tr.enc x) = X at *
      by_cases he : x = t
      · have h1 : (X.toList == S.toList) = true := hq.2 he
        have Hm := Bx.mk (show t ∈ ts from he ▸ List.mem_of_getElem? HX.out)
        clear hx hq he HX
        go_wp2_with fail
        go_ret
        exact ⟨by rw [hasB_yes Hm.out]; rfl, rfl⟩
      · have h1 : (X.toList == S.toList) = false := by
          cases hb : (X.toList == S.toList) with
          | false => rfl
          | true => exact absurd (hq.1 hb) he
        have hno2 := Bx.mk (show ∀ j, j < k + 1 → ts[j]? ≠ some t from fun j hj => by
          by_cases e : j = k
          · rw [e, HX.out]; intro e2; injection e2 with e2; exact he e2
          · exact hno.out j (by omega))
        clear hx hq he HX
        go_wp2_with fail
        go_round
        case rel => exact ⟨k + 1, by omega, by go_num, hno2⟩
        case measure => simp [intOf]; omega
    · obtain rfl : k = n := by omega
      have t0 : decide ((k : Int) < (k : Int)) = false := by simp
      have Hm := Bx.mk (show t ∉ ts from fun hm => by
        obtain ⟨j, hj, he⟩ := List.getElem_of_mem hm
        exact hno.out j (by rw [Hn.out]; exact hj) (by rw [List.getElem?_eq_getElem hj, he]))
      go_wp2_with fail
      go_ret
      exact ⟨by rw [hasB_no Hm.out]; rfl, rfl⟩
theorem enc_first (t : Tr) : ∃ b r, Tr.enc t = b :: r ∧ ((b == 110) = true ↔ ∃ d ch, t = .node d ch) := by
  cases t with
  | uni c => exact ⟨117, [c], by rw [Tr.enc], by simp⟩
  | brick l => exact ⟨98, l, by rw [Tr.enc], by simp⟩
  | node d ch => exact ⟨110, _, by rw [Tr.enc], by simp⟩
theorem wf_add : ∀ (t : Tr), Tr.WF t → ∀ (ts : List Tr), (∀ x ∈ ts, Tr.WF x) → ∀ x ∈ Tr.add t ts, Tr.WF x := by
  have ins : ∀ (t : Tr), Tr.WF t → ∀ (ts : List Tr), (∀ x ∈ ts, Tr.WF x) → ∀ x ∈ Tr.ins t ts, Tr.WF x := fun t ht ts hts x hx => by
    rcases Tr.of_mem_ins hx with h | h
    · exact hts x h
    · exact h ▸ ht
  intro t
  induction t with
  | uni c => intro ht ts hts; rw [Tr.add_uni]; exact ins _ ht ts hts
  | brick l => intro ht ts hts; rw [Tr.add_brick]; exact ins _ ht ts hts
  | node d ch ih =>
    intro ht ts hts x hx
    rw [Tr.add_node] at hx
    split at hx
    · exact hts x hx
    · rcases List.mem_append.1 hx with h | h
      · exact Tr.addK_ind (P := fun us => ∀ x ∈ us, Tr.WF x) (fun i us hus => ih i (ht.2 i) us hus) 8 (Nat.le_refl _) ts hts x h
      · rw [List.mem_singleton] at h; exact h ▸ ht
/-- what lies in memory while the children are added -/
structure AddI (w : World) (B : Nat) (v : Value) (n : Nat) (ch : Fin 8 → Tr) (g : Nat) (us : List Tr) (v0 : Value) (wr : World) : Prop where
  own : Ownv wr B 9 v0 (encs us)
  add : Added w wr v v0 n
  kids : Slv wr (some ⟨g, 0, none⟩) (strs (kidsE ch))
  lt : g < wr.heap.size
  ap : v0.ownBlock ≠ some g
set_option maxRecDepth 100000 in
theorem add_yes (t : Tr) (ht : Tr.WF t) (ts : List Tr) (hts : ∀ x ∈ ts, Tr.WF x) (hm : t ∈ ts) (hl : ts.length ≤ 100000000) (w : World) (B : Nat) (v : Value) (hown : Ownv w B 9 v (encs ts)) :
    Calls Tryz.prog 9 #[v, .string (strOfNums (Tr.enc t))] w fun e w' => ∃ v', e = .returned v' ∧ Ownv w' B 9 v' (encs (Tr.add t ts)) ∧ Added w w' v v' ts.length := by
  rw [Tr.add_same t ts hm]
  obtain ⟨a, cap, rfl, hsl⟩ := hown.form
  rw [encs_len]
  have hh := ref9_has ts t hts ht (by omega) a cap w hsl
  rw [hasB_yes hm] at hh
  have HH := Bx.mk hh
  rw [encs_len] at hown
  have Hown := Bx.mk hown
  clear hh hsl hown hts ht hm
  generalize strOfNums (Tr.enc t) = S at *
  go_enter Tryz.func9, Tryz.ntmps9
  go_wp2_with fail
  refine HH.out.mono ?_
  rintro _ _ ⟨rfl, rfl⟩
  go_wp2_with fail
  go_ret
  exact ⟨_, rfl, Hown.out, Added.refl _ _ _⟩
set_option maxRecDepth 100000 in
theorem add_flat (t : Tr) (ht : Tr.WF t) (hn : ¬ ∃ d ch, t = .node d ch) (ts : List Tr) (hts : ∀ x ∈ ts, Tr.WF x) (hm : t ∉ ts) (hl : ts.length ≤ 100000000) (w : World) (B : Nat) (hB : B ≤ w.heap.size) (v : Value) (hown : Ownv w B 9 v (encs ts)) :
    Calls Tryz.prog 9 #[v, .string (strOfNums (Tr.enc t))] w fun e w' => ∃ v', e = .returned v' ∧ Ownv w' B 9 v' (encs (Tr.add t ts)) ∧ Added w w' v v' ts.length := by
  have hadd : Tr.add t ts = ts ++ [t] := by
    cases t with
    | uni c => rw [Tr.add_uni, Tr.ins_of_not hm]
    | brick l => rw [Tr.add_brick, Tr.ins_of_not hm]
    | node d ch => exact absurd ⟨d, ch, rfl⟩ hn
  have Hs := Bx.mk (show encs (Tr.add t ts) = encs ts ++ [.string (strOfNums (Tr.enc t))] by rw [hadd, encs_snoc])
  obtain ⟨b0, r0, he0, hu0⟩ := enc_first t
  have hb0 : (b0 == 110) = false := by
    cases hb : (b0 == 110) with
    | false => rfl
    | true => exact absurd (hu0.1 hb) hn
  have hi0 := fun W : World => idx_str (P := Tryz.prog) 9 Tryz.underlying9 (Tr.enc_byt _ ht) (k := 0) (x := b0) (by rw [he0]; rfl) W
  rw [show ((0 : Nat) : Int) = 0 from rfl] at hi0
  have hlt := Bx.mk hown.lt
  obtain ⟨a, cap, rfl, hsl⟩ := hown.form
  rw [encs_len] at hown hlt ⊢
  have hh := ref9_has ts t hts ht (by omega) a cap w hsl
  rw [hasB_no hm] at hh
  have HH := Bx.mk hh
  have Hown := Bx.mk hown
  have Hl := Bx.mk (show (encs ts).length ≤ 1000000000 by rw [encs_len]; omega)
  have HE := Bx.mk (encs_len ts)
  clear hh hsl hown hts ht hm he0 hu0 hn hadd
  generalize strOfNums (Tr.enc t) = S at *
  go_enter Tryz.func9, Tryz.ntmps9
  go_wp2_with fail
  refine HH.out.mono ?_
  rintro _ _ ⟨rfl, rfl⟩
  go_wp2_with (first
    | (at_builtin
       refine wpList_append_keep rfl _ _ 39 rfl 9 (.string ByteArray.empty) 16 (by omega) Tryz.underlying39 (by kernel_rfl) rfl B _ (encs ts) rfl (Hown.out.alloc _) (.string S) rfl ⟨w.heap.size, 0, none⟩ 1 rfl (cell_new _ _ _) Hl.out (le_alloc hB _) ?_
       intro v1 w1 hown1 hadd1))
  rw [← Hs.out] at hown1
  rw [HE.out] at hadd1
  have H1 := Bx.mk (show Added w w1 _ v1 ts.length from Added.after (below_lit w _) hadd1 (fun g hg => (hlt.out g hg).2))
  have H2 := Bx.mk hown1
  clear hown1 hadd1
  go_wp2_with fail
  go_ret
  exact ⟨v1, rfl, H2.out, H1.out⟩
set_option maxRecDepth 100000 in
set_option maxHeartbeats 2000000 in
theorem ref9_add : ∀ (t : Tr), Tr.WF t → (Tr.enc t).length ≤ 1000000000000000 → ∀ (ts : List Tr), (∀ x ∈ ts, Tr.WF x) → (Tr.add t ts).length ≤ 100000000 → ∀ (w : World) (B : Nat) (v : Value), B ≤ w.heap.size → Ownv w B 9 v (encs ts) →
    Calls Tryz.prog 9 #[v, .string (strOfNums (Tr.enc t))] w fun e w' => ∃ v', e = .returned v' ∧ Ownv w' B 9 v' (encs (Tr.add t ts)) ∧ Added w w' v v' ts.length := by
  intro t
  induction t with
  | uni c =>
    intro ht _ ts hts hl w B v hB hown
    have hl2 := (Tr.add_prefix (.uni c) ts).length_le
    by_cases hm : Tr.uni c ∈ ts
    · exact add_yes _ ht ts hts hm (by omega) w B v hown
    · exact add_flat _ ht (by rintro ⟨d, ch, h⟩; cases h) ts hts hm (by omega) w B hB v hown
  | brick l =>
    intro ht _ ts hts hl w B v hB hown
    have hl2 := (Tr.add_prefix (.brick l) ts).length_le
    by_cases hm : Tr.brick l ∈ ts
    · exact add_yes _ ht ts hts hm (by omega) w B v hown
    · exact add_flat _ ht (by rintro ⟨d, ch, h⟩; cases h) ts hts hm (by omega) w B hB v hown
  | node d ch ih =>
    intro ht hsz ts hts hl w B v hB hown
    have hl2 := (Tr.add_prefix (.node d ch) ts).length_le
    by_cases hm : Tr.node d ch ∈ ts
    · exact add_yes _ ht ts hts hm (by omega) w B v hown
    · have hadd : Tr.add (.node d ch) ts = Tr.addK ch 8 ts ++ [.node d ch] := by rw [Tr.add_node, if_neg hm]
      have Hs := Bx.mk (show encs (Tr.add (.node d ch) ts) = encs (Tr.addK ch 8 ts) ++ [.string (strOfNums (Tr.enc (.node d ch)))] by rw [hadd, encs_snoc])
      have h8 : (Tr.addK ch 8 ts).length + 1 ≤ 100000000 := by rw [hadd] at hl; simpa using hl
      have hi0 := fun W : World => idx_str (P := Tryz.prog) 9 Tryz.underlying9 (Tr.enc_byt _ ht) (k := 0) (x := 110) (by simp [Tr.enc]) W
      rw [show ((0 : Nat) : Int) = 0 from rfl] at hi0
      have hlt := Bx.mk hown.lt
      obtain ⟨a, cap, rfl, hsl⟩ := hown.form
      rw [encs_len] at hown hlt ⊢
      have hh := ref9_has ts _ hts ht (by omega) a cap w hsl
      rw [hasB_no hm] at hh
      have HH := Bx.mk hh
      have Hown := Bx.mk hown
      have HC := Bx.mk fun W => ref9_children d ch ht hsz W
      have Hle := Bx.mk fun k (hk : k ≤ 8) => (addK_pre (ch := ch) (ts := ts) hk (Nat.le_refl _)).length_le
      have Hle0 := Bx.mk fun k (hk : k ≤ 8) => (Tr.addK_prefix ch k hk ts).length_le
      have Hwf := Bx.mk fun k (hk : k ≤ 8) => Tr.addK_ind (P := fun us => ∀ x ∈ us, Tr.WF x) (fun i us hus => wf_add _ (ht.2 i) us hus) k hk ts hts
      have HIH := Bx.mk fun (k : Nat) (hk : k < 8) => ih ⟨k, hk⟩ (ht.2 _) (by
        have h1 := Tr.pos_succ ch hk
        have h2 := Tr.pos_le d ch (show k + 1 ≤ 8 by omega)
        omega) (Tr.addK ch k ts) (Hwf.out k (by omega)) (by
        rw [← Tr.addK_succ ch hk]; have := Hle.out (k + 1) (by omega); omega)
      have HE8 := Bx.mk (show (encs (Tr.addK ch 8 ts)).length ≤ 1000000000 by rw [encs_len]; omega)
      have Hsu := Bx.mk fun k (hk : k < 8) => Tr.addK_succ ch hk ts
      have HK := Bx.mk fun k (hk : k < 8) => strs_at (kidsE_at ch hk)
      clear hh hsl hown hts ht hm hadd ih hsz h8
      generalize strOfNums (Tr.enc (.node d ch)) = S at *
      go_enter Tryz.func9, Tryz.ntmps9
      go_wp2_with fail
      refine HH.out.mono ?_
      rintro _ _ ⟨rfl, rfl⟩
      go_wp2_with fail
      refine (HC.out _).mono ?_
      rintro _ w1 ⟨g, pc, rfl, hk, hg, hb⟩
      have HI : Bx (AddI w B (.slice a ts.length cap) ts.length ch g (Tr.addK ch 0 ts) (.slice a ts.length cap) w1) := ⟨⟨by rw [Tr.addK_zero]; exact Hown.out.below hb, (Added.refl _ _ _).below hb, hk, hg.2, fun e => by have := (hlt.out g e).2; omega⟩⟩
      clear hk hg hb
      go_wp2_with fail
      go_loopw [0, 7] (fun v0 v7 wr => ∃ k : Nat, k ≤ 8 ∧ v7 = .int .i64 k ∧ Bx (AddI w B (.slice a ts.length cap) ts.length ch g (Tr.addK ch k ts) v0 wr)) (fun _ i _ => 8 - (intOf i).toNat)
      case atStart => exact ⟨0, Nat.zero_le _, rfl, HI⟩
      case round =>
        clear HI
        obtain ⟨k, hk, rfl, HI⟩ := hrel
        obtain ⟨a0, cap0, rfl, -⟩ := HI.out.own.form
        by_cases hlt8 : k < 8
        · have t0 : decide ((k : Int) < 8) = true := by simp; omega
          have b1 : (0 : Int) ≤ (k : Int) := by omega
          have b2 : (k : Int) < 8 := by omega
          obtain ⟨b, off, he, hck⟩ := HI.out.kids k _ (HK.out k hlt8)
          simp only [Option.some.injEq, Addr.mk.injEq, and_true] at he
          obtain ⟨rfl, rfl⟩ := he
          rw [Nat.zero_add] at hck
          have hcall := Bx.mk (HIH.out k hlt8 wr B _ (Nat.le_trans hB HI.out.add.grown.size) HI.out.own)
          rw [← Hsu.out k hlt8] at hcall
          have Hlk := Bx.mk (Hle0.out k (by omega))
          go_wp2_with fail
          refine hcall.out.mono ?_
          rintro _ w2 ⟨v2, rfl, ho, ha⟩
          have HI2 : Bx (AddI w B (.slice a ts.length cap) ts.length ch g (Tr.addK ch (k + 1) ts) v2 w2) := ⟨⟨ho, HI.out.add.trans ha Hlk.out (fun g hg => (hlt.out g hg).2), HI.out.kids.grown ha.grown HI.out.ap, Nat.lt_of_lt_of_le HI.out.lt ha.grown.size, fun e => by
            rcases ha.where_ with h1 | h1
            · exact HI.out.ap (h1 ▸ e)
            · have := h1 g e; have := HI.out.lt; omega⟩⟩
          clear ho ha hcall hck
          go_wp2_with fail
          go_roundw
          case rel => exact ⟨k + 1, by omega, by go_num, HI2⟩
          case measure => simp [intOf]; omega
        · obtain rfl : k = 8 := by omega
          have t0 : decide (((8 : Nat) : Int) < 8) = false := by decide
          have hB2 : B ≤ wr.heap.size := Nat.le_trans hB HI.out.add.grown.size
          have Hl8 := Bx.mk (Hle0.out 8 (Nat.le_refl _))
          have HEn := Bx.mk (encs_len (Tr.addK ch 8 ts))
          go_wp2_with (first
            | (at_builtin
               refine wpList_append_keep rfl _ _ 39 rfl 9 (.string ByteArray.empty) 16 (by omega) Tryz.underlying39 (by kernel_rfl) rfl B _ (encs (Tr.addK ch 8 ts)) rfl (HI.out.own.alloc _) (.string S) rfl ⟨wr.heap.size, 0, none⟩ 1 rfl (cell_new _ _ _) HE8.out (le_alloc hB2 _) ?_
               intro v1 w2 hown1 hadd1))
          rw [← Hs.out] at hown1
          have H1 := Bx.mk (show Added w w2 (.slice a ts.length cap) v1 ts.length from HI.out.add.trans (Added.after (below_lit wr _) hadd1 (fun g hg => (HI.out.own.lt g hg).2)) (by rw [HEn.out]; exact Hl8.out) (fun g hg => (hlt.out g hg).2))
          have H2 := Bx.mk hown1
          clear hown1 hadd1
          go_wp2_with fail
          go_ret
          exact ⟨v1, rfl, H2.out, H1.out⟩
end Go.Proofs.YtabclecmehdeoaaGreat
end
