import Derived.Test.YtabclecmehdeoaaGreatGSha
import Derived.Test.YtabclecmehdeoaaGreatGAdd
import Derived.Test.YtabclecmehdeoaaGreatGGri
import Derived.Test.YtabclecmehdeoaaGreatGGen
section
/- voxelref09.index, corner, octant, Cells (uniform), by the program. -/
namespace Go.Proofs.YtabclecmehdeoaaGreat
open Go.RowKit Go.Sort Go.Maps
open Oct

theorem index9_any (ax ay az px py pz : Int) (hx : 0 ≤ ax ∧ ax ≤ px ∧ px ≤ 100000) (hy : 0 ≤ ay ∧ ay ≤ py ∧ py ≤ 100000) (hz : 0 ≤ az ∧ az ≤ pz ∧ pz ≤ 100000) (w : World) :
    Calls Tryz.prog 81 #[.agg #[.int .i64 ax, .int .i64 ay, .int .i64 az], .agg #[.int .i64 px, .int .i64 py, .int .i64 pz]] w fun e w' => e = .returned (.int .i64 (16 * (pz - az) + 4 * (py - ay) + px - ax)) ∧ Below w.heap.size w w' := by
  obtain ⟨x1, x2, x3⟩ := hx
  obtain ⟨y1, y2, y3⟩ := hy
  obtain ⟨z1, z2, z3⟩ := hz
  go_enter Tryz.func81, Tryz.ntmps81
  go_wp2_with fail
  go_ret
  exact ⟨rfl, ((Below.refl _ _).alloc (Nat.le_refl _) _).alloc (by simp) _⟩
set_option maxRecDepth 100000 in
theorem corner9_any (h : Nat) (hh : h ≤ 14) (px py pz : Int) (i : Nat) (hi : i < 8) (hx : 0 ≤ px ∧ px ≤ 100000) (hy : 0 ≤ py ∧ py ≤ 100000) (hz : 0 ≤ pz ∧ pz ≤ 100000) (w : World) :
    Calls Tryz.prog 76 #[.agg #[.int .i64 px, .int .i64 py, .int .i64 pz], .int .i64 ((h : Int) + 1), .int .i64 (i : Int)] w fun e w' => e = .returned (.agg #[.int .i64 (px + chX i (2 ^ h)), .int .i64 (py + chY i (2 ^ h)), .int .i64 (pz + chZ i (2 ^ h))]) ∧ Below w.heap.size w w' := by
  have hsd := fun W => side_any h hh W
  have hp := pow_le hh
  generalize hm : (2 : Int) ^ h = m at *
  obtain ⟨bx, by', bz⟩ := ch_bd hi (show 0 ≤ m by omega)
  have e1 : (i : Int) % 2 * m = chX i m := by unfold chX; rw [Int.natCast_emod]; rfl
  have e2 : (i : Int) / 2 % 2 * m = chY i m := by unfold chY; rw [Int.natCast_emod, Int.natCast_ediv]; rfl
  have e3 : (i : Int) / 4 * m = chZ i m := by unfold chZ; rw [Int.natCast_ediv]; rfl
  have w1 : IntKind.i64.wrap ((i : Int) % 2 * m) = chX i m := by rw [e1]; exact IntWalk.i64_in _ (by omega)
  have w2 : IntKind.i64.wrap ((i : Int) / 2 % 2 * m) = chY i m := by rw [e2]; exact IntWalk.i64_in _ (by omega)
  have w3 : IntKind.i64.wrap ((i : Int) / 4 * m) = chZ i m := by rw [e3]; exact IntWalk.i64_in _ (by omega)
  generalize chX i m = cx at *
  generalize chY i m = cy at *
  generalize chZ i m = cz at *
  have hsub : IntKind.i64.wrap ((h : Int) + 1 - 1) = (h : Int) := by rw [show (h : Int) + 1 - 1 = h by omega]; exact IntWalk.i64_in _ (by omega)
  have hsd := Bx.mk hsd
  have b1 : (0 : Int) ≤ (i : Int) := by omega
  have b2 : (i : Int) < 8 := by omega
  have t1 := IntWalk.i64_in (px + cx) (by omega)
  have t2 := IntWalk.i64_in (py + cy) (by omega)
  have t3 := IntWalk.i64_in (pz + cz) (by omega)
  clear hm e1 e2 e3 hx hy hz bx by' bz hi
  go_enter Tryz.func76, Tryz.ntmps76
  go_wp2_with fail
  generalize hW : World.alloc (World.alloc w _) _ = W
  have hSz : w.heap.size + 1 + 1 ≤ W.heap.size := by rw [← hW]; simp
  have hB : Below w.heap.size w W := by rw [← hW]; exact ((Below.refl _ _).alloc (Nat.le_refl _) _).alloc (by simp) _
  have kp : Bk W (w.heap.size) #[.int .i64 px, .int .i64 py, .int .i64 pz] 23 := by rw [← hW]; exact blk_old (blk_new _ _ _ (by simp))
  have kr : Bk W (w.heap.size + 1) #[.int .i64 0, .int .i64 0, .int .i64 0] 23 := by rw [← hW]; exact blk_new _ _ _ (by simp)
  clear hW
  refine (hsd.out _).mono ?_
  rintro _ _ ⟨rfl, rfl⟩
  have cp0 := kp.cell 0 rfl
  have cp1 := kp.cell 1 rfl
  have cp2 := kp.cell 2 rfl
  have cr0 := kr.cell 0 rfl
  have cr1 := kr.cell 1 rfl
  have cr2 := kr.cell 2 rfl
  have fr0 := kr.frozen 0
  have fr1 := kr.frozen 1
  have fr2 := kr.frozen 2
  go_wp2_with fail
  replace kr := kr.put3 (.int .i64 (px + cx)) (.int .i64 (py + cy)) (.int .i64 (pz + cz))
  exact bodyPost_ret (v := .agg #[.int .i64 (px + cx), .int .i64 (py + cy), .int .i64 (pz + cz)]) (results_cell_row rfl _ _ (w.heap.size + 1) 23 #[.int .i64 (px + cx), .int .i64 (py + cy), .int .i64 (pz + cz)] (0, 0) _ rfl kr Tryz.underlying23 rfl (by kernel_rfl)) rfl ⟨rfl, blw3 hB (by omega) _ _ _⟩
theorem inB_inC {n : Nat} {ax ay az m : Int} (hm : m = 2 ^ (n + 2)) (ha : Tr.Al n ⟨ax, ay, az⟩) {p : Pt} : inB p ⟨⟨ax, ay, az⟩, ⟨ax + m, ay + m, az + m⟩⟩ = true ↔ Tr.InC n ⟨ax, ay, az⟩ p := by
  refine ⟨fun h => ?_, fun h => inC_cube hm ha h⟩
  obtain ⟨a1, a2, a3⟩ := ha
  have hp := Tr.pow_pos2 n
  rw [← hm] at a1 a2 a3 hp
  simp only [] at a1 a2 a3
  have h := inB_iff.1 h
  have key : ∀ p a : Int, a % m = 0 → a ≤ p → p < a + m → p / m = a / m := by
    intro p a h2 h3 h4
    have e2 := Int.mul_ediv_add_emod a m
    rw [h2, Int.add_zero] at e2
    obtain ⟨r, hr⟩ : ∃ r, r = p - a := ⟨_, rfl⟩
    have hpe : p = r + m * (a / m) := by omega
    rw [hpe, Int.add_mul_ediv_left _ _ (by omega), Int.ediv_eq_zero_of_lt (by omega) (by omega), Int.zero_add]
  refine ⟨?_, ?_, ?_⟩
  · show p.x / 2 ^ (n + 2) = ax / 2 ^ (n + 2); rw [← hm]; exact key _ _ a1 h.1 h.2.1
  · show p.y / 2 ^ (n + 2) = ay / 2 ^ (n + 2); rw [← hm]; exact key _ _ a2 h.2.2.1 h.2.2.2.1
  · show p.z / 2 ^ (n + 2) = az / 2 ^ (n + 2); rw [← hm]; exact key _ _ a3 h.2.2.2.2.1 h.2.2.2.2.2
set_option maxRecDepth 100000 in
set_option maxHeartbeats 1000000 in
theorem octant9_any (n : Nat) (hn : n ≤ 11) (ax ay az px py pz : Int) (hal : Tr.Al (n + 1) ⟨ax, ay, az⟩) (hin : Tr.InC (n + 1) ⟨ax, ay, az⟩ ⟨px, py, pz⟩) (hx : 0 ≤ ax ∧ ax ≤ 16384) (hy : 0 ≤ ay ∧ ay ≤ 16384) (hz : 0 ≤ az ∧ az ≤ 16384) (w : World) :
    Calls Tryz.prog 82 #[.agg #[.int .i64 ax, .int .i64 ay, .int .i64 az], .int .i64 ((n : Int) + 3), .agg #[.int .i64 px, .int .i64 py, .int .i64 pz]] w fun e w' => e = .returned (.int .i64 (Tr.octN n ⟨px, py, pz⟩ : Int)) ∧ Below w.heap.size w w' := by
  have hp := pow_le (show n + 2 ≤ 14 by omega)
  obtain ⟨m, hm⟩ : ∃ m : Int, m = 2 ^ (n + 2) := ⟨_, rfl⟩
  rw [← hm] at hp
  have hcor := Bx.mk fun W (k : Nat) (hk : k < 8) => corner9_any (n + 2) (by omega) ax ay az k hk (by omega) (by omega) (by omega) W
  have hcub := Bx.mk fun W (k : Nat) (hk : k < 8) => cube9_any (ax + chX k m) (ay + chY k m) (az + chZ k m) (n + 2) (by omega) (by have := ch_bd hk (show 0 ≤ m by omega); omega) (by have := ch_bd hk (show 0 ≤ m by omega); omega) (by have := ch_bd hk (show 0 ≤ m by omega); omega) W
  have hrin := Bx.mk fun W (k : Nat) => ref_in px py pz (ax + chX k m) (ay + chY k m) (az + chZ k m) (ax + chX k m + m) (ay + chY k m + m) (az + chZ k m + m) W
  rw [← hm, show ((n + 2 : Nat) : Int) + 1 = (n : Int) + 3 by omega] at hcor
  rw [← hm, show ((n + 2 : Nat) : Int) = (n : Int) + 2 by omega] at hcub
  have hdec := Bx.mk fun (k : Nat) (hk : k < 8) => (show inB ⟨px, py, pz⟩ ⟨⟨ax + chX k m, ay + chY k m, az + chZ k m⟩, ⟨ax + chX k m + m, ay + chY k m + m, az + chZ k m + m⟩⟩ = true ↔ k = Tr.octN n ⟨px, py, pz⟩ from by
    have hc := cor_at ax ay az n k
    rw [← hm] at hc
    have hal2 := Tr.al_cor hal k
    rw [hc] at hal2
    rw [inB_inC hm hal2, ← hc]
    constructor
    · intro h
      exact congrArg Fin.val (Tr.inC_other (i := ⟨k, hk⟩) hal h).1
    · intro h
      rw [h]
      exact Tr.inC_step hal hin)
  have ho8 := Tr.octN_lt n ⟨px, py, pz⟩
  generalize Tr.octN n ⟨px, py, pz⟩ = o at *
  have hsub : IntKind.i64.wrap ((n : Int) + 3 - 1) = (n : Int) + 2 := by rw [show (n : Int) + 3 - 1 = (n : Int) + 2 by omega]; exact IntWalk.i64_in _ (by omega)
  clear hm hal hin hx hy hz hp
  go_enter Tryz.func82, Tryz.ntmps82
  go_wp2_with fail
  generalize hW : World.alloc (World.alloc w _) _ = W
  have hB : Below w.heap.size w W := by rw [← hW]; exact ((Below.refl _ _).alloc (Nat.le_refl _) _).alloc (by simp) _
  have ka : Bk W (w.heap.size) #[.int .i64 ax, .int .i64 ay, .int .i64 az] 23 := by rw [← hW]; exact blk_old (blk_new _ _ _ (by simp))
  have kp : Bk W (w.heap.size + 1) #[.int .i64 px, .int .i64 py, .int .i64 pz] 23 := by rw [← hW]; exact blk_new _ _ _ (by simp)
  have HI := Bx.mk (show Bk W (w.heap.size) #[.int .i64 ax, .int .i64 ay, .int .i64 az] 23 ∧ Bk W (w.heap.size + 1) #[.int .i64 px, .int .i64 py, .int .i64 pz] 23 ∧ Below w.heap.size w W from ⟨ka, kp, hB⟩)
  clear hW ka kp hB
  go_loopw [7] (fun v7 wr => ∃ k : Nat, k ≤ o ∧ v7 = .int .i64 k ∧ Bx (Bk wr (w.heap.size) #[.int .i64 ax, .int .i64 ay, .int .i64 az] 23 ∧ Bk wr (w.heap.size + 1) #[.int .i64 px, .int .i64 py, .int .i64 pz] 23 ∧ Below w.heap.size w wr)) (fun i _ => 8 - (intOf i).toNat)
  case atStart => exact ⟨0, Nat.zero_le _, rfl, HI⟩
  case round =>
    clear HI
    obtain ⟨k, hk, rfl, HI⟩ := hrel
    have t0 : decide ((k : Int) < 8) = true := by simp; omega
    have hk8 : k < 8 := by omega
    have hd := hdec.out k hk8
    have ca0 : ∀ dk osk, (grow (redrawn wr dk) osk).cell? ⟨w.heap.size, 0, none⟩ = some (.int .i64 ax) := cell_regrown (HI.out.1.cell 0 rfl)
    have ca1 : ∀ dk osk, (grow (redrawn wr dk) osk).cell? ⟨w.heap.size, 1, none⟩ = some (.int .i64 ay) := cell_regrown (HI.out.1.cell 1 rfl)
    have ca2 : ∀ dk osk, (grow (redrawn wr dk) osk).cell? ⟨w.heap.size, 2, none⟩ = some (.int .i64 az) := cell_regrown (HI.out.1.cell 2 rfl)
    have cp0 : ∀ dk osk, (grow (redrawn wr dk) osk).cell? ⟨w.heap.size + 1, 0, none⟩ = some (.int .i64 px) := cell_regrown (HI.out.2.1.cell 0 rfl)
    have cp1 : ∀ dk osk, (grow (redrawn wr dk) osk).cell? ⟨w.heap.size + 1, 1, none⟩ = some (.int .i64 py) := cell_regrown (HI.out.2.1.cell 1 rfl)
    have cp2 : ∀ dk osk, (grow (redrawn wr dk) osk).cell? ⟨w.heap.size + 1, 2, none⟩ = some (.int .i64 pz) := cell_regrown (HI.out.2.1.cell 2 rfl)
    have q0 := Bx.mk fun dk osk => Calls.regrown_of (hcor.out (grow (redrawn wr dk) osk) k hk8)
    have q1 := Bx.mk fun dk osk => Calls.regrown_of (hcub.out (grow (redrawn wr dk) osk) k hk8)
    have q2 := Bx.mk fun dk osk => Calls.regrown_of (hrin.out (grow (redrawn wr dk) osk) k)
    have Hd := Bx.mk hd
    clear hd
    generalize hbb : inB ⟨px, py, pz⟩ ⟨⟨ax + chX k m, ay + chY k m, az + chZ k m⟩, ⟨ax + chX k m + m, ay + chY k m + m, az + chZ k m + m⟩⟩ = bb at *
    clear hbb
    generalize ax + chX k m = x1 at *
    generalize ay + chY k m = y1 at *
    generalize az + chZ k m = z1 at *
    go_wp2_with fail
    refine wp_region_quiet_below (by kernel_rfl) (by kernel_rfl) ?_
    repeat (first | go_big_quiet_step ((first | with_reducible exact q0.out _ _ | with_reducible exact q1.out _ _ | with_reducible exact q2.out _ _)) | quiet_step (first | with_reducible exact q0.out _ _ | with_reducible exact q1.out _ _ | with_reducible exact q2.out _ _))
    refine wpQuiet_nil ?_
    rintro _ ⟨⟨dq, osq⟩, rfl⟩
    have hb0 := below_regrown wr dq osq
    have HI2 := Bx.mk (show Bk (grow (redrawn wr dq) osq) (w.heap.size) #[.int .i64 ax, .int .i64 ay, .int .i64 az] 23 ∧ Bk (grow (redrawn wr dq) osq) (w.heap.size + 1) #[.int .i64 px, .int .i64 py, .int .i64 pz] 23 ∧ Below w.heap.size w (grow (redrawn wr dq) osq) from ⟨HI.out.1.later hb0, HI.out.2.1.later hb0, HI.out.2.2.trans (hb0.mono HI.out.2.2.size)⟩)
    clear q0 q1 q2 ca0 ca1 ca2 cp0 cp1 cp2 hb0
    generalize grow (redrawn wr dq) osq = w7 at *
    by_cases he : k = o
    · obtain rfl : bb = true := Hd.out.2 he
      have He := Bx.mk he
      clear he
      go_wp2_with fail
      go_ret
      exact ⟨by rw [← He.out]; rfl, HI2.out.2.2⟩
    · have hbf : bb = false := by
        cases hb : bb with
        | false => rfl
        | true => exact absurd (Hd.out.1 hb) he
      subst hbf
      go_wp2_with fail
      go_roundw
      case rel => exact ⟨k + 1, by omega, by go_num, HI2⟩
      case measure => simp [intOf]; omega
set_option maxRecDepth 100000 in
set_option maxHeartbeats 2000000 in
theorem cells9_brick (l : List Int) (hl : l.length = 64) (hb : ∀ x ∈ l, 0 ≤ x ∧ x ≤ 255) (w : World) :
    Calls Tryz.prog 49 #[.string (strOfNums (98 :: l))] w fun e w' => ∃ v, e = .returned v ∧ Own w' w.heap.size 3 .i64 v l ∧ Below w.heap.size w w' := by
  have hby : Byt (98 :: l) := fun x hx => by
    rcases List.mem_cons.1 hx with rfl | hx
    · omega
    · exact hb x hx
  have Hby := Bx.mk hby
  have Hl := Bx.mk hl
  have Hb := Bx.mk hb
  have hi0 := fun W : World => idx_str (P := Tryz.prog) 9 Tryz.underlying9 hby (k := 0) (x := 98) rfl W
  obtain ⟨S, hS⟩ : ∃ S, S = strOfNums (98 :: l) := ⟨_, rfl⟩
  have HS := Bx.mk hS
  rw [← hS] at hi0 ⊢
  rw [show ((0 : Nat) : Int) = 0 from rfl] at hi0
  clear hl hb hby hS
  go_enter Tryz.func49, Tryz.ntmps49
  go_wp2_with fail
  go_loopw [3, 4] (fun v i wr => ∃ k : Nat, k ≤ 64 ∧ i = .int .i64 k ∧ Bx (Own wr w.heap.size 3 .i64 v (l.take k)) ∧ Bx (Below w.heap.size w wr)) (fun _ i _ => 64 - (intOf i).toNat)
  case atStart => exact ⟨0, Nat.zero_le _, rfl, ⟨Own.nil _ _ _ _⟩, ⟨Below.refl _ _⟩⟩
  case round =>
    obtain ⟨k, hk, rfl, hown, hbw⟩ := hrel
    by_cases hlt : k < 64
    · obtain ⟨x, hx⟩ := at_lt Hl hlt
      have hr := Hb.out x (List.mem_of_getElem? hx)
      have hnext := Bx.mk (take_snoc_at hx)
      have hik := fun W : World => idx_str (P := Tryz.prog) 9 Tryz.underlying9 Hby.out (k := k + 1) (x := x) (by simpa using hx) W
      rw [← HS.out, show ((k + 1 : Nat) : Int) = 1 + (k : Int) by omega] at hik
      have b3 : (0 : Int) ≤ (k : Int) := by omega
      have b4 : (k : Int) < 64 := by omega
      have hw1 : IntKind.i64.wrap (1 + (k : Int)) = 1 + (k : Int) := IntWalk.i64_in _ (by omega)
      have hwrap : IntKind.i64.wrap x = x := IntWalk.i64_in _ (by omega)
      have hle := hbw.out.size
      have Htl := Bx.mk (show (l.take k).length ≤ 1000000000 by rw [List.length_take]; omega)
      clear hx
      go_wp2_with (first
        | (at_builtin
           refine wpList_append_int rfl _ _ 26 rfl 3 .i64 (.int .i64 0) 8 (by omega) Tryz.underlying26 (by kernel_rfl) rfl w.heap.size _ (l.take k) rfl (hown.out.alloc _) x ⟨wr.heap.size, 0, none⟩ 1 rfl (cell_new _ _ _) Htl.out (le_alloc hle _) ?_
           intro v1 w1 hown1 hg1 _))
      have hown2 := Bx.mk hown1
      rw [← hnext.out] at hown2
      have hbw2 := Bx.mk ((hbw.out.alloc hle (.cells #[.int .i64 x] 3)).grown hg1 (le_alloc hle _) (fun g hg => (hown.out.lt g hg).1))
      clear hown1 hg1
      go_roundw
      case rel => exact ⟨k + 1, by omega, by go_num, hown2, hbw2⟩
      case measure => simp [intOf]; omega
    · obtain rfl : k = 64 := by omega
      have hown2 := hown.out
      rw [List.take_of_length_le (by rw [Hl.out]; omega)] at hown2
      have Hown := Bx.mk hown2
      clear hown2 hown
      go_wp2_with fail
      go_ret
      exact ⟨_, rfl, Hown.out, hbw.out⟩
set_option maxRecDepth 100000 in
set_option maxHeartbeats 2000000 in
theorem cells9_uni (c : Int) (hc : 0 ≤ c ∧ c ≤ 255) (w : World) :
    Calls Tryz.prog 49 #[.string (strOfNums [117, c])] w fun e w' => ∃ v, e = .returned v ∧ Own w' w.heap.size 3 .i64 v (List.replicate 64 c) ∧ Below w.heap.size w w' := by
  have hby : Byt [117, c] := fun x hx => by
    simp only [List.mem_cons, List.not_mem_nil, or_false] at hx
    omega
  have Hl := Bx.mk (show (List.replicate 64 c).length = 64 from List.length_replicate)
  have hi0 := fun W : World => idx_str (P := Tryz.prog) 9 Tryz.underlying9 hby (k := 0) (x := 117) rfl W
  have hi1 := fun W : World => idx_str (P := Tryz.prog) 9 Tryz.underlying9 hby (k := 1) (x := c) rfl W
  have hrep := Bx.mk fun k (hk : k < 64) => (show (List.replicate 64 c)[k]? = some c by rw [List.getElem?_replicate, if_pos hk])
  generalize List.replicate 64 c = l at *
  obtain ⟨S, hS⟩ : ∃ S, S = strOfNums [117, c] := ⟨_, rfl⟩
  have HS := Bx.mk hS
  rw [← hS] at hi0 hi1 ⊢
  rw [show ((0 : Nat) : Int) = 0 from rfl] at hi0
  rw [show ((1 : Nat) : Int) = 1 from rfl] at hi1
  have hwrap : IntKind.i64.wrap c = c := IntWalk.i64_in _ (by omega)
  clear hby hS hc
  go_enter Tryz.func49, Tryz.ntmps49
  go_wp2_with fail
  go_loopw [3, 4] (fun v i wr => ∃ k : Nat, k ≤ 64 ∧ i = .int .i64 k ∧ Bx (Own wr w.heap.size 3 .i64 v (l.take k)) ∧ Bx (Below w.heap.size w wr)) (fun _ i _ => 64 - (intOf i).toNat)
  case atStart => exact ⟨0, Nat.zero_le _, rfl, ⟨Own.nil _ _ _ _⟩, ⟨Below.refl _ _⟩⟩
  case round =>
    obtain ⟨k, hk, rfl, hown, hbw⟩ := hrel
    by_cases hlt : k < 64
    · have hnext := Bx.mk (take_snoc_at (hrep.out k hlt))
      have b3 : (0 : Int) ≤ (k : Int) := by omega
      have b4 : (k : Int) < 64 := by omega
      have hle := hbw.out.size
      have Htl := Bx.mk (show (l.take k).length ≤ 1000000000 by rw [List.length_take]; omega)
      go_wp2_with (first
        | (at_builtin
           refine wpList_append_int rfl _ _ 26 rfl 3 .i64 (.int .i64 0) 8 (by omega) Tryz.underlying26 (by kernel_rfl) rfl w.heap.size _ (l.take k) rfl (hown.out.alloc _) c ⟨wr.heap.size, 0, none⟩ 1 rfl (cell_new _ _ _) Htl.out (le_alloc hle _) ?_
           intro v1 w1 hown1 hg1 _))
      have hown2 := Bx.mk hown1
      rw [← hnext.out] at hown2
      have hbw2 := Bx.mk ((hbw.out.alloc hle (.cells #[.int .i64 c] 3)).grown hg1 (le_alloc hle _) (fun g hg => (hown.out.lt g hg).1))
      clear hown1 hg1
      go_roundw
      case rel => exact ⟨k + 1, by omega, by go_num, hown2, hbw2⟩
      case measure => simp [intOf]; omega
    · obtain rfl : k = 64 := by omega
      have hown2 := hown.out
      rw [List.take_of_length_le (by rw [Hl.out]; omega)] at hown2
      have Hown := Bx.mk hown2
      clear hown2 hown
      go_wp2_with fail
      go_ret
      exact ⟨_, rfl, Hown.out, hbw.out⟩
theorem cells9_mk (xs : List Int) (hn : xs.length = 64) (hb : xs.all Pal.cell = true) (w : World) :
    Calls Tryz.prog 49 #[.string (strOfNums (Tr.enc (Tr.mkBrick xs)))] w fun e w' => ∃ v, e = .returned v ∧ Own w' w.heap.size 3 .i64 v xs ∧ Below w.heap.size w w' := by
  have hc := all_cell hb
  unfold Tr.mkBrick
  split
  · rename_i h
    rw [show Tr.enc (.uni (xs.headD 0)) = [117, xs.headD 0] by simp [Tr.enc]]
    have := cells9_uni (xs.headD 0) (hc _ (by cases xs with
      | nil => simp at hn
      | cons x r => simp)) w
    rwa [show List.replicate 64 (xs.headD 0) = xs from (List.eq_replicate_iff.2 ⟨hn, h⟩).symm] at this
  · rw [show Tr.enc (.brick xs) = 98 :: xs by simp [Tr.enc]]
    exact cells9_brick xs hn hc w
end Go.Proofs.YtabclecmehdeoaaGreat
end
section
/- voxelref09.set, by the program. -/
namespace Go.Proofs.YtabclecmehdeoaaGreat
open Go.RowKit Go.Sort Go.Maps
open Oct
theorem small_can (f : Pt → Int) : ∀ (n : Nat) (a : Pt), Tr.small n (Tr.can f n a) := by
  have inn : ∀ (n d : Nat) (ch : Fin 8 → Tr), (∀ i, Tr.small n (ch i)) → Tr.small (n + 1) (Tr.mkInner d ch) := by
    intro n d ch h
    unfold Tr.mkInner
    split
    · rename_i hc
      obtain ⟨c, hc⟩ := hc.1
      rw [hc]; simp [Tr.small]
    · exact h
  intro n
  induction n with
  | zero =>
    intro a
    unfold Tr.can Tr.mkBrick
    split <;> simp [Tr.small]
  | succ n ih =>
    intro a
    unfold Tr.can
    exact inn n _ _ (fun i => ih _)
theorem can_size {f : Pt → Int} (hf : ∀ p, 0 ≤ f p ∧ f p ≤ 255) {n : Nat} (hn : n ≤ 12) (a : Pt) : (Tr.enc (Tr.can f n a)).length ≤ 100000000000000 := by
  have h := Tr.enc_small n _ (wf_can hf n a (by omega)) (small_can f n a)
  have : 8 ^ n ≤ 8 ^ 12 := Nat.pow_le_pow_right (by decide) hn
  omega
theorem upd_range {f : Pt → Int} (hf : ∀ p, 0 ≤ f p ∧ f p ≤ 255) {c : Int} (hc : 0 ≤ c ∧ c ≤ 255) (p : Pt) : ∀ q, 0 ≤ Tr.upd f p c q ∧ Tr.upd f p c q ≤ 255 := fun q => by
  unfold Tr.upd; split
  · exact hc
  · exact hf q
def cellsF (f : Pt → Int) (a : Pt) : List Int := (List.range 64).map fun k => f (Tr.cellAt a k)
theorem cellsF_len (f : Pt → Int) (a : Pt) : (cellsF f a).length = 64 := by simp [cellsF]
theorem cellsF_all {f : Pt → Int} (hf : ∀ p, 0 ≤ f p ∧ f p ≤ 255) (a : Pt) : (cellsF f a).all Pal.cell = true := by
  rw [List.all_eq_true]
  intro x hx
  obtain ⟨k, _, rfl⟩ := List.mem_map.1 hx
  rw [Pal.cell_eq]
  simpa using hf _
theorem can_cells (f : Pt → Int) (a : Pt) : Tr.can f 0 a = Tr.mkBrick (cellsF f a) := rfl
theorem set_zero {f : Pt → Int} (c : Int) {a p : Pt} (ha : Tr.Al 0 a) (h : Tr.InC 0 a p) : Tr.mkBrick ((cellsF f a).set (Tr.idx p) c) = Tr.can (Tr.upd f p c) 0 a := by
  have := Tr.set_can f c 0 a p ha h
  rw [← this, can_cells]
  unfold Tr.setT
  rw [Tr.cells_mkBrick (cellsF_len f a)]
theorem idx_eq {ax ay az px py pz : Int} (ha : Tr.Al 0 ⟨ax, ay, az⟩) (h : Tr.InC 0 ⟨ax, ay, az⟩ ⟨px, py, pz⟩) : 16 * (pz - az) + 4 * (py - ay) + px - ax = ((Tr.idx ⟨px, py, pz⟩ : Nat) : Int) := by
  obtain ⟨a1, a2, a3⟩ := ha
  obtain ⟨h1, h2, h3⟩ := h
  simp only [] at a1 a2 a3 h1 h2 h3
  have e4 : (2 : Int) ^ (0 + 2) = 4 := by decide
  rw [e4] at a1 a2 a3 h1 h2 h3
  unfold Tr.idx
  simp only []
  omega
theorem in_bounds {n : Nat} {ax ay az px py pz m : Int} (hm : m = 2 ^ (n + 2)) (ha : Tr.Al n ⟨ax, ay, az⟩) (h : Tr.InC n ⟨ax, ay, az⟩ ⟨px, py, pz⟩) : (ax ≤ px ∧ px < ax + m) ∧ (ay ≤ py ∧ py < ay + m) ∧ (az ≤ pz ∧ pz < az + m) := by
  have := inB_iff.1 ((inB_inC hm ha).2 h)
  exact ⟨⟨this.1, this.2.1⟩, ⟨this.2.2.1, this.2.2.2.1⟩, ⟨this.2.2.2.2.1, this.2.2.2.2.2⟩⟩
set_option maxRecDepth 100000 in
set_option maxHeartbeats 1000000 in
theorem set9_zero (f : Pt → Int) (hf : ∀ p, 0 ≤ f p ∧ f p ≤ 255) (ax ay az px py pz c : Int) (hal : Tr.Al 0 ⟨ax, ay, az⟩) (hin : Tr.InC 0 ⟨ax, ay, az⟩ ⟨px, py, pz⟩) (hx : 0 ≤ ax ∧ ax + 4 ≤ 16384) (hy : 0 ≤ ay ∧ ay + 4 ≤ 16384) (hz : 0 ≤ az ∧ az + 4 ≤ 16384) (hc : 0 ≤ c ∧ c ≤ 255) (w : World) :
    Calls Tryz.prog 47 #[.string (strOfNums (Tr.enc (Tr.can f 0 ⟨ax, ay, az⟩))), .agg #[.int .i64 ax, .int .i64 ay, .int .i64 az], .int .i64 (2), .agg #[.int .i64 px, .int .i64 py, .int .i64 pz], .int .i64 c] w fun e w' => e = .returned (.string (strOfNums (Tr.enc (Tr.can (Tr.upd f ⟨px, py, pz⟩ c) 0 ⟨ax, ay, az⟩)))) ∧ Below w.heap.size w w' := by
  have hb := in_bounds (m := 4) (by decide) hal hin
  have hcel := Bx.mk fun W => cells9_mk (cellsF f ⟨ax, ay, az⟩) (cellsF_len _ _) (cellsF_all hf _) W
  rw [← can_cells] at hcel
  have hix := fun W => index9_any ax ay az px py pz (by omega) (by omega) (by omega) W
  rw [idx_eq hal hin] at hix
  have Hix := Bx.mk hix
  have hk := Tr.idx_lt ⟨px, py, pz⟩
  have hl := cellsF_len f ⟨ax, ay, az⟩
  have hset := Bx.mk (set_zero (f := f) c hal hin)
  have hall := Bx.mk (show ((cellsF f ⟨ax, ay, az⟩).set (Tr.idx ⟨px, py, pz⟩) c).all Pal.cell = true from by
    rw [List.all_eq_true]
    intro x hx
    rcases List.mem_or_eq_of_mem_set hx with h | h
    · exact List.all_eq_true.1 (cellsF_all hf _) x h
    · rw [h, Pal.cell_eq]; simpa using hc)
  have hbr := Bx.mk fun (pa : Option Addr) (pc : Nat) W (h : Sl W .i64 pa ((cellsF f ⟨ax, ay, az⟩).set (Tr.idx ⟨px, py, pz⟩) c)) => ref9_brick pa pc _ W (by rw [List.length_set]; exact hl) hall.out h
  rw [hset.out] at hbr
  generalize strOfNums (Tr.enc (Tr.can f 0 ⟨ax, ay, az⟩)) = S at *
  generalize strOfNums (Tr.enc (Tr.can (Tr.upd f ⟨px, py, pz⟩ c) 0 ⟨ax, ay, az⟩)) = S2 at *
  generalize cellsF f ⟨ax, ay, az⟩ = xs at *
  generalize Tr.idx ⟨px, py, pz⟩ = k at *
  have Hl := Bx.mk hl
  clear hal hin hx hy hz hc hb hset hall hix hl
  go_enter Tryz.func47, Tryz.ntmps47
  go_wp2_with fail
  generalize hW : World.alloc (World.alloc w _) _ = W
  have hB : Below w.heap.size w W := by rw [← hW]; exact ((Below.refl _ _).alloc (Nat.le_refl _) _).alloc (by simp) _
  have ka : Bk W (w.heap.size) #[.int .i64 ax, .int .i64 ay, .int .i64 az] 23 := by rw [← hW]; exact blk_old (blk_new _ _ _ (by simp))
  have kp : Bk W (w.heap.size + 1) #[.int .i64 px, .int .i64 py, .int .i64 pz] 23 := by rw [← hW]; exact blk_new _ _ _ (by simp)
  have HI := Bx.mk (show Bk W (w.heap.size) #[.int .i64 ax, .int .i64 ay, .int .i64 az] 23 ∧ Bk W (w.heap.size + 1) #[.int .i64 px, .int .i64 py, .int .i64 pz] 23 ∧ Below w.heap.size w W from ⟨ka, kp, hB⟩)
  have HI0 : Bx (w.heap.size + 1 < W.heap.size) := ⟨kp.lt⟩
  clear hW ka kp hB
  refine (hcel.out _).mono ?_
  rintro _ w1 ⟨v, rfl, hown, hb1⟩
  replace HI := Bx.mk (show Bk w1 (w.heap.size) #[.int .i64 ax, .int .i64 ay, .int .i64 az] 23 ∧ Bk w1 (w.heap.size + 1) #[.int .i64 px, .int .i64 py, .int .i64 pz] 23 ∧ Below w.heap.size w w1 from ⟨HI.out.1.later hb1, HI.out.2.1.later hb1, HI.out.2.2.trans (hb1.mono HI.out.2.2.size)⟩)
  have Hown := Bx.mk (Own.base hown (B' := w.heap.size) (Nat.le_trans (by omega) (Nat.le_of_lt HI0.out)))
  obtain ⟨g, cap, rfl, -, -, -, -, -⟩ := hown.at (by rw [Hl.out]; decide)
  rw [Hl.out]
  clear hown hb1 hcel HI0
  have ca0 := HI.out.1.cell 0 rfl
  have ca1 := HI.out.1.cell 1 rfl
  have ca2 := HI.out.1.cell 2 rfl
  have cp0 := HI.out.2.1.cell 0 rfl
  have cp1 := HI.out.2.1.cell 1 rfl
  have cp2 := HI.out.2.1.cell 2 rfl
  go_wp2_with fail
  refine (Hix.out _).mono ?_
  rintro _ w2 ⟨rfl, hb2⟩
  replace Hown := Bx.mk (Hown.out.below hb2)
  replace HI := Bx.mk (show Bk w2 (w.heap.size) #[.int .i64 ax, .int .i64 ay, .int .i64 az] 23 ∧ Bk w2 (w.heap.size + 1) #[.int .i64 px, .int .i64 py, .int .i64 pz] 23 ∧ Below w.heap.size w w2 from ⟨HI.out.1.later hb2, HI.out.2.1.later hb2, HI.out.2.2.trans (hb2.mono HI.out.2.2.size)⟩)
  obtain ⟨g', cap', he, hge, hlt, hcell, hfrz, hst⟩ := Hown.out.at (by rw [Hl.out]; decide)
  rw [Hl.out] at he hst
  injection he with he1 he2 he3
  injection he1 with he1
  injection he1 with he1
  subst he1 he3
  obtain ⟨x, hx⟩ := at_lt Hl (show k < 64 from hk)
  have hck := hcell _ _ hx
  have hfk := hfrz k
  have b1 : (0 : Int) ≤ (k : Int) := by omega
  have b2 : (k : Int) < 64 := by omega
  have H2 := Bx.mk (hst k c)
  have Hge := Bx.mk hge
  clear hb2 hcell hfrz hst hx Hix ca0 ca1 ca2 cp0 cp1 cp2 hge
  go_wp2_with fail
  generalize hW3 : World.setCell w2 _ _ = w3
  have Hown3 : Bx (Own w3 w.heap.size 3 .i64 (.slice (some ⟨g, 0, none⟩) 64 cap) (xs.set k c)) := by rw [← hW3]; exact H2
  have HB3 : Bx (Below w.heap.size w w3) := by rw [← hW3]; exact ⟨HI.out.2.2.setCell Hge.out _⟩
  clear hW3 H2 HI hck hfk Hown
  refine (hbr.out _ cap _ Hown3.out.sl).mono ?_
  rintro _ w4 ⟨rfl, hb4⟩
  have HB4 := Bx.mk (HB3.out.trans (hb4.mono HB3.out.size))
  clear hb4 hbr Hown3
  go_wp2_with fail
  go_ret
  exact ⟨rfl, HB4.out⟩
set_option maxRecDepth 100000 in
set_option maxHeartbeats 4000000 in
theorem set9_succ (n : Nat) (hn : n ≤ 11) (f : Pt → Int) (hf : ∀ p, 0 ≤ f p ∧ f p ≤ 255) (ax ay az px py pz c : Int) (hal : Tr.Al (n + 1) ⟨ax, ay, az⟩) (hin : Tr.InC (n + 1) ⟨ax, ay, az⟩ ⟨px, py, pz⟩) (hx : 0 ≤ ax ∧ ax ≤ 16384) (hy : 0 ≤ ay ∧ ay ≤ 16384) (hz : 0 ≤ az ∧ az ≤ 16384) (hc : 0 ≤ c ∧ c ≤ 255)
    (hih : Bx (∀ (k : Nat), k < 8 → k = Tr.octN n ⟨px, py, pz⟩ → ∀ W, Calls Tryz.prog 47 #[.string (strOfNums (Tr.enc (Tr.can f n (Tr.cor ⟨ax, ay, az⟩ n k)))), .agg #[.int .i64 (ax + chX k (2 ^ (n + 2))), .int .i64 (ay + chY k (2 ^ (n + 2))), .int .i64 (az + chZ k (2 ^ (n + 2)))], .int .i64 ((n : Int) + 2), .agg #[.int .i64 px, .int .i64 py, .int .i64 pz], .int .i64 c] W fun e w' => e = .returned (.string (strOfNums (Tr.enc (Tr.can (Tr.upd f ⟨px, py, pz⟩ c) n (Tr.cor ⟨ax, ay, az⟩ n k))))) ∧ Below W.heap.size W w')) (w : World) :
    Calls Tryz.prog 47 #[.string (strOfNums (Tr.enc (Tr.can f (n + 1) ⟨ax, ay, az⟩))), .agg #[.int .i64 ax, .int .i64 ay, .int .i64 az], .int .i64 ((n : Int) + 3), .agg #[.int .i64 px, .int .i64 py, .int .i64 pz], .int .i64 c] w fun e w' => e = .returned (.string (strOfNums (Tr.enc (Tr.can (Tr.upd f ⟨px, py, pz⟩ c) (n + 1) ⟨ax, ay, az⟩)))) ∧ Below w.heap.size w w' := by
  have hf2 := upd_range hf hc ⟨px, py, pz⟩
  obtain ⟨K, hK⟩ : ∃ K : Fin 8 → Tr, K = fun i => Tr.can (Tr.upd f ⟨px, py, pz⟩ c) n (Tr.cor ⟨ax, ay, az⟩ n i.val) := ⟨_, rfl⟩
  obtain ⟨T0, hT0⟩ : ∃ T0 : Nat → ByteArray, T0 = fun k => strOfNums (Tr.enc (Tr.can f n (Tr.cor ⟨ax, ay, az⟩ n k))) := ⟨_, rfl⟩
  obtain ⟨TK, hTK⟩ : ∃ TK : Nat → ByteArray, TK = fun k => strOfNums (Tr.enc (Tr.can (Tr.upd f ⟨px, py, pz⟩ c) n (Tr.cor ⟨ax, ay, az⟩ n k))) := ⟨_, rfl⟩
  have hres : Tr.can (Tr.upd f ⟨px, py, pz⟩ c) (n + 1) ⟨ax, ay, az⟩ = Tr.mkInner (n + 3) K := by rw [hK]; rfl
  have hKw : ∀ i, Tr.WF (K i) := fun i => by rw [hK]; exact wf_can hf2 n _ (by omega)
  have hKs : (Tr.enc (.node (n + 3) K)).length ≤ 1000000000000000 := by
    have hk := fun i => (show (Tr.enc (K i)).length ≤ 100000000000000 by rw [hK]; exact can_size hf2 (by omega) _)
    rw [← Tr.pos_all (n + 3) K]
    have key : ∀ k, k ≤ 8 → Tr.pos K k ≤ 2 + k * 100000000000000 := by
      intro k
      induction k with
      | zero => intro _; rw [Tr.pos_zero]; omega
      | succ k ih => intro hk8; rw [Tr.pos_succ K (by omega)]; have h1 := ih (by omega); have h2 := hk ⟨k, by omega⟩; omega
    have := key 8 (Nat.le_refl _)
    omega
  have hinr := Bx.mk fun (a : Option Addr) (cap : Nat) W (h : Slv W a (strs (kidsE K))) => ref9_inner (n + 3) (by omega) K hKw hKs a cap W h
  rw [← hres, show ((n + 3 : Nat) : Int) = (n : Int) + 3 by omega] at hinr
  have hT := Bx.mk fun (k : Nat) (hk : k < 8) (he : ¬ k = Tr.octN n ⟨px, py, pz⟩) => (show T0 k = TK k from by
    rw [hT0, hTK]
    have : Tr.can f n (Tr.cor ⟨ax, ay, az⟩ n k) = Tr.can (Tr.upd f ⟨px, py, pz⟩ c) n (Tr.cor ⟨ax, ay, az⟩ n k) := Tr.can_congr n _ (Tr.al_cor hal k) fun q hq => by
      unfold Tr.upd
      rw [if_neg]
      intro e
      rw [e] at hq
      exact he (congrArg Fin.val (Tr.inC_other (i := ⟨k, hk⟩) hal hq).1)
    simp only [this])
  have hKat := Bx.mk fun k (hk : k < 8) => (show strs ((kidsE K).take (k + 1)) = strs ((kidsE K).take k) ++ [.string (TK k)] by
    rw [kidsE_take K hk, strs_snoc, hTK, hK])
  have hoc := Bx.mk fun W => octant9_any n hn ax ay az px py pz hal hin hx hy hz W
  have hcor := Bx.mk fun W (k : Nat) (hk : k < 8) => corner9_any (n + 2) (by omega) ax ay az k hk (by omega) (by omega) (by omega) W
  rw [show ((n + 2 : Nat) : Int) + 1 = (n : Int) + 3 by omega] at hcor
  have hw0 := wf_can hf (n + 1) ⟨ax, ay, az⟩ (by omega)
  have hs0 := can_size hf (show n + 1 ≤ 12 by omega) ⟨ax, ay, az⟩
  have hsub : IntKind.i64.wrap ((n : Int) + 3 - 1) = (n : Int) + 2 := by rw [show (n : Int) + 3 - 1 = (n : Int) + 2 by omega]; exact IntWalk.i64_in _ (by omega)
  have h2 : ((n : Int) + 3 == 2) = false := by simp; omega
  have hcan : Tr.can f (n + 1) ⟨ax, ay, az⟩ = Tr.mkInner (n + 3) (fun i => Tr.can f n (Tr.cor ⟨ax, ay, az⟩ n i.val)) := rfl
  have ho8 := Tr.octN_lt n ⟨px, py, pz⟩
  have hih2 := hih
  clear hih
  have hih := Bx.mk fun (k : Nat) (hk : k < 8) (he : k = Tr.octN n ⟨px, py, pz⟩) W => (show Calls Tryz.prog 47 #[.string (T0 k), .agg #[.int .i64 (ax + chX k (2 ^ (n + 2))), .int .i64 (ay + chY k (2 ^ (n + 2))), .int .i64 (az + chZ k (2 ^ (n + 2)))], .int .i64 ((n : Int) + 2), .agg #[.int .i64 px, .int .i64 py, .int .i64 pz], .int .i64 c] W fun e w' => e = .returned (.string (TK k)) ∧ Below W.heap.size W w' from by rw [hT0, hTK]; exact hih2.out k hk he W)
  clear hih2
  generalize Tr.octN n ⟨px, py, pz⟩ = o at *
  generalize strOfNums (Tr.enc (Tr.can (Tr.upd f ⟨px, py, pz⟩ c) (n + 1) ⟨ax, ay, az⟩)) = S2 at *
  by_cases hnode : ∃ d ch, Tr.can f (n + 1) ⟨ax, ay, az⟩ = .node d ch
  · obtain ⟨d, ch, hd⟩ := hnode
    have hchi : ∀ i : Fin 8, ch i = Tr.can f n (Tr.cor ⟨ax, ay, az⟩ n i.val) := fun i => by
      have h1 := Tr.mkInner_kid (n + 3) (fun i : Fin 8 => Tr.can f n (Tr.cor ⟨ax, ay, az⟩ n i.val)) i
      rw [← hcan, hd] at h1
      exact h1
    rw [hd] at hw0 hs0
    have hch := Bx.mk fun W => ref9_children d ch hw0 (by omega) W
    have hkat := Bx.mk fun k (hk : k < 8) => (show (strs (kidsE ch))[k]? = some (.string (T0 k)) by rw [strs_at (kidsE_at ch hk), hchi, hT0])
    have hi0 := fun W : World => idx_str (P := Tryz.prog) 9 Tryz.underlying9 (Tr.enc_byt _ hw0) (k := 0) (x := 110) (by simp [Tr.enc]) W
    rw [show ((0 : Nat) : Int) = 0 from rfl] at hi0
    rw [hd]
    generalize strOfNums (Tr.enc (.node d ch)) = S at *
    clear hx hy hz hal hin hf hf2 hK hT0 hTK hres hKw hKs hcan hchi hd hw0 hs0 hc
    go_enter Tryz.func47, Tryz.ntmps47
    go_wp2_with fail
    generalize hW : World.alloc (World.alloc w _) _ = W
    have hB : Below w.heap.size w W := by rw [← hW]; exact ((Below.refl _ _).alloc (Nat.le_refl _) _).alloc (by simp) _
    have ka : Bk W (w.heap.size) #[.int .i64 ax, .int .i64 ay, .int .i64 az] 23 := by rw [← hW]; exact blk_old (blk_new _ _ _ (by simp))
    have kp : Bk W (w.heap.size + 1) #[.int .i64 px, .int .i64 py, .int .i64 pz] 23 := by rw [← hW]; exact blk_new _ _ _ (by simp)
    have HI := Bx.mk (show Bk W (w.heap.size) #[.int .i64 ax, .int .i64 ay, .int .i64 az] 23 ∧ Bk W (w.heap.size + 1) #[.int .i64 px, .int .i64 py, .int .i64 pz] 23 ∧ Below w.heap.size w W from ⟨ka, kp, hB⟩)
    have HI0 : Bx (w.heap.size + 1 < W.heap.size) := ⟨kp.lt⟩
    clear hW ka kp hB
    go_loopw [12, 13] (fun v12 v13 wr => ∃ k : Nat, k ≤ 8 ∧ v13 = .int .i64 k ∧ Bx (Ownv wr (w.heap.size + 1 + 1) 9 v12 (strs ((kidsE K).take k))) ∧ Bx (Bk wr (w.heap.size) #[.int .i64 ax, .int .i64 ay, .int .i64 az] 23 ∧ Bk wr (w.heap.size + 1) #[.int .i64 px, .int .i64 py, .int .i64 pz] 23 ∧ Below w.heap.size w wr)) (fun _ i _ => 8 - (intOf i).toNat)
    case atStart => exact ⟨0, Nat.zero_le _, rfl, ⟨Ownv.nil _ _ _⟩, HI⟩
    case round =>
      clear HI
      obtain ⟨k, hk, rfl, hown, HI⟩ := hrel
      by_cases hlt : k < 8
      · have t0 : decide ((k : Int) < 8) = true := by simp; omega
        have b1 : (0 : Int) ≤ (k : Int) := by omega
        have b2 : (k : Int) < 8 := by omega
        have hnext := Bx.mk (hKat.out k hlt)
        have Htl := Bx.mk (show (strs ((kidsE K).take k)).length ≤ 1000000000 by rw [strs_length, List.length_take]; omega)
        go_wp2_with fail
        refine (hch.out _).mono ?_
        rintro _ w1 ⟨g, pc, rfl, hkids, -, hb1⟩
        obtain ⟨b, off, he, hck⟩ := hkids k _ (hkat.out k hlt)
        simp only [Option.some.injEq, Addr.mk.injEq, and_true] at he
        obtain ⟨rfl, rfl⟩ := he
        rw [Nat.zero_add] at hck
        have HI1 := Bx.mk (show Bk w1 (w.heap.size) #[.int .i64 ax, .int .i64 ay, .int .i64 az] 23 ∧ Bk w1 (w.heap.size + 1) #[.int .i64 px, .int .i64 py, .int .i64 pz] 23 ∧ Below w.heap.size w w1 from ⟨HI.out.1.later hb1, HI.out.2.1.later hb1, HI.out.2.2.trans (hb1.mono HI.out.2.2.size)⟩)
        have Hown1 := Bx.mk (hown.out.below hb1)
        have hle := hb1.size
        clear hb1 hkids HI hown
        have ca0 := HI1.out.1.cell 0 rfl
        have ca1 := HI1.out.1.cell 1 rfl
        have ca2 := HI1.out.1.cell 2 rfl
        have cp0 := HI1.out.2.1.cell 0 rfl
        have cp1 := HI1.out.2.1.cell 1 rfl
        have cp2 := HI1.out.2.1.cell 2 rfl
        go_wp2_with fail
        refine (hoc.out _).mono ?_
        rintro _ w2 ⟨rfl, hb2⟩
        have HI2 := Bx.mk (show Bk w2 (w.heap.size) #[.int .i64 ax, .int .i64 ay, .int .i64 az] 23 ∧ Bk w2 (w.heap.size + 1) #[.int .i64 px, .int .i64 py, .int .i64 pz] 23 ∧ Below w.heap.size w w2 from ⟨HI1.out.1.later hb2, HI1.out.2.1.later hb2, HI1.out.2.2.trans (hb2.mono HI1.out.2.2.size)⟩)
        have Hown2 := Bx.mk (Hown1.out.below hb2)
        clear hb2 ca0 ca1 ca2 cp0 cp1 cp2 HI1 Hown1 hck
        by_cases he : k = o
        · have h1 : ((k : Int) == (o : Int)) = true := by rw [he]; simp
          have HX := Bx.mk (show Tr.can f n (Tr.cor ⟨ax, ay, az⟩ n k) = Tr.can f n (Tr.cor ⟨ax, ay, az⟩ n k) ∧ k = o from ⟨rfl, he⟩)
          have hstep := fun W => hih.out k hlt he W
          have hstep := Bx.mk hstep
          clear he
          have ca0 : ∀ dk osk, (grow (redrawn w2 dk) osk).cell? ⟨w.heap.size, 0, none⟩ = some (.int .i64 ax) := cell_regrown (HI2.out.1.cell 0 rfl)
          have ca1 : ∀ dk osk, (grow (redrawn w2 dk) osk).cell? ⟨w.heap.size, 1, none⟩ = some (.int .i64 ay) := cell_regrown (HI2.out.1.cell 1 rfl)
          have ca2 : ∀ dk osk, (grow (redrawn w2 dk) osk).cell? ⟨w.heap.size, 2, none⟩ = some (.int .i64 az) := cell_regrown (HI2.out.1.cell 2 rfl)
          have cp0 : ∀ dk osk, (grow (redrawn w2 dk) osk).cell? ⟨w.heap.size + 1, 0, none⟩ = some (.int .i64 px) := cell_regrown (HI2.out.2.1.cell 0 rfl)
          have cp1 : ∀ dk osk, (grow (redrawn w2 dk) osk).cell? ⟨w.heap.size + 1, 1, none⟩ = some (.int .i64 py) := cell_regrown (HI2.out.2.1.cell 1 rfl)
          have cp2 : ∀ dk osk, (grow (redrawn w2 dk) osk).cell? ⟨w.heap.size + 1, 2, none⟩ = some (.int .i64 pz) := cell_regrown (HI2.out.2.1.cell 2 rfl)
          have q0 := Bx.mk fun dk osk => Calls.regrown_of (hcor.out (grow (redrawn w2 dk) osk) k hlt)
          have q1 := Bx.mk fun dk osk => Calls.regrown_of (hstep.out (grow (redrawn w2 dk) osk))
          go_wp2_with fail
          refine wp_region_quiet_below (by kernel_rfl) (by kernel_rfl) ?_
          repeat (first | go_big_quiet_step ((first | with_reducible exact q0.out _ _ | with_reducible exact q1.out _ _)) | quiet_step (first | with_reducible exact q0.out _ _ | with_reducible exact q1.out _ _))
          refine wpQuiet_nil ?_
          rintro _ ⟨⟨dq, osq⟩, rfl⟩
          have hb0 := below_regrown w2 dq osq
          have HI3 := Bx.mk (show Bk (grow (redrawn w2 dq) osq) (w.heap.size) #[.int .i64 ax, .int .i64 ay, .int .i64 az] 23 ∧ Bk (grow (redrawn w2 dq) osq) (w.heap.size + 1) #[.int .i64 px, .int .i64 py, .int .i64 pz] 23 ∧ Below w.heap.size w (grow (redrawn w2 dq) osq) from ⟨HI2.out.1.later hb0, HI2.out.2.1.later hb0, HI2.out.2.2.trans (hb0.mono HI2.out.2.2.size)⟩)
          have Hown3 := Bx.mk (Hown2.out.below hb0)
          clear q0 q1 ca0 ca1 ca2 cp0 cp1 cp2 hb0 HI2 Hown2 hstep
          generalize grow (redrawn w2 dq) osq = w3 at *
          have hle3 : w.heap.size + 1 + 1 ≤ w3.heap.size := HI3.out.2.1.lt
          go_wp2_with (first
            | (at_builtin
               refine wpList_append_val rfl _ _ 39 rfl 9 (.string ByteArray.empty) 16 (by omega) Tryz.underlying39 (by kernel_rfl) rfl (w.heap.size + 1 + 1) _ (strs ((kidsE K).take k)) rfl (Hown3.out.alloc _) (.string (TK k)) rfl ⟨w3.heap.size, 0, none⟩ 1 rfl (cell_new _ _ _) Htl.out (le_alloc hle3 _) ?_
               intro v9 w9 hown9 hg9 _))
          have H9 := Bx.mk hown9
          rw [← hnext.out] at H9
          have hb9 := (HI3.out.2.2.alloc HI3.out.2.2.size (.cells #[.string (TK k)] 9)).grown hg9 (le_alloc HI3.out.2.2.size _) (fun g hg => by have := (Hown3.out.lt g hg).1; omega)
          have HI9 := Bx.mk (show Bk w9 (w.heap.size) #[.int .i64 ax, .int .i64 ay, .int .i64 az] 23 ∧ Bk w9 (w.heap.size + 1) #[.int .i64 px, .int .i64 py, .int .i64 pz] 23 ∧ Below w.heap.size w w9 from ⟨Bk.grownO (blk_old HI3.out.1) hg9 (fun e => by have := (Hown3.out.lt _ e).1; omega), Bk.grownO (blk_old HI3.out.2.1) hg9 (fun e => by have := (Hown3.out.lt _ e).1; omega), hb9⟩)
          clear hown9 hg9 hb9
          go_wp2_with fail
          go_roundw
          case rel => exact ⟨k + 1, by omega, by go_num, H9, HI9⟩
          case measure => simp [intOf]; omega
        · have h1 : ((k : Int) == (o : Int)) = false := by simp; omega
          have hTT := hT.out k hlt he
          have HTT := Bx.mk hTT
          clear hTT
          have HI3 := HI2
          have Hown3 := Hown2
          have hle3 : w.heap.size + 1 + 1 ≤ w2.heap.size := HI3.out.2.1.lt
          clear he HI2 Hown2
          go_wp2_with (first
            | (at_builtin
               refine wpList_append_val rfl _ _ 39 rfl 9 (.string ByteArray.empty) 16 (by omega) Tryz.underlying39 (by kernel_rfl) rfl (w.heap.size + 1 + 1) _ (strs ((kidsE K).take k)) rfl (Hown3.out.alloc _) (.string (T0 k)) rfl ⟨w2.heap.size, 0, none⟩ 1 rfl (cell_new _ _ _) Htl.out (le_alloc hle3 _) ?_
               intro v9 w9 hown9 hg9 _))
          rw [HTT.out] at hown9 hg9
          have H9 := Bx.mk hown9
          rw [← hnext.out] at H9
          have hb9 := (HI3.out.2.2.alloc HI3.out.2.2.size (.cells #[.string (TK k)] 9)).grown hg9 (le_alloc HI3.out.2.2.size _) (fun g hg => by have := (Hown3.out.lt g hg).1; omega)
          have HI9 := Bx.mk (show Bk w9 (w.heap.size) #[.int .i64 ax, .int .i64 ay, .int .i64 az] 23 ∧ Bk w9 (w.heap.size + 1) #[.int .i64 px, .int .i64 py, .int .i64 pz] 23 ∧ Below w.heap.size w w9 from ⟨Bk.grownO (blk_old HI3.out.1) hg9 (fun e => by have := (Hown3.out.lt _ e).1; omega), Bk.grownO (blk_old HI3.out.2.1) hg9 (fun e => by have := (Hown3.out.lt _ e).1; omega), hb9⟩)
          clear hown9 hg9 hb9
          go_wp2_with fail
          go_roundw
          case rel => exact ⟨k + 1, by omega, by go_num, H9, HI9⟩
          case measure => simp [intOf]; omega
      · obtain rfl : k = 8 := by omega
        have t0 : decide (((8 : Nat) : Int) < 8) = false := by decide
        have hown2 := hown.out
        rw [List.take_of_length_le (by rw [kidsE_len]; exact Nat.le_refl _)] at hown2
        obtain ⟨pa, pc, rfl, hsl⟩ := hown2.form
        have hl8 : (strs (kidsE K)).length = 8 := by rw [strs_length, kidsE_len]
        rw [hl8]
        have Hsl := Bx.mk hsl
        clear hsl hown2 hown hl8
        go_wp2_with fail
        refine (hinr.out pa pc _ Hsl.out).mono ?_
        rintro _ w9 ⟨rfl, hb9⟩
        have HB9 := Bx.mk (HI.out.2.2.trans (hb9.mono HI.out.2.2.size))
        clear hb9
        go_wp2_with fail
        go_ret
        exact ⟨rfl, HB9.out⟩
  · obtain ⟨u, hu⟩ : ∃ u, Tr.can f (n + 1) ⟨ax, ay, az⟩ = .uni u := by
      rw [hcan]
      unfold Tr.mkInner
      split
      · rename_i hcc
        exact hcc.1
      · rename_i hcc
        exact absurd ⟨n + 3, fun i : Fin 8 => Tr.can f n (Tr.cor ⟨ax, ay, az⟩ n i.val), by rw [hcan]; unfold Tr.mkInner; rw [if_neg hcc]⟩ hnode
    have hTu := Bx.mk fun k (hk : k < 8) => (show T0 k = strOfNums (Tr.enc (.uni u)) by
      have h1 := Tr.mkInner_kid (n + 3) (fun i : Fin 8 => Tr.can f n (Tr.cor ⟨ax, ay, az⟩ n i.val)) ⟨k, hk⟩
      rw [← hcan, hu] at h1
      rw [hT0]
      show strOfNums (Tr.enc (Tr.can f n (Tr.cor ⟨ax, ay, az⟩ n k))) = _
      rw [← h1]; rfl)
    rw [hu] at hw0
    have hi0 := fun W : World => idx_str (P := Tryz.prog) 9 Tryz.underlying9 (Tr.enc_byt _ hw0) (k := 0) (x := 117) (by simp [Tr.enc]) W
    rw [show ((0 : Nat) : Int) = 0 from rfl] at hi0
    rw [hu]
    generalize strOfNums (Tr.enc (.uni u)) = S at *
    clear hx hy hz hal hin hf hf2 hK hT0 hTK hres hKw hKs hcan hu hw0 hs0 hc hnode
    go_enter Tryz.func47, Tryz.ntmps47
    go_wp2_with fail
    generalize hW : World.alloc (World.alloc w _) _ = W
    have hB : Below w.heap.size w W := by rw [← hW]; exact ((Below.refl _ _).alloc (Nat.le_refl _) _).alloc (by simp) _
    have ka : Bk W (w.heap.size) #[.int .i64 ax, .int .i64 ay, .int .i64 az] 23 := by rw [← hW]; exact blk_old (blk_new _ _ _ (by simp))
    have kp : Bk W (w.heap.size + 1) #[.int .i64 px, .int .i64 py, .int .i64 pz] 23 := by rw [← hW]; exact blk_new _ _ _ (by simp)
    have HI := Bx.mk (show Bk W (w.heap.size) #[.int .i64 ax, .int .i64 ay, .int .i64 az] 23 ∧ Bk W (w.heap.size + 1) #[.int .i64 px, .int .i64 py, .int .i64 pz] 23 ∧ Below w.heap.size w W from ⟨ka, kp, hB⟩)
    have HI0 : Bx (w.heap.size + 1 < W.heap.size) := ⟨kp.lt⟩
    clear hW ka kp hB
    go_loopw [12, 13] (fun v12 v13 wr => ∃ k : Nat, k ≤ 8 ∧ v13 = .int .i64 k ∧ Bx (Ownv wr (w.heap.size + 1 + 1) 9 v12 (strs ((kidsE K).take k))) ∧ Bx (Bk wr (w.heap.size) #[.int .i64 ax, .int .i64 ay, .int .i64 az] 23 ∧ Bk wr (w.heap.size + 1) #[.int .i64 px, .int .i64 py, .int .i64 pz] 23 ∧ Below w.heap.size w wr)) (fun _ i _ => 8 - (intOf i).toNat)
    case atStart => exact ⟨0, Nat.zero_le _, rfl, ⟨Ownv.nil _ _ _⟩, HI⟩
    case round =>
      clear HI
      obtain ⟨k, hk, rfl, hown, HI⟩ := hrel
      by_cases hlt : k < 8
      · have t0 : decide ((k : Int) < 8) = true := by simp; omega
        have b1 : (0 : Int) ≤ (k : Int) := by omega
        have b2 : (k : Int) < 8 := by omega
        have hnext := Bx.mk (hKat.out k hlt)
        have Htl := Bx.mk (show (strs ((kidsE K).take k)).length ≤ 1000000000 by rw [strs_length, List.length_take]; omega)
        have hSk := Bx.mk (hTu.out k hlt)
        have HI1 := HI
        have Hown1 := hown
        obtain ⟨w1, hw1⟩ : ∃ w1, w1 = wr := ⟨_, rfl⟩
        rw [← hw1] at HI1 Hown1 ⊢
        clear hw1 HI hown
        have ca0 := HI1.out.1.cell 0 rfl
        have ca1 := HI1.out.1.cell 1 rfl
        have ca2 := HI1.out.1.cell 2 rfl
        have cp0 := HI1.out.2.1.cell 0 rfl
        have cp1 := HI1.out.2.1.cell 1 rfl
        have cp2 := HI1.out.2.1.cell 2 rfl
        go_wp2_with fail
        refine (hoc.out _).mono ?_
        rintro _ w2 ⟨rfl, hb2⟩
        have HI2 := Bx.mk (show Bk w2 (w.heap.size) #[.int .i64 ax, .int .i64 ay, .int .i64 az] 23 ∧ Bk w2 (w.heap.size + 1) #[.int .i64 px, .int .i64 py, .int .i64 pz] 23 ∧ Below w.heap.size w w2 from ⟨HI1.out.1.later hb2, HI1.out.2.1.later hb2, HI1.out.2.2.trans (hb2.mono HI1.out.2.2.size)⟩)
        have Hown2 := Bx.mk (Hown1.out.below hb2)
        clear hb2 ca0 ca1 ca2 cp0 cp1 cp2 HI1 Hown1 
        by_cases he : k = o
        · have h1 : ((k : Int) == (o : Int)) = true := by rw [he]; simp
          have HX := Bx.mk (show Tr.can f n (Tr.cor ⟨ax, ay, az⟩ n k) = Tr.can f n (Tr.cor ⟨ax, ay, az⟩ n k) ∧ k = o from ⟨rfl, he⟩)
          have hstep := fun W => hih.out k hlt he W
          rw [hSk.out] at hstep
          have hstep := Bx.mk hstep
          clear he
          have ca0 : ∀ dk osk, (grow (redrawn w2 dk) osk).cell? ⟨w.heap.size, 0, none⟩ = some (.int .i64 ax) := cell_regrown (HI2.out.1.cell 0 rfl)
          have ca1 : ∀ dk osk, (grow (redrawn w2 dk) osk).cell? ⟨w.heap.size, 1, none⟩ = some (.int .i64 ay) := cell_regrown (HI2.out.1.cell 1 rfl)
          have ca2 : ∀ dk osk, (grow (redrawn w2 dk) osk).cell? ⟨w.heap.size, 2, none⟩ = some (.int .i64 az) := cell_regrown (HI2.out.1.cell 2 rfl)
          have cp0 : ∀ dk osk, (grow (redrawn w2 dk) osk).cell? ⟨w.heap.size + 1, 0, none⟩ = some (.int .i64 px) := cell_regrown (HI2.out.2.1.cell 0 rfl)
          have cp1 : ∀ dk osk, (grow (redrawn w2 dk) osk).cell? ⟨w.heap.size + 1, 1, none⟩ = some (.int .i64 py) := cell_regrown (HI2.out.2.1.cell 1 rfl)
          have cp2 : ∀ dk osk, (grow (redrawn w2 dk) osk).cell? ⟨w.heap.size + 1, 2, none⟩ = some (.int .i64 pz) := cell_regrown (HI2.out.2.1.cell 2 rfl)
          have q0 := Bx.mk fun dk osk => Calls.regrown_of (hcor.out (grow (redrawn w2 dk) osk) k hlt)
          have q1 := Bx.mk fun dk osk => Calls.regrown_of (hstep.out (grow (redrawn w2 dk) osk))
          go_wp2_with fail
          refine wp_region_quiet_below (by kernel_rfl) (by kernel_rfl) ?_
          repeat (first | go_big_quiet_step ((first | with_reducible exact q0.out _ _ | with_reducible exact q1.out _ _)) | quiet_step (first | with_reducible exact q0.out _ _ | with_reducible exact q1.out _ _))
          refine wpQuiet_nil ?_
          rintro _ ⟨⟨dq, osq⟩, rfl⟩
          have hb0 := below_regrown w2 dq osq
          have HI3 := Bx.mk (show Bk (grow (redrawn w2 dq) osq) (w.heap.size) #[.int .i64 ax, .int .i64 ay, .int .i64 az] 23 ∧ Bk (grow (redrawn w2 dq) osq) (w.heap.size + 1) #[.int .i64 px, .int .i64 py, .int .i64 pz] 23 ∧ Below w.heap.size w (grow (redrawn w2 dq) osq) from ⟨HI2.out.1.later hb0, HI2.out.2.1.later hb0, HI2.out.2.2.trans (hb0.mono HI2.out.2.2.size)⟩)
          have Hown3 := Bx.mk (Hown2.out.below hb0)
          clear q0 q1 ca0 ca1 ca2 cp0 cp1 cp2 hb0 HI2 Hown2 hstep
          generalize grow (redrawn w2 dq) osq = w3 at *
          have hle3 : w.heap.size + 1 + 1 ≤ w3.heap.size := HI3.out.2.1.lt
          go_wp2_with (first
            | (at_builtin
               refine wpList_append_val rfl _ _ 39 rfl 9 (.string ByteArray.empty) 16 (by omega) Tryz.underlying39 (by kernel_rfl) rfl (w.heap.size + 1 + 1) _ (strs ((kidsE K).take k)) rfl (Hown3.out.alloc _) (.string (TK k)) rfl ⟨w3.heap.size, 0, none⟩ 1 rfl (cell_new _ _ _) Htl.out (le_alloc hle3 _) ?_
               intro v9 w9 hown9 hg9 _))
          have H9 := Bx.mk hown9
          rw [← hnext.out] at H9
          have hb9 := (HI3.out.2.2.alloc HI3.out.2.2.size (.cells #[.string (TK k)] 9)).grown hg9 (le_alloc HI3.out.2.2.size _) (fun g hg => by have := (Hown3.out.lt g hg).1; omega)
          have HI9 := Bx.mk (show Bk w9 (w.heap.size) #[.int .i64 ax, .int .i64 ay, .int .i64 az] 23 ∧ Bk w9 (w.heap.size + 1) #[.int .i64 px, .int .i64 py, .int .i64 pz] 23 ∧ Below w.heap.size w w9 from ⟨Bk.grownO (blk_old HI3.out.1) hg9 (fun e => by have := (Hown3.out.lt _ e).1; omega), Bk.grownO (blk_old HI3.out.2.1) hg9 (fun e => by have := (Hown3.out.lt _ e).1; omega), hb9⟩)
          clear hown9 hg9 hb9
          go_wp2_with fail
          go_roundw
          case rel => exact ⟨k + 1, by omega, by go_num, H9, HI9⟩
          case measure => simp [intOf]; omega
        · have h1 : ((k : Int) == (o : Int)) = false := by simp; omega
          have hTT := hT.out k hlt he
          rw [hSk.out] at hTT
          have HTT := Bx.mk hTT
          clear hTT
          have HI3 := HI2
          have Hown3 := Hown2
          have hle3 : w.heap.size + 1 + 1 ≤ w2.heap.size := HI3.out.2.1.lt
          clear he HI2 Hown2
          go_wp2_with (first
            | (at_builtin
               refine wpList_append_val rfl _ _ 39 rfl 9 (.string ByteArray.empty) 16 (by omega) Tryz.underlying39 (by kernel_rfl) rfl (w.heap.size + 1 + 1) _ (strs ((kidsE K).take k)) rfl (Hown3.out.alloc _) (.string (S)) rfl ⟨w2.heap.size, 0, none⟩ 1 rfl (cell_new _ _ _) Htl.out (le_alloc hle3 _) ?_
               intro v9 w9 hown9 hg9 _))
          rw [HTT.out] at hown9 hg9
          have H9 := Bx.mk hown9
          rw [← hnext.out] at H9
          have hb9 := (HI3.out.2.2.alloc HI3.out.2.2.size (.cells #[.string (TK k)] 9)).grown hg9 (le_alloc HI3.out.2.2.size _) (fun g hg => by have := (Hown3.out.lt g hg).1; omega)
          have HI9 := Bx.mk (show Bk w9 (w.heap.size) #[.int .i64 ax, .int .i64 ay, .int .i64 az] 23 ∧ Bk w9 (w.heap.size + 1) #[.int .i64 px, .int .i64 py, .int .i64 pz] 23 ∧ Below w.heap.size w w9 from ⟨Bk.grownO (blk_old HI3.out.1) hg9 (fun e => by have := (Hown3.out.lt _ e).1; omega), Bk.grownO (blk_old HI3.out.2.1) hg9 (fun e => by have := (Hown3.out.lt _ e).1; omega), hb9⟩)
          clear hown9 hg9 hb9
          go_wp2_with fail
          go_roundw
          case rel => exact ⟨k + 1, by omega, by go_num, H9, HI9⟩
          case measure => simp [intOf]; omega
      · obtain rfl : k = 8 := by omega
        have t0 : decide (((8 : Nat) : Int) < 8) = false := by decide
        have hown2 := hown.out
        rw [List.take_of_length_le (by rw [kidsE_len]; exact Nat.le_refl _)] at hown2
        obtain ⟨pa, pc, rfl, hsl⟩ := hown2.form
        have hl8 : (strs (kidsE K)).length = 8 := by rw [strs_length, kidsE_len]
        rw [hl8]
        have Hsl := Bx.mk hsl
        clear hsl hown2 hown hl8
        go_wp2_with fail
        refine (hinr.out pa pc _ Hsl.out).mono ?_
        rintro _ w9 ⟨rfl, hb9⟩
        have HB9 := Bx.mk (HI.out.2.2.trans (hb9.mono HI.out.2.2.size))
        clear hb9
        go_wp2_with fail
        go_ret
        exact ⟨rfl, HB9.out⟩
end Go.Proofs.YtabclecmehdeoaaGreat
end
section
/- voxelref09.set, Set, whole. -/
namespace Go.Proofs.YtabclecmehdeoaaGreat
open Go.RowKit Go.Sort Go.Maps
open Oct

theorem set9_any (f : Pt → Int) (hf : ∀ p, 0 ≤ f p ∧ f p ≤ 255) (px py pz c : Int) (hc : 0 ≤ c ∧ c ≤ 255) : ∀ (n : Nat), n ≤ 12 → ∀ (ax ay az : Int), Tr.Al n ⟨ax, ay, az⟩ → Tr.InC n ⟨ax, ay, az⟩ ⟨px, py, pz⟩ → (0 ≤ ax ∧ ax + 2 ^ (n + 2) ≤ 16384) → (0 ≤ ay ∧ ay + 2 ^ (n + 2) ≤ 16384) → (0 ≤ az ∧ az + 2 ^ (n + 2) ≤ 16384) → ∀ (w : World),
    Calls Tryz.prog 47 #[.string (strOfNums (Tr.enc (Tr.can f n ⟨ax, ay, az⟩))), .agg #[.int .i64 ax, .int .i64 ay, .int .i64 az], .int .i64 ((n : Int) + 2), .agg #[.int .i64 px, .int .i64 py, .int .i64 pz], .int .i64 c] w fun e w' => e = .returned (.string (strOfNums (Tr.enc (Tr.can (Tr.upd f ⟨px, py, pz⟩ c) n ⟨ax, ay, az⟩)))) ∧ Below w.heap.size w w' := by
  intro n
  induction n with
  | zero =>
    intro _ ax ay az hal hin hx hy hz w
    exact set9_zero f hf ax ay az px py pz c hal hin hx hy hz hc w
  | succ n ih =>
    intro hn ax ay az hal hin hx hy hz w
    have hp := pow_le (show n + 2 ≤ 14 by omega)
    have hps := Tr.pow_succ2 n
    have h3 : (((n + 1 : Nat) : Int) + 2) = (n : Int) + 3 := by omega
    rw [h3]
    refine set9_succ n (by omega) f hf ax ay az px py pz c hal hin (by omega) (by omega) (by omega) hc ⟨fun k hk he W => ?_⟩ w
    have hb := ch_bd hk (show (0 : Int) ≤ 2 ^ (n + 2) by omega)
    have hco := cor_at ax ay az n k
    have h1 := Tr.al_cor hal k
    have h2 : Tr.InC n (Tr.cor ⟨ax, ay, az⟩ n k) ⟨px, py, pz⟩ := by rw [he]; exact Tr.inC_step hal hin
    rw [hco] at h1 h2 ⊢
    exact ih (by omega) _ _ _ h1 h2 (by omega) (by omega) (by omega) W
theorem cube9_zero (L : Nat) (hL : L ≤ 14) (w : World) :
    Calls Tryz.prog 46 #[.agg #[.int .i64 0, .int .i64 0, .int .i64 0], .int .i64 (L : Int)] w fun e w' => e = .returned (.agg #[.int .i64 0, .int .i64 0, .int .i64 0, .int .i64 (2 ^ L), .int .i64 (2 ^ L), .int .i64 (2 ^ L)]) ∧ Below w.heap.size w w' := by
  have h := cube9_any 0 0 0 L hL (by omega) (by omega) (by omega) w
  simpa only [Int.zero_add] using h
set_option maxRecDepth 100000 in
set_option maxHeartbeats 1000000 in
theorem Set9_yes (n : Nat) (hn : n ≤ 12) (f : Pt → Int) (hf : ∀ p, 0 ≤ f p ∧ f p ≤ 255) (px py pz c : Int) (hok : inB ⟨px, py, pz⟩ (cubeB (2 ^ (n + 2))) = true ∧ 0 ≤ c ∧ c ≤ 255) (w : World) :
    Calls Tryz.prog 12 #[.string (strOfNums (Tr.enc (trF n f))), .int .i64 ((n : Int) + 2), .agg #[.int .i64 px, .int .i64 py, .int .i64 pz], .int .i64 c] w fun e w' => e = .returned (.tuple #[.string (strOfNums (Tr.enc (trF n (Tr.upd f ⟨px, py, pz⟩ c)))), .int .i64 0]) ∧ Below w.heap.size w w' := by
  have hp := pow_le (show n + 2 ≤ 14 by omega)
  have hcub := fun W => cube9_zero (n + 2) (by omega) W
  have hrin := fun W => ref_in px py pz 0 0 0 (2 ^ (n + 2)) (2 ^ (n + 2)) (2 ^ (n + 2)) W
  rw [show ((n + 2 : Nat) : Int) = (n : Int) + 2 by omega] at hcub
  have hset := Bx.mk fun W => set9_any f hf px py pz c hok.2 n hn 0 0 0 (al_zero n) (inC_of_in hok.1) (by omega) (by omega) (by omega) W
  rw [show inB ⟨px, py, pz⟩ ⟨⟨0, 0, 0⟩, ⟨2 ^ (n + 2), 2 ^ (n + 2), 2 ^ (n + 2)⟩⟩ = true from hok.1] at hrin
  have hcub := Bx.mk hcub
  have hrin := Bx.mk hrin
  have t1 : decide (c < 0) = false := by simp; omega
  have t2 : decide (255 < c) = false := by simp; omega
  clear hok hp
  unfold trF
  generalize strOfNums (Tr.enc (Tr.can f n ⟨0, 0, 0⟩)) = S at *
  generalize strOfNums (Tr.enc (Tr.can (Tr.upd f ⟨px, py, pz⟩ c) n ⟨0, 0, 0⟩)) = S2 at *
  generalize (2 : Int) ^ (n + 2) = m at *
  go_enter Tryz.func12, Tryz.ntmps12
  go_wp2_with fail
  generalize hW : World.alloc w _ = W
  have hB : Below w.heap.size w W := by rw [← hW]; exact (Below.refl _ _).alloc (Nat.le_refl _) _
  have kp : Bk W (w.heap.size) #[.int .i64 px, .int .i64 py, .int .i64 pz] 23 := by rw [← hW]; exact blk_new _ _ _ (by simp)
  clear hW
  have cp0 : ∀ dk osk, (grow (redrawn W dk) osk).cell? ⟨w.heap.size, 0, none⟩ = some (.int .i64 px) := cell_regrown (kp.cell 0 rfl)
  have cp1 : ∀ dk osk, (grow (redrawn W dk) osk).cell? ⟨w.heap.size, 1, none⟩ = some (.int .i64 py) := cell_regrown (kp.cell 1 rfl)
  have cp2 : ∀ dk osk, (grow (redrawn W dk) osk).cell? ⟨w.heap.size, 2, none⟩ = some (.int .i64 pz) := cell_regrown (kp.cell 2 rfl)
  have q0 := Bx.mk fun dk osk => Calls.regrown_of (hcub.out (grow (redrawn W dk) osk))
  have q1 := Bx.mk fun dk osk => Calls.regrown_of (hrin.out (grow (redrawn W dk) osk))
  refine wp_region_quiet_below (by kernel_rfl) (by kernel_rfl) ?_
  repeat (first | go_big_quiet_step ((first | with_reducible exact q0.out _ _ | with_reducible exact q1.out _ _)) | quiet_step (first | with_reducible exact q0.out _ _ | with_reducible exact q1.out _ _))
  refine wpQuiet_nil ?_
  rintro _ ⟨⟨dq, osq⟩, rfl⟩
  have hb0 := below_regrown W dq osq
  replace hB := hB.trans (hb0.mono hB.size)
  replace kp := kp.later hb0
  clear q0 q1 cp0 cp1 cp2 hb0 hcub hrin
  generalize grow (redrawn W dq) osq = w1 at *
  have cp0 := kp.cell 0 rfl
  have cp1 := kp.cell 1 rfl
  have cp2 := kp.cell 2 rfl
  go_wp2_with fail
  refine (hset.out _).mono ?_
  rintro _ w2 ⟨rfl, hb2⟩
  replace hB := hB.trans (hb2.mono hB.size)
  clear hb2 cp0 cp1 cp2
  go_wp2_with fail
  go_ret2
  exact ⟨rfl, hB⟩
set_option maxRecDepth 100000 in
set_option maxHeartbeats 1000000 in
theorem Set9_no (n : Nat) (hn : n ≤ 12) (f : Pt → Int) (px py pz c : Int) (hok : ¬ (inB ⟨px, py, pz⟩ (cubeB (2 ^ (n + 2))) = true ∧ 0 ≤ c ∧ c ≤ 255)) (w : World) :
    Calls Tryz.prog 12 #[.string (strOfNums (Tr.enc (trF n f))), .int .i64 ((n : Int) + 2), .agg #[.int .i64 px, .int .i64 py, .int .i64 pz], .int .i64 c] w fun e w' => e = .returned (.tuple #[.string ByteArray.empty, .int .i64 1]) ∧ Below w.heap.size w w' := by
  have hp := pow_le (show n + 2 ≤ 14 by omega)
  have hcub := fun W => cube9_zero (n + 2) (by omega) W
  have hrin := fun W => ref_in px py pz 0 0 0 (2 ^ (n + 2)) (2 ^ (n + 2)) (2 ^ (n + 2)) W
  rw [show ((n + 2 : Nat) : Int) = (n : Int) + 2 by omega] at hcub
  change ¬ (inB ⟨px, py, pz⟩ ⟨⟨0, 0, 0⟩, ⟨2 ^ (n + 2), 2 ^ (n + 2), 2 ^ (n + 2)⟩⟩ = true ∧ 0 ≤ c ∧ c ≤ 255) at hok
  have hcub := Bx.mk hcub
  generalize strOfNums (Tr.enc (trF n f)) = S at *
  generalize (2 : Int) ^ (n + 2) = m at *
  generalize inB ⟨px, py, pz⟩ ⟨⟨0, 0, 0⟩, ⟨m, m, m⟩⟩ = b at *
  have hrin := Bx.mk hrin
  clear hp
  cases b with
  | false =>
    clear hok
    go_enter Tryz.func12, Tryz.ntmps12
    go_wp2_with fail
    generalize hW : World.alloc w _ = W
    have hB : Below w.heap.size w W := by rw [← hW]; exact (Below.refl _ _).alloc (Nat.le_refl _) _
    have kp : Bk W (w.heap.size) #[.int .i64 px, .int .i64 py, .int .i64 pz] 23 := by rw [← hW]; exact blk_new _ _ _ (by simp)
    clear hW
    have cp0 : ∀ dk osk, (grow (redrawn W dk) osk).cell? ⟨w.heap.size, 0, none⟩ = some (.int .i64 px) := cell_regrown (kp.cell 0 rfl)
    have cp1 : ∀ dk osk, (grow (redrawn W dk) osk).cell? ⟨w.heap.size, 1, none⟩ = some (.int .i64 py) := cell_regrown (kp.cell 1 rfl)
    have cp2 : ∀ dk osk, (grow (redrawn W dk) osk).cell? ⟨w.heap.size, 2, none⟩ = some (.int .i64 pz) := cell_regrown (kp.cell 2 rfl)
    have q0 := Bx.mk fun dk osk => Calls.regrown_of (hcub.out (grow (redrawn W dk) osk))
    have q1 := Bx.mk fun dk osk => Calls.regrown_of (hrin.out (grow (redrawn W dk) osk))
    refine wp_region_quiet_below (by kernel_rfl) (by kernel_rfl) ?_
    repeat (first | go_big_quiet_step ((first | with_reducible exact q0.out _ _ | with_reducible exact q1.out _ _)) | quiet_step (first | with_reducible exact q0.out _ _ | with_reducible exact q1.out _ _))
    refine wpQuiet_nil ?_
    rintro _ ⟨⟨dq, osq⟩, rfl⟩
    have hb0 := below_regrown W dq osq
    replace hB := hB.trans (hb0.mono hB.size)
    replace kp := kp.later hb0
    clear q0 q1 cp0 cp1 cp2 hb0 hcub hrin
    generalize grow (redrawn W dq) osq = w1 at *
    go_wp2_with fail
    go_ret2
    exact ⟨rfl, hB⟩
  | true =>
    by_cases h0 : c < 0
    · have t1 : decide (c < 0) = true := by simpa using h0
      clear hok
      go_enter Tryz.func12, Tryz.ntmps12
      go_wp2_with fail
      generalize hW : World.alloc w _ = W
      have hB : Below w.heap.size w W := by rw [← hW]; exact (Below.refl _ _).alloc (Nat.le_refl _) _
      have kp : Bk W (w.heap.size) #[.int .i64 px, .int .i64 py, .int .i64 pz] 23 := by rw [← hW]; exact blk_new _ _ _ (by simp)
      clear hW
      have cp0 : ∀ dk osk, (grow (redrawn W dk) osk).cell? ⟨w.heap.size, 0, none⟩ = some (.int .i64 px) := cell_regrown (kp.cell 0 rfl)
      have cp1 : ∀ dk osk, (grow (redrawn W dk) osk).cell? ⟨w.heap.size, 1, none⟩ = some (.int .i64 py) := cell_regrown (kp.cell 1 rfl)
      have cp2 : ∀ dk osk, (grow (redrawn W dk) osk).cell? ⟨w.heap.size, 2, none⟩ = some (.int .i64 pz) := cell_regrown (kp.cell 2 rfl)
      have q0 := Bx.mk fun dk osk => Calls.regrown_of (hcub.out (grow (redrawn W dk) osk))
      have q1 := Bx.mk fun dk osk => Calls.regrown_of (hrin.out (grow (redrawn W dk) osk))
      refine wp_region_quiet_below (by kernel_rfl) (by kernel_rfl) ?_
      repeat (first | go_big_quiet_step ((first | with_reducible exact q0.out _ _ | with_reducible exact q1.out _ _)) | quiet_step (first | with_reducible exact q0.out _ _ | with_reducible exact q1.out _ _))
      refine wpQuiet_nil ?_
      rintro _ ⟨⟨dq, osq⟩, rfl⟩
      have hb0 := below_regrown W dq osq
      replace hB := hB.trans (hb0.mono hB.size)
      replace kp := kp.later hb0
      clear q0 q1 cp0 cp1 cp2 hb0 hcub hrin
      generalize grow (redrawn W dq) osq = w1 at *
      go_wp2_with fail
      go_ret2
      exact ⟨rfl, hB⟩
    · have t1 : decide (c < 0) = false := by simpa using h0
      have t2 : decide (255 < c) = true := decide_eq_true (Classical.byContradiction fun hc => hok ⟨rfl, by omega, by omega⟩)
      clear hok
      go_enter Tryz.func12, Tryz.ntmps12
      go_wp2_with fail
      generalize hW : World.alloc w _ = W
      have hB : Below w.heap.size w W := by rw [← hW]; exact (Below.refl _ _).alloc (Nat.le_refl _) _
      have kp : Bk W (w.heap.size) #[.int .i64 px, .int .i64 py, .int .i64 pz] 23 := by rw [← hW]; exact blk_new _ _ _ (by simp)
      clear hW
      have cp0 : ∀ dk osk, (grow (redrawn W dk) osk).cell? ⟨w.heap.size, 0, none⟩ = some (.int .i64 px) := cell_regrown (kp.cell 0 rfl)
      have cp1 : ∀ dk osk, (grow (redrawn W dk) osk).cell? ⟨w.heap.size, 1, none⟩ = some (.int .i64 py) := cell_regrown (kp.cell 1 rfl)
      have cp2 : ∀ dk osk, (grow (redrawn W dk) osk).cell? ⟨w.heap.size, 2, none⟩ = some (.int .i64 pz) := cell_regrown (kp.cell 2 rfl)
      have q0 := Bx.mk fun dk osk => Calls.regrown_of (hcub.out (grow (redrawn W dk) osk))
      have q1 := Bx.mk fun dk osk => Calls.regrown_of (hrin.out (grow (redrawn W dk) osk))
      refine wp_region_quiet_below (by kernel_rfl) (by kernel_rfl) ?_
      repeat (first | go_big_quiet_step ((first | with_reducible exact q0.out _ _ | with_reducible exact q1.out _ _)) | quiet_step (first | with_reducible exact q0.out _ _ | with_reducible exact q1.out _ _))
      refine wpQuiet_nil ?_
      rintro _ ⟨⟨dq, osq⟩, rfl⟩
      have hb0 := below_regrown W dq osq
      replace hB := hB.trans (hb0.mono hB.size)
      replace kp := kp.later hb0
      clear q0 q1 cp0 cp1 cp2 hb0 hcub hrin
      generalize grow (redrawn W dq) osq = w1 at *
      go_wp2_with fail
      go_ret2
      exact ⟨rfl, hB⟩
end Go.Proofs.YtabclecmehdeoaaGreat
end
