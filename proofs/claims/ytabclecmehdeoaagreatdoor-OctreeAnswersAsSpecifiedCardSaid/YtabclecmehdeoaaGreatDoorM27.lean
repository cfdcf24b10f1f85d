/- Gq, Rg4: joined by program, for one claim. -/
import Derived.Test.YtabclecmehdeoaaGreatDoorMr
import Derived.Test.YtabclecmehdeoaaGreatDoorM26
import Derived.Test.YtabclecmehdeoaaGreatDoorM23
import Derived.Test.YtabclecmehdeoaaGreatDoorM22
import Derived.Test.YtabclecmehdeoaaGreatDoorM13
section
namespace Go.Proofs.YtabclecmehdeoaaGreatDoor
open Go.RowKit Go.Sort Go.Maps
open Oct
set_option maxRecDepth 100000 in
set_option maxHeartbeats 1000000 in
theorem get9_any (f : Pt → Int) (hf : ∀ p, 0 ≤ f p ∧ f p ≤ 255) (px py pz : Int) : ∀ (n : Nat), n ≤ 12 → ∀ (ax ay az : Int), Tr.Al n ⟨ax, ay, az⟩ → Tr.InC n ⟨ax, ay, az⟩ ⟨px, py, pz⟩ → (0 ≤ ax ∧ ax + 2 ^ (n + 2) ≤ 16384) → (0 ≤ ay ∧ ay + 2 ^ (n + 2) ≤ 16384) → (0 ≤ az ∧ az + 2 ^ (n + 2) ≤ 16384) → ∀ (w : World),
 Calls Tryz.prog 46 #[.string (strOfNums (Tr.enc (Tr.can f n ⟨ax, ay, az⟩))), .agg #[.int .i64 ax, .int .i64 ay, .int .i64 az], .int .i64 ((n : Int) + 2), .agg #[.int .i64 px, .int .i64 py, .int .i64 pz]] w fun e w' => e = .returned (.int .i64 (f ⟨px, py, pz⟩)) ∧ Below w.heap.size w w' := by
 intro n
 induction n using Nat.strongRecOn with
 | _ n ih =>
   intro hn ax ay az hal hin hx hy hz w
   have hp := pow_le (show n + 2 ≤ 14 by omega)
   have hw := wf_can hf n ⟨ax, ay, az⟩ (by omega)
   have hs := can_size hf hn ⟨ax, ay, az⟩
   have hget := Tr.get_can f n ⟨ax, ay, az⟩ ⟨px, py, pz⟩ hal hin
   rcases can_cases f n ⟨ax, ay, az⟩ with ⟨c, hc⟩ | ⟨rfl, l, hc, hl⟩ | ⟨m, ch, rfl, hc, hch⟩
   · rw [hc] at hw hget ⊢
     rw [show f ⟨px, py, pz⟩ = c from hget.symm]
     exact get9_uni c hw ax ay az px py pz _ w
   · rw [hc] at hw hget ⊢
     have hb := in_bounds (m := 4) (by decide) hal hin
     have e4 : (2 : Int) ^ (0 + 2) = 4 := by decide
     rw [e4] at hx hy hz
     have hix := fun W => index9_any ax ay az px py pz (by omega) (by omega) (by omega) W
     rw [idx_eq hal hin] at hix
     rw [show f ⟨px, py, pz⟩ = l.getD (Tr.idx ⟨px, py, pz⟩) 0 from hget.symm]
     exact get9_brick l hl hw.2 _ (Tr.idx_lt _) ax ay az px py pz _ hix w
   · rw [hc] at hw hs ⊢
     have hps := Tr.pow_succ2 m
     have h3 : (((m + 1 : Nat) : Int) + 2) = (m : Int) + 3 := by omega
     rw [h3]
     have hk := Tr.octN_lt m ⟨px, py, pz⟩
     have hb := ch_bd hk (show (0 : Int) ≤ 2 ^ (m + 2) by have := Tr.pow_pos2 m; omega)
     have hco := cor_at ax ay az m (Tr.octN m ⟨px, py, pz⟩)
     have h1 := Tr.al_cor hal (Tr.octN m ⟨px, py, pz⟩)
     have h2 : Tr.InC m (Tr.cor ⟨ax, ay, az⟩ m (Tr.octN m ⟨px, py, pz⟩)) ⟨px, py, pz⟩ := Tr.inC_step hal hin
     have hp0 := Tr.pow_pos2 m
     rw [hco] at h1 h2
     have hcor := fun W => corner9_any (m + 2) (by omega) ax ay az _ hk (by omega) (by omega) (by omega) W
     rw [show ((m + 2 : Nat) : Int) + 1 = (m : Int) + 3 by omega] at hcor
     refine get9_node m (by omega) ch hw (by omega) _ hk ax ay az px py pz _ _ _ _ (fun W => octant9_any m (by omega) ax ay az px py pz hal hin (by omega) (by omega) (by omega) W) hcor (fun W => ?_) w
     have := ih m (by omega) (by omega) _ _ _ h1 h2 (by omega) (by omega) (by omega) W
     rw [← hco, ← hch ⟨_, hk⟩] at this
     exact this
set_option maxRecDepth 100000 in
set_option maxHeartbeats 1000000 in
theorem part9_any (f : Pt → Int) (hf : ∀ p, 0 ≤ f p ∧ f p ≤ 255) (px py pz : Int) (L : Nat) (hL : 2 ≤ L) : ∀ (n : Nat), n ≤ 12 → L ≤ n + 2 → ∀ (ax ay az : Int), Tr.Al n ⟨ax, ay, az⟩ → Tr.InC n ⟨ax, ay, az⟩ ⟨px, py, pz⟩ → (0 ≤ ax ∧ ax + 2 ^ (n + 2) ≤ 16384) → (0 ≤ ay ∧ ay + 2 ^ (n + 2) ≤ 16384) → (0 ≤ az ∧ az + 2 ^ (n + 2) ≤ 16384) → ∀ (w : World),
 Calls Tryz.prog 42 #[.string (strOfNums (Tr.enc (Tr.can f n ⟨ax, ay, az⟩))), .agg #[.int .i64 ax, .int .i64 ay, .int .i64 az], .int .i64 ((n : Int) + 2), .agg #[.int .i64 px, .int .i64 py, .int .i64 pz], .int .i64 (L : Int)] w fun e w' => e = .returned (.string (strOfNums (Tr.enc (partT (Tr.can f n ⟨ax, ay, az⟩) n L ⟨px, py, pz⟩)))) ∧ Below w.heap.size w w' := by
 intro n
 induction n using Nat.strongRecOn with
 | _ n ih =>
   intro hn hLn ax ay az hal hin hx hy hz w
   have hp := pow_le (show n + 2 ≤ 14 by omega)
   have hw := wf_can hf n ⟨ax, ay, az⟩ (by omega)
   have hs := can_size hf hn ⟨ax, ay, az⟩
   rcases can_cases f n ⟨ax, ay, az⟩ with ⟨c, hc⟩ | ⟨rfl, l, hc, hl⟩ | ⟨m, ch, rfl, hc, hch⟩
   · rw [hc] at hw ⊢
     rw [partT_uni]
     exact part9_uni c hw ax ay az px py pz _ _ w
   · obtain rfl : L = 2 := by omega
     rw [hc] at hw ⊢
     rw [partT_stop (by omega)]
     exact part9_stop (.brick l) hw (fun c e => by cases e) ax ay az px py pz _ _ (by simp) w
   · by_cases hs2 : L = m + 3
     · subst hs2
       rw [hc] at hw ⊢
       rw [partT_stop (by omega)]
       exact part9_stop (.node (m + 3) ch) hw (fun c e => by cases e) ax ay az px py pz _ _ (by omega) w
     · rw [hc] at hw hs ⊢
       rw [partT_node (by omega)]
       have hps := Tr.pow_succ2 m
       have h3 : (((m + 1 : Nat) : Int) + 2) = (m : Int) + 3 := by omega
       rw [h3]
       have hk := Tr.octN_lt m ⟨px, py, pz⟩
       have hb := ch_bd hk (show (0 : Int) ≤ 2 ^ (m + 2) by have := Tr.pow_pos2 m; omega)
       have hco := cor_at ax ay az m (Tr.octN m ⟨px, py, pz⟩)
       have h1 := Tr.al_cor hal (Tr.octN m ⟨px, py, pz⟩)
       have h2 : Tr.InC m (Tr.cor ⟨ax, ay, az⟩ m (Tr.octN m ⟨px, py, pz⟩)) ⟨px, py, pz⟩ := Tr.inC_step hal hin
       have hp0 := Tr.pow_pos2 m
       rw [hco] at h1 h2
       have hcor := fun W => corner9_any (m + 2) (by omega) ax ay az _ hk (by omega) (by omega) (by omega) W
       rw [show ((m + 2 : Nat) : Int) + 1 = (m : Int) + 3 by omega] at hcor
       refine part9_node m (by omega) ch hw (by omega) _ hk ax ay az px py pz _ _ _ (L : Int) _ (by simp; omega) (fun W => octant9_any m (by omega) ax ay az px py pz hal hin (by omega) (by omega) (by omega) W) hcor (fun W => ?_) w
       have := ih m (by omega) (by omega) (by omega) _ _ _ h1 h2 (by omega) (by omega) (by omega) W
       rw [← hco, ← hch ⟨_, hk⟩] at this
       exact this
set_option maxRecDepth 100000 in
set_option maxHeartbeats 1000000 in
theorem Get9_in (n : Nat) (hn : n ≤ 12) (f : Pt → Int) (hf : ∀ p, 0 ≤ f p ∧ f p ≤ 255) (px py pz : Int) (hI : inB ⟨px, py, pz⟩ (cubeB (2 ^ (n + 2))) = true) (w : World) :
 Calls Tryz.prog 16 #[.string (strOfNums (Tr.enc (trF n f))), .int .i64 ((n : Int) + 2), .agg #[.int .i64 px, .int .i64 py, .int .i64 pz]] w fun e w' => e = .returned (.int .i64 (f ⟨px, py, pz⟩)) ∧ Below w.heap.size w w' := by
 have hp := pow_le (show n + 2 ≤ 14 by omega)
 have hcub := fun W => cube9_zero (n + 2) (by omega) W
 have hrin := fun W => ref_in px py pz 0 0 0 (2 ^ (n + 2)) (2 ^ (n + 2)) (2 ^ (n + 2)) W
 rw [show ((n + 2 : Nat) : Int) = (n : Int) + 2 by omega] at hcub
 have hcub := Bx.mk hcub
 have hset := Bx.mk fun W => get9_any f hf px py pz n hn 0 0 0 (al_zero n) (inC_of_in hI) (by omega) (by omega) (by omega) W
 rw [show inB ⟨px, py, pz⟩ ⟨⟨0, 0, 0⟩, ⟨2 ^ (n + 2), 2 ^ (n + 2), 2 ^ (n + 2)⟩⟩ = true from hI] at hrin
 have hrin := Bx.mk hrin
 clear hI hp
 unfold trF
 generalize strOfNums (Tr.enc (Tr.can f n ⟨0, 0, 0⟩)) = S at *
 generalize f ⟨px, py, pz⟩ = r at *
 generalize (2 : Int) ^ (n + 2) = m at *
 go_enter Tryz.func16, Tryz.ntmps16
 go_upto_region 1 with fail
 generalize hW : World.alloc w _ = W
 have hB : Below w.heap.size w W := by rw [← hW]; exact (Below.refl _ _).alloc (Nat.le_refl _) _
 have kp : Bk W (w.heap.size) #[.int .i64 px, .int .i64 py, .int .i64 pz] 23 := by rw [← hW]; exact blk_new _ _ _ (by simp)
 clear hW
 obtain ⟨cp0, cp1, cp2⟩ := kp.r3
 have q0 := Bx.mk fun dk osk => Calls.regrown_of (hcub.out (grow (redrawn W dk) osk))
 have q1 := Bx.mk fun dk osk => Calls.regrown_of (hrin.out (grow (redrawn W dk) osk))
 refine wp_region_quiet_below (by kernel_rfl) (by kernel_rfl) ?_
 repeat (first | go_big_quiet_step ((first | with_reducible exact q0.out _ _ | with_reducible exact q1.out _ _)) | quiet_step (first | with_reducible exact q0.out _ _ | with_reducible exact q1.out _ _))
 refine wpQuiet_nil ?_
 rintro _ ⟨⟨dq, osq⟩, rfl⟩
 have hb0 := below_regrown W dq osq
 replace hB := hB.trans (hb0.mono hB.size)
 replace kp := kp.later hb0
 clear q0 q1 cp0 cp1 cp2 hb0 hcub hrin
 generalize grow (redrawn W dq) osq = w1 at *
 obtain ⟨cp0, cp1, cp2⟩ := kp.c3
 go_wp2_with fail
 refine (hset.out _).mono ?_
 rintro _ w2 ⟨rfl, hb2⟩
 replace hB := hB.trans (hb2.mono hB.size)
 clear hb2 cp0 cp1 cp2
 go_wp2_with fail
 go_ret
 exact ⟨rfl, hB⟩
set_option maxRecDepth 100000 in
set_option maxHeartbeats 1000000 in
theorem Get9_out (n : Nat) (hn : n ≤ 12) (f : Pt → Int) (px py pz : Int) (hI : inB ⟨px, py, pz⟩ (cubeB (2 ^ (n + 2))) = false) (w : World) :
 Calls Tryz.prog 16 #[.string (strOfNums (Tr.enc (trF n f))), .int .i64 ((n : Int) + 2), .agg #[.int .i64 px, .int .i64 py, .int .i64 pz]] w fun e w' => e = .returned (.int .i64 (0)) ∧ Below w.heap.size w w' := by
 have hp := pow_le (show n + 2 ≤ 14 by omega)
 have hcub := fun W => cube9_zero (n + 2) (by omega) W
 have hrin := fun W => ref_in px py pz 0 0 0 (2 ^ (n + 2)) (2 ^ (n + 2)) (2 ^ (n + 2)) W
 rw [show ((n + 2 : Nat) : Int) = (n : Int) + 2 by omega] at hcub
 have hcub := Bx.mk hcub
 rw [show inB ⟨px, py, pz⟩ ⟨⟨0, 0, 0⟩, ⟨2 ^ (n + 2), 2 ^ (n + 2), 2 ^ (n + 2)⟩⟩ = false from hI] at hrin
 have hrin := Bx.mk hrin
 clear hI hp
 generalize strOfNums (Tr.enc (trF n f)) = S at *
 generalize (2 : Int) ^ (n + 2) = m at *
 go_enter Tryz.func16, Tryz.ntmps16
 go_upto_region 1 with fail
 generalize hW : World.alloc w _ = W
 have hB : Below w.heap.size w W := by rw [← hW]; exact (Below.refl _ _).alloc (Nat.le_refl _) _
 have kp : Bk W (w.heap.size) #[.int .i64 px, .int .i64 py, .int .i64 pz] 23 := by rw [← hW]; exact blk_new _ _ _ (by simp)
 clear hW
 obtain ⟨cp0, cp1, cp2⟩ := kp.r3
 have q0 := Bx.mk fun dk osk => Calls.regrown_of (hcub.out (grow (redrawn W dk) osk))
 have q1 := Bx.mk fun dk osk => Calls.regrown_of (hrin.out (grow (redrawn W dk) osk))
 refine wp_region_quiet_below (by kernel_rfl) (by kernel_rfl) ?_
 repeat (first | go_big_quiet_step ((first | with_reducible exact q0.out _ _ | with_reducible exact q1.out _ _)) | quiet_step (first | with_reducible exact q0.out _ _ | with_reducible exact q1.out _ _))
 refine wpQuiet_nil ?_
 rintro _ ⟨⟨dq, osq⟩, rfl⟩
 have hb0 := below_regrown W dq osq
 replace hB := hB.trans (hb0.mono hB.size)
 replace kp := kp.later hb0
 clear q0 q1 cp0 cp1 cp2 hb0 hcub hrin
 generalize grow (redrawn W dq) osq = w1 at *
 obtain ⟨cp0, cp1, cp2⟩ := kp.c3
 go_wp2_with fail
 go_ret
 exact ⟨rfl, hB⟩
theorem Get9_any (n : Nat) (hn : n ≤ 12) (f : Pt → Int) (hf : FnC n f) (px py pz : Int) (w : World) :
 Calls Tryz.prog 16 #[.string (strOfNums (Tr.enc (trF n f))), .int .i64 ((n : Int) + 2), .agg #[.int .i64 px, .int .i64 py, .int .i64 pz]] w fun e w' => e = .returned (.int .i64 (f ⟨px, py, pz⟩)) ∧ Below w.heap.size w w' := by
 cases hI : inB ⟨px, py, pz⟩ (cubeB (2 ^ (n + 2))) with
 | true => exact Get9_in n hn f hf.range px py pz hI w
 | false => rw [hf.out _ hI]; exact Get9_out n hn f px py pz hI w
set_option maxRecDepth 100000 in
set_option maxHeartbeats 1000000 in
theorem Part9_in (n : Nat) (hn : n ≤ 12) (f : Pt → Int) (px py pz lv : Int) (hI : inB ⟨px, py, pz⟩ (cubeB (2 ^ (n + 2))) = false) (w : World) :
 Calls Tryz.prog 13 #[.string (strOfNums (Tr.enc (trF n f))), .int .i64 ((n : Int) + 2), .agg #[.int .i64 px, .int .i64 py, .int .i64 pz], .int .i64 lv] w fun e w' => e = .returned (.tuple #[.string (ByteArray.empty), .int .i64 1]) ∧ Below w.heap.size w w' := by
 have hp := pow_le (show n + 2 ≤ 14 by omega)
 have hcub := fun W => cube9_zero (n + 2) (by omega) W
 have hrin := fun W => ref_in px py pz 0 0 0 (2 ^ (n + 2)) (2 ^ (n + 2)) (2 ^ (n + 2)) W
 rw [show ((n + 2 : Nat) : Int) = (n : Int) + 2 by omega] at hcub
 have hcub := Bx.mk hcub
 rw [show inB ⟨px, py, pz⟩ ⟨⟨0, 0, 0⟩, ⟨2 ^ (n + 2), 2 ^ (n + 2), 2 ^ (n + 2)⟩⟩ = false from hI] at hrin
 have hrin := Bx.mk hrin
 clear hI hp
 generalize strOfNums (Tr.enc (trF n f)) = S at *
 generalize (2 : Int) ^ (n + 2) = m at *
 go_enter Tryz.func13, Tryz.ntmps13
 go_upto_region 1 with fail
 generalize hW : World.alloc w _ = W
 have hB : Below w.heap.size w W := by rw [← hW]; exact (Below.refl _ _).alloc (Nat.le_refl _) _
 have kp : Bk W (w.heap.size) #[.int .i64 px, .int .i64 py, .int .i64 pz] 23 := by rw [← hW]; exact blk_new _ _ _ (by simp)
 clear hW
 obtain ⟨cp0, cp1, cp2⟩ := kp.r3
 have q0 := Bx.mk fun dk osk => Calls.regrown_of (hcub.out (grow (redrawn W dk) osk))
 have q1 := Bx.mk fun dk osk => Calls.regrown_of (hrin.out (grow (redrawn W dk) osk))
 refine wp_region_quiet_below (by kernel_rfl) (by kernel_rfl) ?_
 repeat (first | go_big_quiet_step ((first | with_reducible exact q0.out _ _ | with_reducible exact q1.out _ _)) | quiet_step (first | with_reducible exact q0.out _ _ | with_reducible exact q1.out _ _))
 refine wpQuiet_nil ?_
 rintro _ ⟨⟨dq, osq⟩, rfl⟩
 have hb0 := below_regrown W dq osq
 replace hB := hB.trans (hb0.mono hB.size)
 replace kp := kp.later hb0
 clear q0 q1 cp0 cp1 cp2 hb0 hcub hrin
 generalize grow (redrawn W dq) osq = w1 at *
 obtain ⟨cp0, cp1, cp2⟩ := kp.c3
 go_wp2_with fail
 go_ret2
 exact ⟨rfl, hB⟩
set_option maxRecDepth 100000 in
set_option maxHeartbeats 1000000 in
theorem Part9_lo (n : Nat) (hn : n ≤ 12) (f : Pt → Int) (px py pz lv : Int) (hI : inB ⟨px, py, pz⟩ (cubeB (2 ^ (n + 2))) = true) (h1 : lv < 2) (w : World) :
 Calls Tryz.prog 13 #[.string (strOfNums (Tr.enc (trF n f))), .int .i64 ((n : Int) + 2), .agg #[.int .i64 px, .int .i64 py, .int .i64 pz], .int .i64 lv] w fun e w' => e = .returned (.tuple #[.string (ByteArray.empty), .int .i64 1]) ∧ Below w.heap.size w w' := by
 have hp := pow_le (show n + 2 ≤ 14 by omega)
 have hcub := fun W => cube9_zero (n + 2) (by omega) W
 have hrin := fun W => ref_in px py pz 0 0 0 (2 ^ (n + 2)) (2 ^ (n + 2)) (2 ^ (n + 2)) W
 rw [show ((n + 2 : Nat) : Int) = (n : Int) + 2 by omega] at hcub
 have hcub := Bx.mk hcub
 rw [show inB ⟨px, py, pz⟩ ⟨⟨0, 0, 0⟩, ⟨2 ^ (n + 2), 2 ^ (n + 2), 2 ^ (n + 2)⟩⟩ = true from hI] at hrin
 have hrin := Bx.mk hrin
 clear hI hp
 have t1 : decide (lv < 2) = true := by simpa using h1
 generalize strOfNums (Tr.enc (trF n f)) = S at *
 generalize (2 : Int) ^ (n + 2) = m at *
 go_enter Tryz.func13, Tryz.ntmps13
 go_upto_region 1 with fail
 generalize hW : World.alloc w _ = W
 have hB : Below w.heap.size w W := by rw [← hW]; exact (Below.refl _ _).alloc (Nat.le_refl _) _
 have kp : Bk W (w.heap.size) #[.int .i64 px, .int .i64 py, .int .i64 pz] 23 := by rw [← hW]; exact blk_new _ _ _ (by simp)
 clear hW
 obtain ⟨cp0, cp1, cp2⟩ := kp.r3
 have q0 := Bx.mk fun dk osk => Calls.regrown_of (hcub.out (grow (redrawn W dk) osk))
 have q1 := Bx.mk fun dk osk => Calls.regrown_of (hrin.out (grow (redrawn W dk) osk))
 refine wp_region_quiet_below (by kernel_rfl) (by kernel_rfl) ?_
 repeat (first | go_big_quiet_step ((first | with_reducible exact q0.out _ _ | with_reducible exact q1.out _ _)) | quiet_step (first | with_reducible exact q0.out _ _ | with_reducible exact q1.out _ _))
 refine wpQuiet_nil ?_
 rintro _ ⟨⟨dq, osq⟩, rfl⟩
 have hb0 := below_regrown W dq osq
 replace hB := hB.trans (hb0.mono hB.size)
 replace kp := kp.later hb0
 clear q0 q1 cp0 cp1 cp2 hb0 hcub hrin
 generalize grow (redrawn W dq) osq = w1 at *
 obtain ⟨cp0, cp1, cp2⟩ := kp.c3
 go_wp2_with fail
 go_ret2
 exact ⟨rfl, hB⟩
set_option maxRecDepth 100000 in
set_option maxHeartbeats 1000000 in
theorem Part9_hi (n : Nat) (hn : n ≤ 12) (f : Pt → Int) (px py pz lv : Int) (hI : inB ⟨px, py, pz⟩ (cubeB (2 ^ (n + 2))) = true) (h1 : ¬ lv < 2) (h2 : (n : Int) + 2 < lv) (w : World) :
 Calls Tryz.prog 13 #[.string (strOfNums (Tr.enc (trF n f))), .int .i64 ((n : Int) + 2), .agg #[.int .i64 px, .int .i64 py, .int .i64 pz], .int .i64 lv] w fun e w' => e = .returned (.tuple #[.string (ByteArray.empty), .int .i64 1]) ∧ Below w.heap.size w w' := by
 have hp := pow_le (show n + 2 ≤ 14 by omega)
 have hcub := fun W => cube9_zero (n + 2) (by omega) W
 have hrin := fun W => ref_in px py pz 0 0 0 (2 ^ (n + 2)) (2 ^ (n + 2)) (2 ^ (n + 2)) W
 rw [show ((n + 2 : Nat) : Int) = (n : Int) + 2 by omega] at hcub
 have hcub := Bx.mk hcub
 rw [show inB ⟨px, py, pz⟩ ⟨⟨0, 0, 0⟩, ⟨2 ^ (n + 2), 2 ^ (n + 2), 2 ^ (n + 2)⟩⟩ = true from hI] at hrin
 have hrin := Bx.mk hrin
 clear hI hp
 have t1 : decide (lv < 2) = false := by simpa using h1
 have t2 : decide ((n : Int) + 2 < lv) = true := by simpa using h2
 generalize strOfNums (Tr.enc (trF n f)) = S at *
 generalize (2 : Int) ^ (n + 2) = m at *
 go_enter Tryz.func13, Tryz.ntmps13
 go_upto_region 1 with fail
 generalize hW : World.alloc w _ = W
 have hB : Below w.heap.size w W := by rw [← hW]; exact (Below.refl _ _).alloc (Nat.le_refl _) _
 have kp : Bk W (w.heap.size) #[.int .i64 px, .int .i64 py, .int .i64 pz] 23 := by rw [← hW]; exact blk_new _ _ _ (by simp)
 clear hW
 obtain ⟨cp0, cp1, cp2⟩ := kp.r3
 have q0 := Bx.mk fun dk osk => Calls.regrown_of (hcub.out (grow (redrawn W dk) osk))
 have q1 := Bx.mk fun dk osk => Calls.regrown_of (hrin.out (grow (redrawn W dk) osk))
 refine wp_region_quiet_below (by kernel_rfl) (by kernel_rfl) ?_
 repeat (first | go_big_quiet_step ((first | with_reducible exact q0.out _ _ | with_reducible exact q1.out _ _)) | quiet_step (first | with_reducible exact q0.out _ _ | with_reducible exact q1.out _ _))
 refine wpQuiet_nil ?_
 rintro _ ⟨⟨dq, osq⟩, rfl⟩
 have hb0 := below_regrown W dq osq
 replace hB := hB.trans (hb0.mono hB.size)
 replace kp := kp.later hb0
 clear q0 q1 cp0 cp1 cp2 hb0 hcub hrin
 generalize grow (redrawn W dq) osq = w1 at *
 obtain ⟨cp0, cp1, cp2⟩ := kp.c3
 go_wp2_with fail
 go_ret2
 exact ⟨rfl, hB⟩
set_option maxRecDepth 100000 in
set_option maxHeartbeats 1000000 in
theorem Part9_al (n L : Nat) (hn : n ≤ 12) (hL : 2 ≤ L) (hL2 : L ≤ n + 2) (f : Pt → Int) (px py pz : Int) (hI : inB ⟨px, py, pz⟩ (cubeB (2 ^ (n + 2))) = true) (hA : alB L ⟨px, py, pz⟩ = false) (w : World) :
 Calls Tryz.prog 13 #[.string (strOfNums (Tr.enc (trF n f))), .int .i64 ((n : Int) + 2), .agg #[.int .i64 px, .int .i64 py, .int .i64 pz], .int .i64 (L : Int)] w fun e w' => e = .returned (.tuple #[.string (ByteArray.empty), .int .i64 1]) ∧ Below w.heap.size w w' := by
 have hp := pow_le (show n + 2 ≤ 14 by omega)
 have hcub := fun W => cube9_zero (n + 2) (by omega) W
 have hrin := fun W => ref_in px py pz 0 0 0 (2 ^ (n + 2)) (2 ^ (n + 2)) (2 ^ (n + 2)) W
 rw [show ((n + 2 : Nat) : Int) = (n : Int) + 2 by omega] at hcub
 have hcub := Bx.mk hcub
 obtain ⟨rx, ry, rz⟩ := in_range hn hI
 rw [show inB ⟨px, py, pz⟩ ⟨⟨0, 0, 0⟩, ⟨2 ^ (n + 2), 2 ^ (n + 2), 2 ^ (n + 2)⟩⟩ = true from hI] at hrin
 have hrin := Bx.mk hrin
 have hsd := Bx.mk (side_any L (by omega))
 have t1 : decide ((L : Int) < 2) = false := by simp; omega
 have t2 : decide ((n : Int) + 2 < (L : Int)) = false := by simp; omega
 have hsp := Int.pow_pos (n := 2) (m := L) (by decide)
 have hA2 : ¬ (px % 2 ^ L = 0 ∧ py % 2 ^ L = 0 ∧ pz % 2 ^ L = 0) := of_decide_eq_false hA
 clear hI hp hA
 generalize strOfNums (Tr.enc (trF n f)) = S at *
 generalize (2 : Int) ^ (n + 2) = m at *
 generalize (2 : Int) ^ L = s at *
 have hx0 := rx.1
 have hy0 := ry.1
 have hz0 := rz.1
 have hs0 : (0 : Int) ≤ s := by omega
 have hs1 : (s == 0) = false := by simp; omega
 by_cases ax : px % s = 0
 · have u1 : (px % s != 0) = false := by simp [ax]
   by_cases ay : py % s = 0
   · have u2 : (py % s != 0) = false := by simp [ay]
     have u3 : (pz % s != 0) = true := by simp; intro h; exact hA2 ⟨ax, ay, h⟩
     clear ax ay hA2 rx ry rz
     go_enter Tryz.func13, Tryz.ntmps13
     go_upto_region 1 with fail
     generalize hW : World.alloc w _ = W
     have hB : Below w.heap.size w W := by rw [← hW]; exact (Below.refl _ _).alloc (Nat.le_refl _) _
     have kp : Bk W (w.heap.size) #[.int .i64 px, .int .i64 py, .int .i64 pz] 23 := by rw [← hW]; exact blk_new _ _ _ (by simp)
     clear hW
     obtain ⟨cp0, cp1, cp2⟩ := kp.r3
     have q0 := Bx.mk fun dk osk => Calls.regrown_of (hcub.out (grow (redrawn W dk) osk))
     have q1 := Bx.mk fun dk osk => Calls.regrown_of (hrin.out (grow (redrawn W dk) osk))
     refine wp_region_quiet_below (by kernel_rfl) (by kernel_rfl) ?_
     repeat (first | go_big_quiet_step ((first | with_reducible exact q0.out _ _ | with_reducible exact q1.out _ _)) | quiet_step (first | with_reducible exact q0.out _ _ | with_reducible exact q1.out _ _))
     refine wpQuiet_nil ?_
     rintro _ ⟨⟨dq, osq⟩, rfl⟩
     have hb0 := below_regrown W dq osq
     replace hB := hB.trans (hb0.mono hB.size)
     replace kp := kp.later hb0
     clear q0 q1 cp0 cp1 cp2 hb0 hcub hrin
     generalize grow (redrawn W dq) osq = w1 at *
     obtain ⟨cp0, cp1, cp2⟩ := kp.c3
     go_wp2_with fail
     refine (hsd.out _).mono ?_
     rintro _ _ ⟨rfl, rfl⟩
     go_wp2_with fail
     go_ret2
     exact ⟨rfl, hB⟩
   · have u2 : (py % s != 0) = true := by simpa using ay
     clear ax ay hA2 rx ry rz
     go_enter Tryz.func13, Tryz.ntmps13
     go_upto_region 1 with fail
     generalize hW : World.alloc w _ = W
     have hB : Below w.heap.size w W := by rw [← hW]; exact (Below.refl _ _).alloc (Nat.le_refl _) _
     have kp : Bk W (w.heap.size) #[.int .i64 px, .int .i64 py, .int .i64 pz] 23 := by rw [← hW]; exact blk_new _ _ _ (by simp)
     clear hW
     obtain ⟨cp0, cp1, cp2⟩ := kp.r3
     have q0 := Bx.mk fun dk osk => Calls.regrown_of (hcub.out (grow (redrawn W dk) osk))
     have q1 := Bx.mk fun dk osk => Calls.regrown_of (hrin.out (grow (redrawn W dk) osk))
     refine wp_region_quiet_below (by kernel_rfl) (by kernel_rfl) ?_
     repeat (first | go_big_quiet_step ((first | with_reducible exact q0.out _ _ | with_reducible exact q1.out _ _)) | quiet_step (first | with_reducible exact q0.out _ _ | with_reducible exact q1.out _ _))
     refine wpQuiet_nil ?_
     rintro _ ⟨⟨dq, osq⟩, rfl⟩
     have hb0 := below_regrown W dq osq
     replace hB := hB.trans (hb0.mono hB.size)
     replace kp := kp.later hb0
     clear q0 q1 cp0 cp1 cp2 hb0 hcub hrin
     generalize grow (redrawn W dq) osq = w1 at *
     obtain ⟨cp0, cp1, cp2⟩ := kp.c3
     go_wp2_with fail
     refine (hsd.out _).mono ?_
     rintro _ _ ⟨rfl, rfl⟩
     go_wp2_with fail
     go_ret2
     exact ⟨rfl, hB⟩
 · have u1 : (px % s != 0) = true := by simpa using ax
   clear ax hA2 rx ry rz
   go_enter Tryz.func13, Tryz.ntmps13
   go_upto_region 1 with fail
   generalize hW : World.alloc w _ = W
   have hB : Below w.heap.size w W := by rw [← hW]; exact (Below.refl _ _).alloc (Nat.le_refl _) _
   have kp : Bk W (w.heap.size) #[.int .i64 px, .int .i64 py, .int .i64 pz] 23 := by rw [← hW]; exact blk_new _ _ _ (by simp)
   clear hW
   obtain ⟨cp0, cp1, cp2⟩ := kp.r3
   have q0 := Bx.mk fun dk osk => Calls.regrown_of (hcub.out (grow (redrawn W dk) osk))
   have q1 := Bx.mk fun dk osk => Calls.regrown_of (hrin.out (grow (redrawn W dk) osk))
   refine wp_region_quiet_below (by kernel_rfl) (by kernel_rfl) ?_
   repeat (first | go_big_quiet_step ((first | with_reducible exact q0.out _ _ | with_reducible exact q1.out _ _)) | quiet_step (first | with_reducible exact q0.out _ _ | with_reducible exact q1.out _ _))
   refine wpQuiet_nil ?_
   rintro _ ⟨⟨dq, osq⟩, rfl⟩
   have hb0 := below_regrown W dq osq
   replace hB := hB.trans (hb0.mono hB.size)
   replace kp := kp.later hb0
   clear q0 q1 cp0 cp1 cp2 hb0 hcub hrin
   generalize grow (redrawn W dq) osq = w1 at *
   obtain ⟨cp0, cp1, cp2⟩ := kp.c3
   go_wp2_with fail
   refine (hsd.out _).mono ?_
   rintro _ _ ⟨rfl, rfl⟩
   go_wp2_with fail
   go_ret2
   exact ⟨rfl, hB⟩
set_option maxRecDepth 100000 in
set_option maxHeartbeats 1000000 in
theorem Part9_ok (n L : Nat) (hn : n ≤ 12) (hL : 2 ≤ L) (hL2 : L ≤ n + 2) (f : Pt → Int) (hf : ∀ p, 0 ≤ f p ∧ f p ≤ 255) (px py pz : Int) (hI : inB ⟨px, py, pz⟩ (cubeB (2 ^ (n + 2))) = true) (hA : alB L ⟨px, py, pz⟩ = true) (w : World) :
 Calls Tryz.prog 13 #[.string (strOfNums (Tr.enc (trF n f))), .int .i64 ((n : Int) + 2), .agg #[.int .i64 px, .int .i64 py, .int .i64 pz], .int .i64 (L : Int)] w fun e w' => e = .returned (.tuple #[.string (strOfNums (Tr.enc (partT (trF n f) n L ⟨px, py, pz⟩))), .int .i64 0]) ∧ Below w.heap.size w w' := by
 have hp := pow_le (show n + 2 ≤ 14 by omega)
 have hcub := fun W => cube9_zero (n + 2) (by omega) W
 have hrin := fun W => ref_in px py pz 0 0 0 (2 ^ (n + 2)) (2 ^ (n + 2)) (2 ^ (n + 2)) W
 rw [show ((n + 2 : Nat) : Int) = (n : Int) + 2 by omega] at hcub
 have hcub := Bx.mk hcub
 have hset := Bx.mk fun W => part9_any f hf px py pz L hL n hn hL2 0 0 0 (al_zero n) (inC_of_in hI) (by omega) (by omega) (by omega) W
 obtain ⟨rx, ry, rz⟩ := in_range hn hI
 rw [show inB ⟨px, py, pz⟩ ⟨⟨0, 0, 0⟩, ⟨2 ^ (n + 2), 2 ^ (n + 2), 2 ^ (n + 2)⟩⟩ = true from hI] at hrin
 have hrin := Bx.mk hrin
 have hsd := Bx.mk (side_any L (by omega))
 have t1 : decide ((L : Int) < 2) = false := by simp; omega
 have t2 : decide ((n : Int) + 2 < (L : Int)) = false := by simp; omega
 have hsp := Int.pow_pos (n := 2) (m := L) (by decide)
 have hA2 : px % 2 ^ L = 0 ∧ py % 2 ^ L = 0 ∧ pz % 2 ^ L = 0 := of_decide_eq_true hA
 clear hI hp hA
 unfold trF
 generalize strOfNums (Tr.enc (partT (Tr.can f n ⟨0, 0, 0⟩) n L ⟨px, py, pz⟩)) = R at *
 generalize strOfNums (Tr.enc (Tr.can f n ⟨0, 0, 0⟩)) = S at *
 generalize (2 : Int) ^ (n + 2) = m at *
 generalize (2 : Int) ^ L = s at *
 have hx0 := rx.1
 have hy0 := ry.1
 have hz0 := rz.1
 have hs0 : (0 : Int) ≤ s := by omega
 have hs1 : (s == 0) = false := by simp; omega
 have u1 : (px % s != 0) = false := by simp [hA2.1]
 have u2 : (py % s != 0) = false := by simp [hA2.2.1]
 have u3 : (pz % s != 0) = false := by simp [hA2.2.2]
 clear hA2 rx ry rz
 go_enter Tryz.func13, Tryz.ntmps13
 go_upto_region 1 with fail
 generalize hW : World.alloc w _ = W
 have hB : Below w.heap.size w W := by rw [← hW]; exact (Below.refl _ _).alloc (Nat.le_refl _) _
 have kp : Bk W (w.heap.size) #[.int .i64 px, .int .i64 py, .int .i64 pz] 23 := by rw [← hW]; exact blk_new _ _ _ (by simp)
 clear hW
 obtain ⟨cp0, cp1, cp2⟩ := kp.r3
 have q0 := Bx.mk fun dk osk => Calls.regrown_of (hcub.out (grow (redrawn W dk) osk))
 have q1 := Bx.mk fun dk osk => Calls.regrown_of (hrin.out (grow (redrawn W dk) osk))
 refine wp_region_quiet_below (by kernel_rfl) (by kernel_rfl) ?_
 repeat (first | go_big_quiet_step ((first | with_reducible exact q0.out _ _ | with_reducible exact q1.out _ _)) | quiet_step (first | with_reducible exact q0.out _ _ | with_reducible exact q1.out _ _))
 refine wpQuiet_nil ?_
 rintro _ ⟨⟨dq, osq⟩, rfl⟩
 have hb0 := below_regrown W dq osq
 replace hB := hB.trans (hb0.mono hB.size)
 replace kp := kp.later hb0
 clear q0 q1 cp0 cp1 cp2 hb0 hcub hrin
 generalize grow (redrawn W dq) osq = w1 at *
 obtain ⟨cp0, cp1, cp2⟩ := kp.c3
 go_wp2_with fail
 refine (hsd.out _).mono ?_
 rintro _ _ ⟨rfl, rfl⟩
 go_wp2_with fail
 refine (hset.out _).mono ?_
 rintro _ w2 ⟨rfl, hb2⟩
 replace hB := hB.trans (hb2.mono hB.size)
 clear hb2 cp0 cp1 cp2
 go_wp2_with fail
 go_ret2
 exact ⟨rfl, hB⟩
end Go.Proofs.YtabclecmehdeoaaGreatDoor
end
section
namespace Go.Proofs.YtabclecmehdeoaaGreatDoor
open Go.RowKit Go.Sort Go.Maps
open Oct
theorem ref_list (px py pz : Int) (w : World) :
 Calls Tryz.prog 116 #[.agg #[.int .i64 px, .int .i64 py, .int .i64 pz]] w fun e w' => e = .returned (.agg #[.int .i64 px, .int .i64 py, .int .i64 pz]) ∧ Below w.heap.size w w' := by
 go_enter Tryz.func116, Tryz.ntmps116
 go_wp2_with fail
 generalize hW : World.alloc (World.alloc w _) _ = W
 have hB : Below w.heap.size w W := by rw [← hW]; exact ((Below.refl _ _).alloc (Nat.le_refl _) _).alloc (by simp) _
 have kp : Bk W (w.heap.size) #[.int .i64 px, .int .i64 py, .int .i64 pz] 23 := by rw [← hW]; exact blk_old (blk_new _ _ _ (by simp))
 have kr : Bk W (w.heap.size + 1) #[.int .i64 px, .int .i64 py, .int .i64 pz] 141 := by rw [← hW]; exact blk_new _ _ _ (by simp)
 clear hW
 exact bodyPost_ret (v := .agg #[.int .i64 px, .int .i64 py, .int .i64 pz]) (results_cell_row rfl _ _ _ 141 #[.int .i64 px, .int .i64 py, .int .i64 pz] (0, 0) _ rfl kr Tryz.underlying141 rfl (by kernel_rfl)) rfl ⟨rfl, hB⟩
theorem ref_of (px py pz : Int) (w : World) :
 Calls Tryz.prog 117 #[.agg #[.int .i64 px, .int .i64 py, .int .i64 pz]] w fun e w' => e = .returned (.agg #[.int .i64 px, .int .i64 py, .int .i64 pz]) ∧ Below w.heap.size w w' := by
 go_enter Tryz.func117, Tryz.ntmps117
 go_wp2_with fail
 generalize hW : World.alloc (World.alloc w _) _ = W
 have hB : Below w.heap.size w W := by rw [← hW]; exact ((Below.refl _ _).alloc (Nat.le_refl _) _).alloc (by simp) _
 have kp : Bk W (w.heap.size) #[.int .i64 px, .int .i64 py, .int .i64 pz] 141 := by rw [← hW]; exact blk_old (blk_new _ _ _ (by simp))
 have kr : Bk W (w.heap.size + 1) #[.int .i64 px, .int .i64 py, .int .i64 pz] 23 := by rw [← hW]; exact blk_new _ _ _ (by simp)
 clear hW
 exact bodyPost_ret (v := .agg #[.int .i64 px, .int .i64 py, .int .i64 pz]) (results_cell_row rfl _ _ _ 23 #[.int .i64 px, .int .i64 py, .int .i64 pz] (0, 0) _ rfl kr Tryz.underlying23 rfl (by kernel_rfl)) rfl ⟨rfl, hB⟩
theorem ref_near (n : Int) (w : World) : Calls Tryz.prog 120 #[.int .i64 n] w fun e w' => e = .returned (.bool (okC n)) ∧ w = w' := by
 by_cases h0 : -1048575 ≤ n
 · by_cases h1 : n ≤ 1048575
   · have t0 : decide (-1048575 ≤ n) = true := by simpa using h0
     have t1 : decide (n ≤ 1048575) = true := by simpa using h1
     have hr : okC n = true := by unfold okC; exact decide_eq_true ⟨h0, h1⟩
     rw [hr]
     clear hr
     go_enter Tryz.func120, Tryz.ntmps120
     go_wp2_with fail
     go_ret
     exact ⟨rfl, rfl⟩
   · have t0 : decide (-1048575 ≤ n) = true := by simpa using h0
     have t1 : decide (n ≤ 1048575) = false := by simpa using h1
     have hr : okC n = false := by unfold okC; exact decide_eq_false fun h => h1 h.2
     rw [hr]
     clear hr
     go_enter Tryz.func120, Tryz.ntmps120
     go_wp2_with fail
     go_ret
     exact ⟨rfl, rfl⟩
 · have t0 : decide (-1048575 ≤ n) = false := by simpa using h0
   have hr : okC n = false := by unfold okC; exact decide_eq_false fun h => h0 h.1
   rw [hr]
   clear hr
   go_enter Tryz.func120, Tryz.ntmps120
   go_wp2_with fail
   go_ret
   exact ⟨rfl, rfl⟩
theorem ref_mat (n : Int) (w : World) : Calls Tryz.prog 87 #[.int .i64 n] w fun e w' => e = .returned (.bool (Pal.cell n)) ∧ w = w' := by
 rw [Pal.cell_eq]
 by_cases h0 : 0 ≤ n
 · by_cases h1 : n < 256
   · have t0 : decide (0 ≤ n) = true := by simpa using h0
     have t1 : decide (n < 256) = true := by simpa using h1
     have hr : decide (0 ≤ n ∧ n ≤ 255) = true := decide_eq_true ⟨h0, by omega⟩
     rw [hr]
     clear hr
     go_enter Tryz.func87, Tryz.ntmps87
     go_wp2_with fail
     go_ret
     exact ⟨rfl, rfl⟩
   · have t0 : decide (0 ≤ n) = true := by simpa using h0
     have t1 : decide (n < 256) = false := by simpa using h1
     have hr : decide (0 ≤ n ∧ n ≤ 255) = false := decide_eq_false fun h => h1 (by omega)
     rw [hr]
     clear hr
     go_enter Tryz.func87, Tryz.ntmps87
     go_wp2_with fail
     go_ret
     exact ⟨rfl, rfl⟩
 · have t0 : decide (0 ≤ n) = false := by simpa using h0
   have hr : decide (0 ≤ n ∧ n ≤ 255) = false := decide_eq_false fun h => h0 h.1
   rw [hr]
   clear hr
   go_enter Tryz.func87, Tryz.ntmps87
   go_wp2_with fail
   go_ret
   exact ⟨rfl, rfl⟩
theorem ref_ranged (px py pz : Int) (w : World) : Calls Tryz.prog 86 #[.agg #[.int .i64 px, .int .i64 py, .int .i64 pz]] w fun e w' => e = .returned (.bool (okP ⟨px, py, pz⟩)) ∧ Below w.heap.size w w' := by
 have h0 := Bx.mk fun W => ref_near px W
 have h1 := Bx.mk fun W => ref_near py W
 have h2 := Bx.mk fun W => ref_near pz W
 have hr := Bx.mk (show okP ⟨px, py, pz⟩ = (okC px && okC py && okC pz) from rfl)
 generalize okC px = x at *
 generalize okC py = y at *
 generalize okC pz = z at *
 cases x with
 | false =>
   go_enter Tryz.func86, Tryz.ntmps86
   go_wp2_with fail
   refine (h0.out _).mono ?_
   rintro _ _ ⟨rfl, rfl⟩
   go_wp2_with fail
   go_ret
   exact ⟨by rw [hr.out]; rfl, (Below.refl _ _).alloc (Nat.le_refl _) _⟩
 | true =>
   cases y with
   | false =>
     go_enter Tryz.func86, Tryz.ntmps86
     go_wp2_with fail
     refine (h0.out _).mono ?_
     rintro _ _ ⟨rfl, rfl⟩
     go_wp2_with fail
     refine (h1.out _).mono ?_
     rintro _ _ ⟨rfl, rfl⟩
     go_wp2_with fail
     go_ret
     exact ⟨by rw [hr.out]; rfl, (Below.refl _ _).alloc (Nat.le_refl _) _⟩
   | true =>
     go_enter Tryz.func86, Tryz.ntmps86
     go_wp2_with fail
     refine (h0.out _).mono ?_
     rintro _ _ ⟨rfl, rfl⟩
     go_wp2_with fail
     refine (h1.out _).mono ?_
     rintro _ _ ⟨rfl, rfl⟩
     go_wp2_with fail
     refine (h2.out _).mono ?_
     rintro _ _ ⟨rfl, rfl⟩
     go_wp2_with fail
     go_ret
     exact ⟨by rw [hr.out]; rfl, (Below.refl _ _).alloc (Nat.le_refl _) _⟩
end Go.Proofs.YtabclecmehdeoaaGreatDoor
end
