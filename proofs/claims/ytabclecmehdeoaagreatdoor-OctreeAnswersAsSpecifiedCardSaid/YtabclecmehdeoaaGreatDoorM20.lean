/- Set3, Prt, San: joined by program, for one claim. -/
import Derived.Test.YtabclecmehdeoaaGreatDoorMr
import Derived.Test.YtabclecmehdeoaaGreatDoorM19
import Derived.Laws.EntriesVeiled
section
namespace Go.Proofs.YtabclecmehdeoaaGreatDoor
open Go.RowKit Go.Sort Go.Maps
open Oct
theorem set_rec (ps pc pp pb sb : Nat) (c px py pz : Int) (hc : 0 ≤ c ∧ c ≤ 255) (hx : 0 ≤ px ∧ px ≤ 100000) (hy : 0 ≤ py ∧ py ≤ 100000) (hz : 0 ≤ pz ∧ pz ≤ 100000) (most : Int) (ts : List Tr) (hG : Good ts) : ∀ (n : Nat), n ≤ 12 → ∀ (w : World) (Far : Nat → Prop) (_HC : Bx (SCtx w Far ps pc pp pb sb c px py pz)) (t : Tr) (_ht : t ∈ ts) (_hD : Dep n t) (_hlen : (Tr.add (Tr.setT n t ⟨px, py, pz⟩ c) ts).length ≤ 1000000000000) (_hFar : ∀ k, Far k → k < w.heap.size) (_hS : StoreIs w Far sb most ts),
 Calls Tryz.prog 69 #[.int .i64 (idT ts t : Int), .int .i64 ((n : Int) + 2), .pointer (some ⟨ps, 0, none⟩), .pointer (some ⟨pc, 0, none⟩), .pointer (some ⟨pp, 0, none⟩), .pointer (some ⟨pb, 0, none⟩)] w (Grew Far sb most ts (Tr.add (Tr.setT n t ⟨px, py, pz⟩ c) ts) (Tr.setT n t ⟨px, py, pz⟩ c) w) := by
 intro n
 induction n with
 | zero =>
   intro hn w Far HC t ht hD hlen hFar hS
   have hl := Nat.le_trans (Tr.add_prefix (Tr.setT 0 t ⟨px, py, pz⟩ c) ts).length_le hlen
   rw [show (((0 : Nat) : Int) + 2) = 2 by decide]
   rcases dep_zero hD with ⟨c0, rfl⟩ | ⟨l, rfl⟩
   · exact set0_uni w Far ps pc pp pb sb c px py pz HC hc hx hy hz c0 most ts ht hG hl hFar hS
   · exact set0_brick w Far ps pc pp pb sb c px py pz HC hc hx hy hz l most ts ht hG hl hFar hS
 | succ n ih =>
   intro hn w Far HC t ht hD hlen hFar hS
   rw [show (((n + 1 : Nat) : Int) + 2) = (n : Int) + 3 by omega]
   have key : ∀ (tt : Tr), tt ∈ ts → Dep (n + 1) tt → (Tr.add (Tr.setT (n + 1) tt ⟨px, py, pz⟩ c) ts).length ≤ 1000000000000 → Bx (∀ (W : World) (Far' : Nat → Prop), SCtx W Far' ps pc pp pb sb c px py pz → (∀ k, Far' k → k < W.heap.size) → StoreIs W Far' sb most ts → Calls Tryz.prog 69 #[.int .i64 (idT ts (Tr.kid tt (Tr.oct n ⟨px, py, pz⟩)) : Int), .int .i64 ((n : Int) + 2), .pointer (some ⟨ps, 0, none⟩), .pointer (some ⟨pc, 0, none⟩), .pointer (some ⟨pp, 0, none⟩), .pointer (some ⟨pb, 0, none⟩)] W (Grew Far' sb most ts (Tr.add (Tr.setT n (Tr.kid tt (Tr.oct n ⟨px, py, pz⟩)) ⟨px, py, pz⟩ c) ts) (Tr.setT n (Tr.kid tt (Tr.oct n ⟨px, py, pz⟩)) ⟨px, py, pz⟩ c) W)) := fun tt htt hDt hlt => ⟨fun W Far' hC hF hSt => by
    refine ih (by omega) W Far' ⟨hC⟩ _ (kids_in hG htt _) (hDt.kid _) ?_ hF hSt
    have h1 := (inner_pre (d := n + 3) (ch := chS n tt ⟨px, py, pz⟩ c) hG).length_le
    rw [addK_chS hG htt, ← set_succ] at h1
    omega⟩
   cases hD with
   | uni _ c0 => exact set_uni w Far ps pc pp pb sb c px py pz HC hc hx hy hz c0 n (by omega) most ts ht (fun i => Dep.uni _ _) hG hlen hFar hS (key _ ht (Dep.uni _ _) hlen)
   | node _ ch hch => exact set_node w Far ps pc pp pb sb c px py pz HC hc hx hy hz ch n (by omega) most ts ht (fun i => hch i) hG hlen hFar hS (key _ ht (Dep.node n ch hch) hlen)
set_option maxHeartbeats 1000000 in
theorem set2_any (w : World) (Far : Nat → Prop) (ps pc pp pb sb pi pd : Nat) (c px py pz : Int) (HC : SCtx w Far ps pc pp pb sb c px py pz) (hc : 0 ≤ c ∧ c ≤ 255) (hx : 0 ≤ px ∧ px ≤ 100000) (hy : 0 ≤ py ∧ py ≤ 100000) (hz : 0 ≤ pz ∧ pz ≤ 100000) (most : Int) (ts : List Tr) (t : Tr) (ht : t ∈ ts) (n : Nat) (hn : n ≤ 12) (hD : Dep n t) (hG : Good ts) (hlen : (Tr.add (Tr.setT n t ⟨px, py, pz⟩ c) ts).length ≤ 1000000000000) (hFar : ∀ k, Far k → k < w.heap.size) (hS : StoreIs w Far sb most ts)
 (ki : Bk w pi #[.int .i64 (idT ts t : Int)] 3) (kd : Bk w pd #[.int .i64 ((n : Int) + 2)] 3) :
 Calls Tryz.prog 71 #[.pointer (some ⟨pb, 0, none⟩), .pointer (some ⟨pi, 0, none⟩), .pointer (some ⟨pd, 0, none⟩)] w (Grew Far sb most ts (Tr.add (Tr.setT n t ⟨px, py, pz⟩ c) ts) (Tr.setT n t ⟨px, py, pz⟩ c) w) := by
 have hb := Bx.mk (set_rec ps pc pp pb sb c px py pz hc hx hy hz most ts hG n hn w Far ⟨HC⟩ t ht hD hlen hFar hS)
 have ci := ki.cell 0 rfl
 have cd := kd.cell 0 rfl
 have cb := HC.kb.cell 0 rfl
 clear kd ki hlen hG hFar hS hD ht HC hc hx hy hz
 generalize (Tr.setT n t ⟨px, py, pz⟩ c) = T at *
 generalize (idT ts t : Int) = ii at *
 go_enter Tryz.func71, Tryz.ntmps71
 go_wp2_with fail
 refine hb.out.mono ?_
 rintro e w1 hg
 have Hg := Bx.mk hg
 obtain ⟨-, -, (⟨hf, rfl, hs⟩ | ⟨hf, rfl, us, hs⟩)⟩ := hg
 all_goals
  clear hf hs
  go_wp2_with fail
  go_ret2
  exact Hg.out
theorem in_range {n : Nat} (hn : n ≤ 12) {px py pz : Int} (h : inB ⟨px, py, pz⟩ (cubeB (2 ^ (n + 2))) = true) : (0 ≤ px ∧ px ≤ 100000) ∧ (0 ≤ py ∧ py ≤ 100000) ∧ (0 ≤ pz ∧ pz ≤ 100000) := by
 have hl := (pow_le (show n + 2 ≤ 14 by omega)).2
 have := inB_iff.1 h
 simp only [cubeB, Pt.zero] at this
 omega
set_option maxRecDepth 100000 in
set_option maxHeartbeats 1000000 in
theorem set_new (w : World) (sb n : Nat) (hn : n ≤ 12) (px py pz c : Int) (hI : inB ⟨px, py, pz⟩ (cubeB (2 ^ (n + 2))) = true) (hC : decide (0 ≤ c ∧ c ≤ 255) = true) (Far : Nat → Prop) (most : Int) (ts : List Tr) (t : Tr) (ht : t ∈ ts) (hD : Dep n t) (hG : Good ts) (hlen : ts.length ≤ 1000000000000) (hS : StoreIs w Far sb most ts) (hr : (Tr.getT t n ⟨px, py, pz⟩) ≠ c) (hlen2 : (Tr.add (Tr.setT n t ⟨px, py, pz⟩ c) ts).length ≤ 1000000000000) (hFar : ∀ k, Far k → k < w.heap.size) :
 Calls Tryz.prog 25 #[.pointer (some ⟨sb, 0, none⟩), .int .i64 (idT ts t : Int), .int .i64 ((n : Int) + 2), .agg #[.int .i64 px, .int .i64 py, .int .i64 pz], .int .i64 c] w (Done Far sb most ts (Tr.add (Tr.setT n t ⟨px, py, pz⟩ c) ts) (Tr.setT n t ⟨px, py, pz⟩ c) w) := by
 have hin := fun W => isIn_any (n + 2) (by omega) px py pz W
 have hcell := fun W => isCell_any c W
 rw [show ((n + 2 : Nat) : Int) = (n : Int) + 2 by omega] at hin
 simp only [hI] at hin
 simp only [hC] at hcell
 replace hin := Bx.mk hin
 replace hcell := Bx.mk hcell
 have hget := Bx.mk (fun W (hb : Below w.heap.size w W) => get_in W Far sb most ts t ht n hn hD hG hlen px py pz hI (hS.later hb))
 have hrc : ((Tr.getT t n ⟨px, py, pz⟩) == c) = false := by simpa using hr
 have hc : 0 ≤ c ∧ c ≤ 255 := by simpa using hC
 obtain ⟨rx, ry, rz⟩ := in_range hn hI
 have hbt := between_add (Tr.setT n t ⟨px, py, pz⟩ c) hG (wf_set hc ⟨px, py, pz⟩ n t (by omega) (wf_of_good hG _ ht) hD).1
 have HW := Bx.mk (fun W3 W5 hb pi pd kd ki hn5 HC => whole_set W5 (fun x => Far x ∨ (w.heap.size ≤ x ∧ x < W5.heap.size)) sb most ts (Tr.add (Tr.setT n t ⟨px, py, pz⟩ c) ts) (Tr.setT n t ⟨px, py, pz⟩ c) ⟨W3, 0, none⟩ ⟨pi, 0, none⟩ ⟨pd, 0, none⟩ hbt hlen2
  ((hS.widen (fun k hk => hk.imp id (fun h => h.1))).later hb)
  (set2_any W5 (fun x => Far x ∨ (w.heap.size ≤ x ∧ x < W5.heap.size)) w.heap.size (w.heap.size + 1 + 1 + 1 + 1) (w.heap.size + 1 + 1 + 1) W3 sb pi pd c px py pz HC hc rx ry rz most ts t ht n hn hD hG hlen2 (fun k hk => hk.elim (fun h => Nat.lt_of_lt_of_le (hFar k h) hn5) (fun h => h.2)) ((hS.widen (fun k hk => hk.imp id (fun h => h.1))).later hb) ki kd))
 clear hI hC hr ht hD hG hlen hS hlen2 hFar hc rx ry rz hbt
 generalize (Tr.setT n t ⟨px, py, pz⟩ c) = T at *
 generalize (Tr.getT t n ⟨px, py, pz⟩) = R at *
 generalize (idT ts t : Int) = ii at *
 go_enter Tryz.func25, Tryz.ntmps25
 go_upto_region 1 with fail
 generalize hW : World.alloc (World.alloc (World.alloc (World.alloc (World.alloc w _) _) _) _) _ = W
 have hSz : w.heap.size + 1 + 1 + 1 + 1 + 1 ≤ W.heap.size := by rw [← hW]; simp
 have hB : Below w.heap.size w W := by rw [← hW]; exact (((((Below.refl _ _).alloc (Nat.le_refl _) _).alloc (by simp) _).alloc (by simp; omega) _).alloc (by simp; omega) _).alloc (by simp; omega) _
 have kr : Bk W (w.heap.size) #[.pointer (some ⟨sb, 0, none⟩)] 32 := by rw [← hW]; exact blk_old (blk_old (blk_old (blk_old (blk_new _ _ _ (by simp)))))
 have ki : Bk W (w.heap.size + 1) #[.int .i64 ii] 3 := by rw [← hW]; exact blk_old (blk_old (blk_old (blk_new _ _ _ (by simp))))
 have kd : Bk W (w.heap.size + 1 + 1) #[.int .i64 ((n : Int) + 2)] 3 := by rw [← hW]; exact blk_old (blk_old (blk_new _ _ _ (by simp)))
 have kp : Bk W (w.heap.size + 1 + 1 + 1) #[.int .i64 px, .int .i64 py, .int .i64 pz] 23 := by rw [← hW]; exact blk_old (blk_new _ _ _ (by simp))
 have kc : Bk W (w.heap.size + 1 + 1 + 1 + 1) #[.int .i64 c] 3 := by rw [← hW]; exact blk_new _ _ _ (by simp)
 clear hW
 have cd0 := kd.cell 0 rfl
 obtain ⟨cp0, cp1, cp2⟩ := kp.c3
 go_wp2_with fail
 refine (hin.out _).mono ?_
 rintro e1 w1 ⟨rfl, hb⟩
 clear cd0 cp0 cp1 cp2
 replace hB := hB.trans (hb.mono hB.size)
 replace kr := kr.later hb
 replace ki := ki.later hb
 replace kd := kd.later hb
 replace kp := kp.later hb
 replace kc := kc.later hb
 replace hSz := Nat.le_trans hSz hb.size
 clear hb
 have cc0 := kc.cell 0 rfl
 go_wp2_with fail
 refine (hcell.out _).mono ?_
 rintro e2 w2 ⟨rfl, rfl⟩
 clear cc0
 go_wp2_with fail
 have cr0 : ∀ dk osk, (grow (redrawn w1 dk) osk).cell? ⟨w.heap.size, 0, none⟩ = some (.pointer (some ⟨sb, 0, none⟩)) := cell_regrown (kr.cell 0 rfl)
 have ci0 : ∀ dk osk, (grow (redrawn w1 dk) osk).cell? ⟨w.heap.size + 1, 0, none⟩ = some (.int .i64 ii) := cell_regrown (ki.cell 0 rfl)
 have cd0 : ∀ dk osk, (grow (redrawn w1 dk) osk).cell? ⟨w.heap.size + 1 + 1, 0, none⟩ = some (.int .i64 ((n : Int) + 2)) := cell_regrown (kd.cell 0 rfl)
 obtain ⟨cp0, cp1, cp2⟩ := kp.r3
 have cc0 : ∀ dk osk, (grow (redrawn w1 dk) osk).cell? ⟨w.heap.size + 1 + 1 + 1 + 1, 0, none⟩ = some (.int .i64 c) := cell_regrown (kc.cell 0 rfl)
 have q0 := Bx.mk fun dk osk => Calls.regrown_of (hget.out (grow (redrawn w1 dk) osk) (hB.trans ((below_regrown w1 dk osk).mono hB.size)))
 refine wp_region_quiet_below (by kernel_rfl) (by kernel_rfl) ?_
 repeat (first | go_big_quiet_step ((first | with_reducible exact q0.out _ _)) | quiet_step (first | with_reducible exact q0.out _ _))
 refine wpQuiet_nil ?_
 rintro _ ⟨⟨dq, osq⟩, rfl⟩
 have hb := below_regrown w1 dq osq
 clear cr0
 clear ci0
 clear cd0
 clear cp0 cp1 cp2
 clear cc0
 clear q0
 replace hB := hB.trans (hb.mono hB.size)
 replace kr := kr.later hb
 replace ki := ki.later hb
 replace kd := kd.later hb
 replace kp := kp.later hb
 replace kc := kc.later hb
 replace hSz := Nat.le_trans hSz hb.size
 clear hb
 generalize grow (redrawn w1 dq) osq = w3 at *
 have crr : ∀ o, (w3.alloc o).cell? ⟨w.heap.size, 0, none⟩ = some (.pointer (some ⟨sb, 0, none⟩)) := fun o => (kr.alloc o).cell 0 rfl
 go_wp2_with fail
 generalize hW5 : World.alloc w3 _ = W5
 have hb5 : Below w3.heap.size w3 W5 := by rw [← hW5]; exact below_lit _ _
 have kb : Bk W5 w3.heap.size #[.func (.func 69) #[] #[.pointer (some ⟨w.heap.size, 0, none⟩), .pointer (some ⟨w.heap.size + 1 + 1 + 1 + 1, 0, none⟩), .pointer (some ⟨w.heap.size + 1 + 1 + 1, 0, none⟩), .pointer (some ⟨w3.heap.size, 0, none⟩)]] 107 := by rw [← hW5]; exact blk_new _ _ _ rfl
 have hs5 : W5.heap.size = w3.heap.size + 1 := by rw [← hW5]; simp
 have hB5 := Bx.mk (hB.trans (hb5.mono hB.size))
 have HC : Bx (SCtx W5 (fun x => Far x ∨ (w.heap.size ≤ x ∧ x < W5.heap.size)) w.heap.size (w.heap.size + 1 + 1 + 1 + 1) (w.heap.size + 1 + 1 + 1) w3.heap.size sb c px py pz) := ⟨⟨kr.later hb5, kc.later hb5, kp.later hb5, kb, .inr ⟨by omega, by omega⟩, .inr ⟨by omega, by omega⟩, .inr ⟨by omega, by omega⟩, .inr ⟨by omega, by omega⟩⟩⟩
 have kd5 := Bx.mk (kd.later hb5)
 have ki5 := Bx.mk (ki.later hb5)
 clear hW5 kb hb5 crr kr kc kp kd ki
 refine (HW.out _ W5 hB5.out _ _ kd5.out ki5.out hB5.out.size HC.out).mono ?_
 rintro e9 w9 hg
 have Hg := Bx.mk (hg.since (Far := Far) hB5.out (fun k hk => .inl hk))
 obtain ⟨-, -, (⟨hf, rfl, hs⟩ | ⟨hf, rfl, hs⟩)⟩ := hg
 all_goals
  clear hf hs
  go_wp2_with fail
  go_ret2
  exact Hg.out
end Go.Proofs.YtabclecmehdeoaaGreatDoor
end
section
namespace Go.Proofs.YtabclecmehdeoaaGreatDoor
open Go.RowKit Go.Sort Go.Maps
open Oct
theorem i64_or_nat (a b : Nat) (ha : a < 4611686018427387904) (hb : b < 4611686018427387904) : bits .or .i64 (a : Int) (b : Int) = ((a ||| b : Nat) : Int) := by
 have hx : a ||| b < 2 ^ 62 := Nat.or_lt_two_pow (by omega) (by omega)
 show IntKind.i64.wrap ((BitVec.ofInt 64 (a : Int) ||| BitVec.ofInt 64 (b : Int)).toNat : Int) = _
 rw [BitVec.toNat_or, Go.ofInt_u64 a (by omega), Go.ofInt_u64 b (by omega)]
 exact wraps_i64 _ (by omega) (by omega)
def alB (L : Nat) (p : Pt) : Bool := decide (p.x % 2 ^ L = 0 ∧ p.y % 2 ^ L = 0 ∧ p.z % 2 ^ L = 0)
theorem al_bits (L : Nat) (hL : L ≤ 14) (px py pz : Int) (hx : 0 ≤ px ∧ px ≤ 100000) (hy : 0 ≤ py ∧ py ≤ 100000) (hz : 0 ≤ pz ∧ pz ≤ 100000) :
 ∃ q r : Int, bits .or .i64 (bits .or .i64 px py) pz = q ∧ bits .and .i64 q (2 ^ L - 1) = r ∧ (r != 0) = !alB L ⟨px, py, pz⟩ := by
 obtain ⟨a, rfl⟩ := Int.eq_ofNat_of_zero_le hx.1
 obtain ⟨b, rfl⟩ := Int.eq_ofNat_of_zero_le hy.1
 obtain ⟨c, rfl⟩ := Int.eq_ofNat_of_zero_le hz.1
 have h1 : a ||| b < 2 ^ 20 := Nat.or_lt_two_pow (by omega) (by omega)
 have h2 : a ||| b ||| c < 2 ^ 20 := Nat.or_lt_two_pow h1 (by omega)
 refine ⟨((a ||| b ||| c : Nat) : Int), (((a ||| b ||| c : Nat) : Int) % 2 ^ L), ?_, ?_, ?_⟩
 · rw [i64_or_nat a b (by omega) (by omega), i64_or_nat _ c (by omega) (by omega)]
 · have h62 : (2 : Int) ^ 62 = 4611686018427387904 := by decide
   exact bits_mask .i64 62 (by decide) wraps_i64 L (by omega) _ (by omega) (by rw [h62]; omega)
 · have e : (((a ||| b ||| c : Nat) : Int) % 2 ^ L) = (((a % 2 ^ L) ||| (b % 2 ^ L) ||| (c % 2 ^ L) : Nat) : Int) := by
    rw [← Nat.or_mod_two_pow, ← Nat.or_mod_two_pow]
    norm_cast
   rw [e]
   unfold alB
   rw [Bool.eq_iff_iff]
   simp only [bne_iff_ne, ne_eq, Bool.not_eq_true', decide_eq_false_iff_not]
   have e1 : ((a : Int) % 2 ^ L = 0) ↔ a % 2 ^ L = 0 := by norm_cast
   have e2 : ((b : Int) % 2 ^ L = 0) ↔ b % 2 ^ L = 0 := by norm_cast
   have e3 : ((c : Int) % 2 ^ L = 0) ↔ c % 2 ^ L = 0 := by norm_cast
   rw [e1, e2, e3]
   generalize a % 2 ^ L = x
   generalize b % 2 ^ L = y
   generalize c % 2 ^ L = z
   have e4 : (((x ||| y ||| z : Nat) : Int) = 0) ↔ (x = 0 ∧ y = 0 ∧ z = 0) := by
    rw [show (((x ||| y ||| z : Nat) : Int) = 0) ↔ (x ||| y ||| z = 0) by omega, Nat.or_eq_zero_iff, Nat.or_eq_zero_iff]
    omega
   rw [e4]
def partT : Tr → Nat → Nat → Pt → Tr
 | t, 0, _, _ => t
 | t, n + 1, L, p => if L < n + 3 then (match t with | .node _ ch => partT (ch (Tr.oct n p)) n L p | t => t) else t
theorem part_in (w : World) (sb n : Nat) (hn : n ≤ 12) (id px py pz lv : Int) (hI : inB ⟨px, py, pz⟩ (cubeB (2 ^ (n + 2))) = false) :
 Calls Tryz.prog 12 #[.pointer (some ⟨sb, 0, none⟩), .int .i64 id, .int .i64 ((n : Int) + 2), .agg #[.int .i64 px, .int .i64 py, .int .i64 pz], .int .i64 lv] w fun e w' => e = ret2 0 1 ∧ Below w.heap.size w w' := by
 have hin := fun W => isIn_any (n + 2) (by omega) px py pz W
 rw [show ((n + 2 : Nat) : Int) = (n : Int) + 2 by omega] at hin
 simp only [hI] at hin
 replace hin := Bx.mk hin
 clear hI
 go_enter Tryz.func12, Tryz.ntmps12
 go_wp2_with fail
 generalize hW : World.alloc w _ = W
 have hSz : w.heap.size + 1 ≤ W.heap.size := by rw [← hW]; simp
 have hB : Below w.heap.size w W := by rw [← hW]; exact (Below.refl _ _).alloc (Nat.le_refl _) _
 have kp : Bk W (w.heap.size) #[.int .i64 px, .int .i64 py, .int .i64 pz] 23 := by rw [← hW]; exact blk_new _ _ _ (by simp)
 clear hW
 obtain ⟨cp0, cp1, cp2⟩ := kp.r3
 have q0 := Bx.mk fun dk osk => Calls.regrown_of (hin.out (grow (redrawn W dk) osk))
 refine wp_region_quiet_below (by kernel_rfl) (by kernel_rfl) ?_
 repeat (first | go_big_quiet_step ((first | with_reducible exact q0.out _ _)) | quiet_step (first | with_reducible exact q0.out _ _))
 refine wpQuiet_nil ?_
 rintro _ ⟨⟨dq, osq⟩, rfl⟩
 have hb := below_regrown W dq osq
 clear cp0 cp1 cp2
 clear q0
 replace hB := hB.trans (hb.mono hB.size)
 replace kp := kp.later hb
 replace hSz := Nat.le_trans hSz hb.size
 clear hb
 generalize grow (redrawn W dq) osq = W1 at *
 go_wp2_with fail
 go_ret2
 exact ⟨rfl, hB⟩
theorem part_lo (w : World) (sb n : Nat) (hn : n ≤ 12) (id px py pz lv : Int) (hI : inB ⟨px, py, pz⟩ (cubeB (2 ^ (n + 2))) = true) (h1 : lv < 2) :
 Calls Tryz.prog 12 #[.pointer (some ⟨sb, 0, none⟩), .int .i64 id, .int .i64 ((n : Int) + 2), .agg #[.int .i64 px, .int .i64 py, .int .i64 pz], .int .i64 lv] w fun e w' => e = ret2 0 1 ∧ Below w.heap.size w w' := by
 have hin := fun W => isIn_any (n + 2) (by omega) px py pz W
 rw [show ((n + 2 : Nat) : Int) = (n : Int) + 2 by omega] at hin
 simp only [hI] at hin
 replace hin := Bx.mk hin
 have t1 : decide (lv < 2) = true := by simpa using h1
 clear hI
 go_enter Tryz.func12, Tryz.ntmps12
 go_wp2_with fail
 generalize hW : World.alloc w _ = W
 have hSz : w.heap.size + 1 ≤ W.heap.size := by rw [← hW]; simp
 have hB : Below w.heap.size w W := by rw [← hW]; exact (Below.refl _ _).alloc (Nat.le_refl _) _
 have kp : Bk W (w.heap.size) #[.int .i64 px, .int .i64 py, .int .i64 pz] 23 := by rw [← hW]; exact blk_new _ _ _ (by simp)
 clear hW
 obtain ⟨cp0, cp1, cp2⟩ := kp.r3
 have q0 := Bx.mk fun dk osk => Calls.regrown_of (hin.out (grow (redrawn W dk) osk))
 refine wp_region_quiet_below (by kernel_rfl) (by kernel_rfl) ?_
 repeat (first | go_big_quiet_step ((first | with_reducible exact q0.out _ _)) | quiet_step (first | with_reducible exact q0.out _ _))
 refine wpQuiet_nil ?_
 rintro _ ⟨⟨dq, osq⟩, rfl⟩
 have hb := below_regrown W dq osq
 clear cp0 cp1 cp2
 clear q0
 replace hB := hB.trans (hb.mono hB.size)
 replace kp := kp.later hb
 replace hSz := Nat.le_trans hSz hb.size
 clear hb
 generalize grow (redrawn W dq) osq = W1 at *
 go_wp2_with fail
 go_ret2
 exact ⟨rfl, hB⟩
theorem part_hi (w : World) (sb n : Nat) (hn : n ≤ 12) (id px py pz lv : Int) (hI : inB ⟨px, py, pz⟩ (cubeB (2 ^ (n + 2))) = true) (h1 : ¬ lv < 2) (h2 : (n : Int) + 2 < lv) :
 Calls Tryz.prog 12 #[.pointer (some ⟨sb, 0, none⟩), .int .i64 id, .int .i64 ((n : Int) + 2), .agg #[.int .i64 px, .int .i64 py, .int .i64 pz], .int .i64 lv] w fun e w' => e = ret2 0 1 ∧ Below w.heap.size w w' := by
 have hin := fun W => isIn_any (n + 2) (by omega) px py pz W
 rw [show ((n + 2 : Nat) : Int) = (n : Int) + 2 by omega] at hin
 simp only [hI] at hin
 replace hin := Bx.mk hin
 have t1 : decide (lv < 2) = false := by simpa using h1
 have t2 : decide ((n : Int) + 2 < lv) = true := by simpa using h2
 clear hI
 go_enter Tryz.func12, Tryz.ntmps12
 go_wp2_with fail
 generalize hW : World.alloc w _ = W
 have hSz : w.heap.size + 1 ≤ W.heap.size := by rw [← hW]; simp
 have hB : Below w.heap.size w W := by rw [← hW]; exact (Below.refl _ _).alloc (Nat.le_refl _) _
 have kp : Bk W (w.heap.size) #[.int .i64 px, .int .i64 py, .int .i64 pz] 23 := by rw [← hW]; exact blk_new _ _ _ (by simp)
 clear hW
 obtain ⟨cp0, cp1, cp2⟩ := kp.r3
 have q0 := Bx.mk fun dk osk => Calls.regrown_of (hin.out (grow (redrawn W dk) osk))
 refine wp_region_quiet_below (by kernel_rfl) (by kernel_rfl) ?_
 repeat (first | go_big_quiet_step ((first | with_reducible exact q0.out _ _)) | quiet_step (first | with_reducible exact q0.out _ _))
 refine wpQuiet_nil ?_
 rintro _ ⟨⟨dq, osq⟩, rfl⟩
 have hb := below_regrown W dq osq
 clear cp0 cp1 cp2
 clear q0
 replace hB := hB.trans (hb.mono hB.size)
 replace kp := kp.later hb
 replace hSz := Nat.le_trans hSz hb.size
 clear hb
 generalize grow (redrawn W dq) osq = W1 at *
 go_wp2_with fail
 go_ret2
 exact ⟨rfl, hB⟩
theorem part_al (w : World) (sb n L : Nat) (hn : n ≤ 12) (hL : 2 ≤ L) (hL2 : L ≤ n + 2) (id px py pz : Int) (hI : inB ⟨px, py, pz⟩ (cubeB (2 ^ (n + 2))) = true) (hA : alB L ⟨px, py, pz⟩ = false) :
 Calls Tryz.prog 12 #[.pointer (some ⟨sb, 0, none⟩), .int .i64 id, .int .i64 ((n : Int) + 2), .agg #[.int .i64 px, .int .i64 py, .int .i64 pz], .int .i64 (L : Int)] w fun e w' => e = ret2 0 1 ∧ Below w.heap.size w w' := by
 have hin := fun W => isIn_any (n + 2) (by omega) px py pz W
 rw [show ((n + 2 : Nat) : Int) = (n : Int) + 2 by omega] at hin
 simp only [hI] at hin
 replace hin := Bx.mk hin
 obtain ⟨rx, ry, rz⟩ := in_range hn hI
 obtain ⟨q, r, hq, hr, hrz⟩ := al_bits L (by omega) px py pz rx ry rz
 rw [hA] at hrz
 have hrz2 : (r == 0) = false := by simpa [bne] using hrz
 obtain ⟨mL, hmL⟩ : ∃ mL, mL = (2 : Int) ^ L := ⟨_, rfl⟩
 have hp : IntKind.i64.wrap ((2 : Int) ^ L) = mL := by rw [pow_wrap (by omega), hmL]
 have hml := pow_le (show L ≤ 14 by omega)
 rw [← hmL] at hr hml
 have hm1 : IntKind.i64.wrap (mL - 1) = mL - 1 := IntWalk.i64_in _ (by omega)
 have t1 : decide ((L : Int) < 2) = false := by simp; omega
 have t2 : decide ((n : Int) + 2 < (L : Int)) = false := by simp; omega
 clear hI hA rx ry rz hmL
 go_enter Tryz.func12, Tryz.ntmps12
 go_wp2_with fail
 generalize hW : World.alloc w _ = W
 have hSz : w.heap.size + 1 ≤ W.heap.size := by rw [← hW]; simp
 have hB : Below w.heap.size w W := by rw [← hW]; exact (Below.refl _ _).alloc (Nat.le_refl _) _
 have kp : Bk W (w.heap.size) #[.int .i64 px, .int .i64 py, .int .i64 pz] 23 := by rw [← hW]; exact blk_new _ _ _ (by simp)
 clear hW
 obtain ⟨cp0, cp1, cp2⟩ := kp.r3
 have q0 := Bx.mk fun dk osk => Calls.regrown_of (hin.out (grow (redrawn W dk) osk))
 refine wp_region_quiet_below (by kernel_rfl) (by kernel_rfl) ?_
 repeat (first | go_big_quiet_step ((first | with_reducible exact q0.out _ _)) | quiet_step (first | with_reducible exact q0.out _ _))
 refine wpQuiet_nil ?_
 rintro _ ⟨⟨dq, osq⟩, rfl⟩
 have hb := below_regrown W dq osq
 clear cp0 cp1 cp2
 clear q0
 replace hB := hB.trans (hb.mono hB.size)
 replace kp := kp.later hb
 replace hSz := Nat.le_trans hSz hb.size
 clear hb
 generalize grow (redrawn W dq) osq = W1 at *
 go_wp2_with fail
 go_ret2
 exact ⟨rfl, hB⟩
theorem partT_stop {u : Tr} {m L : Nat} {p : Pt} (h : m + 2 ≤ L) : partT u m L p = u := by
 cases m with
 | zero => rw [partT]
 | succ m => unfold partT; rw [if_neg (by omega)]
theorem partT_uni {c : Int} {m L : Nat} {p : Pt} : partT (.uni c) m L p = .uni c := by
 cases m with
 | zero => rw [partT]
 | succ m => unfold partT; split <;> rfl
theorem partT_node {ch : Fin 8 → Tr} {m L d : Nat} {p : Pt} (h : L < m + 3) : partT (.node d ch) (m + 1) L p = partT (ch (Tr.oct m p)) m L p := by
 conv => lhs; unfold partT
 rw [if_pos h]
theorem partT_in {ts : List Tr} (hG : Good ts) (L : Nat) (p : Pt) : ∀ (m : Nat) (u : Tr), u ∈ ts → Dep m u → partT u m L p ∈ ts := by
 intro m
 induction m with
 | zero => intro u h _; rw [partT]; exact h
 | succ m ih =>
   intro u h hD
   by_cases hL : L < m + 3
   · cases hD with
     | uni _ c => rw [partT_uni]; exact h
     | node _ ch hch => rw [partT_node hL]; exact ih _ (hG.closed.2 _ _ h _) (hch _)
   · rw [partT_stop (by omega)]; exact h
theorem node_kid_at {w : World} {g i : Nat} {ts : List Tr} {ch : Fin 8 → Tr} {v0 v1 v2 v3 : Value} (hc : ∀ j u, j < 12 → (#[v0, v1, v2, v3, .int .i64 (idT ts (ch 0) : Int), .int .i64 (idT ts (ch 1) : Int), .int .i64 (idT ts (ch 2) : Int), .int .i64 (idT ts (ch 3) : Int), .int .i64 (idT ts (ch 4) : Int), .int .i64 (idT ts (ch 5) : Int), .int .i64 (idT ts (ch 6) : Int), .int .i64 (idT ts (ch 7) : Int)] : Array Value).toList[j]? = some u → w.cell? ⟨g, i * 12 + j, none⟩ = some u) : ∀ k : Fin 8, w.cell? ⟨g, i * 12 + 4 + k.val, none⟩ = some (.int .i64 (idT ts (ch k) : Int)) :=
 fun k => by
  rw [Nat.add_assoc]
  exact fin8 (P := fun k => w.cell? ⟨g, i * 12 + (4 + k.val), none⟩ = some (.int .i64 (idT ts (ch k) : Int))) (hc 4 _ (by omega) rfl) (hc 5 _ (by omega) rfl) (hc 6 _ (by omega) rfl) (hc 7 _ (by omega) rfl) (hc 8 _ (by omega) rfl) (hc 9 _ (by omega) rfl) (hc 10 _ (by omega) rfl) (hc 11 _ (by omega) rfl) k
set_option maxRecDepth 100000 in
set_option maxHeartbeats 1000000 in
theorem part_ok (w : World) (sb n L : Nat) (hn : n ≤ 12) (hL : 2 ≤ L) (hL2 : L ≤ n + 2) (px py pz : Int) (hI : inB ⟨px, py, pz⟩ (cubeB (2 ^ (n + 2))) = true) (hA : alB L ⟨px, py, pz⟩ = true) (Far : Nat → Prop) (most : Int) (ts : List Tr) (t : Tr) (ht : t ∈ ts) (hD : Dep n t) (hG : Good ts) (_hlen : ts.length ≤ 1000000000000) (hS : StoreIs w Far sb most ts) :
 Calls Tryz.prog 12 #[.pointer (some ⟨sb, 0, none⟩), .int .i64 (idT ts t : Int), .int .i64 ((n : Int) + 2), .agg #[.int .i64 px, .int .i64 py, .int .i64 pz], .int .i64 (L : Int)] w fun e w' => e = ret2 (idT ts (partT t n L ⟨px, py, pz⟩) : Int) 0 ∧ Below w.heap.size w w' := by
 have hin := fun W => isIn_any (n + 2) (by omega) px py pz W
 rw [show ((n + 2 : Nat) : Int) = (n : Int) + 2 by omega] at hin
 simp only [hI] at hin
 replace hin := Bx.mk hin
 obtain ⟨rx, ry, rz⟩ := in_range hn hI
 obtain ⟨q, r, hq, hr, hrz⟩ := al_bits L (by omega) px py pz rx ry rz
 rw [hA] at hrz
 have hrz2 : (r == 0) = true := by simpa [bne] using hrz
 obtain ⟨mL, hmL⟩ : ∃ mL, mL = (2 : Int) ^ L := ⟨_, rfl⟩
 have hp : IntKind.i64.wrap ((2 : Int) ^ L) = mL := by rw [pow_wrap (by omega), hmL]
 have hml := pow_le (show L ≤ 14 by omega)
 rw [← hmL] at hr hml
 have hm1 : IntKind.i64.wrap (mL - 1) = mL - 1 := IntWalk.i64_in _ (by omega)
 have t1 : decide ((L : Int) < 2) = false := by simp; omega
 have t2 : decide ((n : Int) + 2 < (L : Int)) = false := by simp; omega
 obtain ⟨rr, hrr⟩ : ∃ rr, rr = partT t n L ⟨px, py, pz⟩ := ⟨_, rfl⟩
 have HR : Bx (t ∈ ts ∧ Dep n t ∧ partT t n L ⟨px, py, pz⟩ = rr) := Bx.mk (And.intro ht (And.intro hD hrr.symm))
 rw [← hrr]
 have HX := Bx.mk (And.intro rx (And.intro ry rz))
 have HS := Bx.mk hS
 have HG := Bx.mk hG
 clear hI hA rx ry rz hmL hrr ht hD hS hG
 go_enter Tryz.func12, Tryz.ntmps12
 go_wp2_with fail
 generalize hW : World.alloc w _ = W
 have hSz : w.heap.size + 1 ≤ W.heap.size := by rw [← hW]; simp
 have hB : Below w.heap.size w W := by rw [← hW]; exact (Below.refl _ _).alloc (Nat.le_refl _) _
 have kp : Bk W (w.heap.size) #[.int .i64 px, .int .i64 py, .int .i64 pz] 23 := by rw [← hW]; exact blk_new _ _ _ (by simp)
 clear hW
 obtain ⟨cp0, cp1, cp2⟩ := kp.r3
 have q0 := Bx.mk fun dk osk => Calls.regrown_of (hin.out (grow (redrawn W dk) osk))
 refine wp_region_quiet_below (by kernel_rfl) (by kernel_rfl) ?_
 repeat (first | go_big_quiet_step ((first | with_reducible exact q0.out _ _)) | quiet_step (first | with_reducible exact q0.out _ _))
 refine wpQuiet_nil ?_
 rintro _ ⟨⟨dq, osq⟩, rfl⟩
 have hb := below_regrown W dq osq
 clear cp0 cp1 cp2
 clear q0
 replace hB := hB.trans (hb.mono hB.size)
 replace kp := kp.later hb
 replace hSz := Nat.le_trans hSz hb.size
 clear hb
 generalize grow (redrawn W dq) osq = W1 at *
 go_wp2_with fail
 have HB := Bx.mk hB
 have HP := Bx.mk kp
 clear hB hSz kp hq hr hrz hrz2 hp hm1 t1 t2 hin
 go_loopw [1, 2] (fun vi vd wr => ∃ (m : Nat) (u : Tr), vi = .int .i64 (idT ts u : Int) ∧ vd = .int .i64 ((m : Int) + 2) ∧ m ≤ 12 ∧ Bx (u ∈ ts ∧ Dep m u ∧ partT u m L ⟨px, py, pz⟩ = rr) ∧ Bx (Below w.heap.size w wr) ∧ Bx (Bk wr w.heap.size #[.int .i64 px, .int .i64 py, .int .i64 pz] 23)) (fun _ vd _ => (intOf vd).toNat)
 case atStart => exact ⟨n, t, rfl, rfl, hn, HR, HB, HP⟩
 case round =>
  clear HR HB HP
  obtain ⟨m, u, rfl, rfl, hm, HR, HB, HP⟩ := hrel
  obtain ⟨hu, hD, hr⟩ := HR.out
  by_cases hlt : L < m + 2
  · have t3 : decide ((L : Int) < (m : Int) + 2) = true := by simp; omega
    have hSr := HS.out.later HB.out
    cases hD with
    | brick l => omega
    | uni _ c =>
      obtain ⟨g, cap, mb, ks, hi, hc⟩ := Bx.node hSr hu (k := 1) (c := c) rfl
      have hru : Bx (Tr.uni c = rr) := ⟨by rw [← hr, partT_uni]⟩
      have cs1 := ks.cell 1 rfl
      have d0 := hc.out 0 _ (by omega) rfl
      rw [Nat.add_zero] at d0
      have b1 : (0 : Int) ≤ (idT ts (.uni c) : Int) := by omega
      have b2 : (idT ts (.uni c) : Int) < (ts.length : Int) := by omega
      clear ks hc hSr hu hr HR HX HS HG
      go_wp2_with fail
      go_ret2
      exact ⟨congrArg (fun x => ret2 (idT ts x : Int) 0) hru.out, HB.out⟩
    | node m ch hch =>
      obtain ⟨g, cap, mb, ks, hi, hc⟩ := Bx.node hSr hu (k := 3) (s := ByteArray.empty) rfl
      have HR2 : Bx (ch (Tr.oct m ⟨px, py, pz⟩) ∈ ts ∧ Dep m (ch (Tr.oct m ⟨px, py, pz⟩)) ∧ partT (ch (Tr.oct m ⟨px, py, pz⟩)) m L ⟨px, py, pz⟩ = rr) := ⟨HG.out.closed.2 _ _ hu _, hch _, by rw [← hr, partT_node (by omega)]⟩
      have cs1 := ks.cell 1 rfl
      have d0 := hc.out 0 _ (by omega) rfl
      rw [Nat.add_zero] at d0
      have nk := node_kid_at hc.out (Tr.oct m ⟨px, py, pz⟩)
      have b1 : (0 : Int) ≤ (idT ts (.node (m + 3) ch) : Int) := by omega
      have b2 : (idT ts (.node (m + 3) ch) : Int) < (ts.length : Int) := by omega
      have hoct := Bx.mk (fun W dd hd => octant_at m (by omega) dd hd px py pz HX.out.1 HX.out.2.1 HX.out.2.2 W)
      have Ks := Bx.mk ks
      have Nk := Bx.mk nk
      clear ks hc hSr hu hr HR HX HS HG nk hch
      generalize hok : Tr.oct m ⟨px, py, pz⟩ = ok at *
      clear hok
      have hkid : (0 : Int) ≤ (idT ts (ch ok) : Int) := by omega
      go_wp2_with fail
      have s1 : ∀ dk osk, (grow (redrawn wr dk) osk).cell? ⟨sb, 1, none⟩ = some (.slice (some ⟨g, 0, none⟩) ts.length cap) := cell_regrown (Ks.out.cell 1 rfl)
      have n1 : ∀ dk osk, (grow (redrawn wr dk) osk).cell? ⟨g, idT ts (.node (m + 3) ch) * 12 + 4 + ok.val, none⟩ = some (.int .i64 (idT ts (ch ok) : Int)) := cell_regrown Nk.out
      have b3 : (0 : Int) ≤ (ok.val : Int) := by omega
      have b4 : (ok.val : Int) < 8 := by have := ok.isLt; omega
      have kp := HP.out
      have hB := HB.out
      have hSz : w.heap.size ≤ wr.heap.size := hB.size
      clear HB HP cs1 d0
      obtain ⟨cp0, cp1, cp2⟩ := kp.r3
      have q0 := Bx.mk fun dk osk => Calls.regrown_of (hoct.out (grow (redrawn wr dk) osk) ((m : Int) + 1 + 2) (by omega))
      refine wp_region_quiet_below (by kernel_rfl) (by kernel_rfl) ?_
      repeat (first | go_big_quiet_step ((first | with_reducible exact q0.out _ _)) | quiet_step (first | with_reducible exact q0.out _ _))
      refine wpQuiet_nil ?_
      rintro _ ⟨⟨dq, osq⟩, rfl⟩
      have hb := below_regrown wr dq osq
      clear cp0 cp1 cp2
      clear q0
      replace hB := hB.trans (hb.mono hB.size)
      replace kp := kp.later hb
      replace hSz := Nat.le_trans hSz hb.size
      clear hb
      generalize grow (redrawn wr dq) osq = w4 at *
      clear s1 n1
      have HB := Bx.mk hB
      have HP := Bx.mk kp
      clear hB kp hSz hoct
      go_wp2_with fail
      go_roundw
      case rel => exact ⟨m, _, rfl, by go_num, by omega, HR2, HB, HP⟩
      case measure => simp [intOf]; omega
  · have t3 : decide ((L : Int) < (m : Int) + 2) = false := by simp; omega
    have hru : Bx (u = rr) := ⟨by rw [← hr, partT_stop (by omega)]⟩
    clear HX HS HG HR hu hD hr
    go_wp2_with fail
    go_ret2
    exact ⟨congrArg (fun x => ret2 (idT ts x : Int) 0) hru.out, HB.out⟩
end Go.Proofs.YtabclecmehdeoaaGreatDoor
end
section
namespace Go.Proofs.YtabclecmehdeoaaGreatDoor
open Go.RowKit Go.Sort Go.Maps
open Oct
attribute [local go_sem ↓] Go.wp_at_zero Go.wp_at_succ
theorem at_any' (x y z : Int) (w : World) :
 Calls Tryz.prog 24 #[.int .i64 x, .int .i64 y, .int .i64 z] w fun e w' => e = .returned (.agg #[.int .i64 x, .int .i64 y, .int .i64 z]) ∧ Below w.heap.size w w' := by
 go_enter Tryz.func24, Tryz.ntmps24
 go_wp2
 exact bodyPost_ret (v := .agg #[.int .i64 x, .int .i64 y, .int .i64 z]) (by simp [results, Tryz.results24, go_sem]) rfl ⟨rfl, (Below.refl _ _).alloc (Nat.le_refl _) _⟩
theorem one_any (x y z c : Int) (hx : -100000 ≤ x ∧ x ≤ 100000) (hy : -100000 ≤ y ∧ y ≤ 100000) (hz : -100000 ≤ z ∧ z ≤ 100000) (w : World) :
 Calls Tryz.prog 23 #[.agg #[.int .i64 x, .int .i64 y, .int .i64 z], .int .i64 c] w fun e w' => ∃ a, e = .returned (.agg #[.int .i64 x, .int .i64 y, .int .i64 z, .int .i64 (x + 1), .int .i64 (y + 1), .int .i64 (z + 1), .slice a 1 1]) ∧ Sl w' .i64 a [c] ∧ (∀ b, a.map (·.block) = some b → w.heap.size ≤ b ∧ b < w'.heap.size) ∧ Below w.heap.size w w' := by
 have hat := Bx.mk (fun X Y Z W => at_any' X Y Z W)
 have e1 : IntKind.i64.wrap (x + 1) = x + 1 := IntWalk.i64_in _ (by omega)
 have e2 : IntKind.i64.wrap (y + 1) = y + 1 := IntWalk.i64_in _ (by omega)
 have e3 : IntKind.i64.wrap (z + 1) = z + 1 := IntWalk.i64_in _ (by omega)
 clear hx hy hz
 go_enter Tryz.func23, Tryz.ntmps23
 go_wp2_with fail
 generalize hW : World.alloc (World.alloc w _) _ = W
 have hSz : w.heap.size + 1 + 1 ≤ W.heap.size := by rw [← hW]; simp
 have hB : Below w.heap.size w W := by rw [← hW]; exact ((Below.refl _ _).alloc (Nat.le_refl _) _).alloc (by simp) _
 have kp : Bk W (w.heap.size) #[.int .i64 x, .int .i64 y, .int .i64 z] 23 := by rw [← hW]; exact blk_old (blk_new _ _ _ (by simp))
 have kr : Bk W (w.heap.size + 1) #[.int .i64 0, .int .i64 0, .int .i64 0, .int .i64 0, .int .i64 0, .int .i64 0, .slice none 0 0] 28 := by rw [← hW]; exact blk_new _ _ _ (by simp)
 clear hW
 obtain ⟨cp0, cp1, cp2⟩ := kp.c3
 obtain ⟨cr0, cr1, cr2, cr3, cr4, cr5, cr6⟩ := kr.c7
 obtain ⟨fr0, fr1, fr2, fr3, fr4, fr5, fr6⟩ := kr.f7
 go_region_held3 (fun w' => w'.cell? ⟨w.heap.size, 0, none⟩ = some (.int .i64 x) ∧ w'.cell? ⟨w.heap.size, 1, none⟩ = some (.int .i64 y) ∧ w'.cell? ⟨w.heap.size, 2, none⟩ = some (.int .i64 z))
  (first | go_keep | (dsimp only; and_intros <;> assumption))
  ((go_at_call 24; refine (hat.out _ _ _ _).mono ?_; rintro e4 w4 ⟨rfl, hb4⟩; have kp4 : Bk w4 w.heap.size #[.int .i64 x, .int .i64 y, .int .i64 z] 23 := (by first | exact kp.drew.later hb4 | exact (kp.alloc _).drew.later hb4); have kr4 : Bk w4 (w.heap.size + 1) #[.int .i64 0, .int .i64 0, .int .i64 0, .int .i64 0, .int .i64 0, .int .i64 0, .slice none 0 0] 28 := (by first | exact kr.drew.later hb4 | exact (kr.alloc _).drew.later hb4); have c40 := kp4.cell 0 rfl; have c41 := kp4.cell 1 rfl; have c42 := kp4.cell 2 rfl; have cr40 := kr4.cell 0 rfl; have fr40 := kr4.frozen 0; have ca0 : ∀ o, (w4.alloc o).cell? ⟨w.heap.size + 1, 0, none⟩ = some (.int .i64 0) := (fun o => (kr4.alloc o).cell 0 rfl); have fa0 : ∀ o, (w4.alloc o).frozen? ⟨w.heap.size + 1, 0, none⟩ = false := (fun o => (kr4.alloc o).frozen 0); have cr41 := kr4.cell 1 rfl; have fr41 := kr4.frozen 1; have ca1 : ∀ o, (w4.alloc o).cell? ⟨w.heap.size + 1, 1, none⟩ = some (.int .i64 0) := (fun o => (kr4.alloc o).cell 1 rfl); have fa1 : ∀ o, (w4.alloc o).frozen? ⟨w.heap.size + 1, 1, none⟩ = false := (fun o => (kr4.alloc o).frozen 1); have cr42 := kr4.cell 2 rfl; have fr42 := kr4.frozen 2; have ca2 : ∀ o, (w4.alloc o).cell? ⟨w.heap.size + 1, 2, none⟩ = some (.int .i64 0) := (fun o => (kr4.alloc o).cell 2 rfl); have fa2 : ∀ o, (w4.alloc o).frozen? ⟨w.heap.size + 1, 2, none⟩ = false := (fun o => (kr4.alloc o).frozen 2); have cr43 := kr4.cell 3 rfl; have fr43 := kr4.frozen 3; have ca3 : ∀ o, (w4.alloc o).cell? ⟨w.heap.size + 1, 3, none⟩ = some (.int .i64 0) := (fun o => (kr4.alloc o).cell 3 rfl); have fa3 : ∀ o, (w4.alloc o).frozen? ⟨w.heap.size + 1, 3, none⟩ = false := (fun o => (kr4.alloc o).frozen 3); have cr44 := kr4.cell 4 rfl; have fr44 := kr4.frozen 4; have ca4 : ∀ o, (w4.alloc o).cell? ⟨w.heap.size + 1, 4, none⟩ = some (.int .i64 0) := (fun o => (kr4.alloc o).cell 4 rfl); have fa4 : ∀ o, (w4.alloc o).frozen? ⟨w.heap.size + 1, 4, none⟩ = false := (fun o => (kr4.alloc o).frozen 4); have cr45 := kr4.cell 5 rfl; have fr45 := kr4.frozen 5; have ca5 : ∀ o, (w4.alloc o).cell? ⟨w.heap.size + 1, 5, none⟩ = some (.int .i64 0) := (fun o => (kr4.alloc o).cell 5 rfl); have fa5 : ∀ o, (w4.alloc o).frozen? ⟨w.heap.size + 1, 5, none⟩ = false := (fun o => (kr4.alloc o).frozen 5); have cr46 := kr4.cell 6 rfl; have fr46 := kr4.frozen 6; have ca6 : ∀ o, (w4.alloc o).cell? ⟨w.heap.size + 1, 6, none⟩ = some (.slice none 0 0) := (fun o => (kr4.alloc o).cell 6 rfl); have fa6 : ∀ o, (w4.alloc o).frozen? ⟨w.heap.size + 1, 6, none⟩ = false := (fun o => (kr4.alloc o).frozen 6)))
 · have hs4 : w.heap.size + 1 + 1 ≤ w4.heap.size := Nat.le_trans hSz hb4.size
   have hB4 : Below w.heap.size w w4 := hB.trans ((Below.refl W.heap.size W).drew.trans hb4 |>.mono hB.size)
   clear c40 c41 c42 cr40 fr40 ca0 fa0 cr41 fr41 ca1 fa1 cr42 fr42 ca2 fa2 cr43 fr43 ca3 fa3 cr44 fr44 ca4 fa4 cr45 fr45 ca5 fa5 cr46 fr46 ca6 fa6 cr0 fr0 cr1 fr1 cr2 fr2 cr3 fr3 cr4 fr4 cr5 fr5 cr6 fr6 cp0 cp1 cp2
   have kz := (kr4.alloc (.cells #[.int .i64 c] 3)).put7 (.int .i64 x) (.int .i64 y) (.int .i64 z) (.int .i64 (x + 1)) (.int .i64 (y + 1)) (.int .i64 (z + 1)) (.slice (some ⟨w4.heap.size, 0, none⟩) 1 1)
   have hgz := grown_set (grown_set (grown_set (grown_set (grown_set (grown_set (grown_set (World.grownBy.refl (w4.alloc (.cells #[.int .i64 c] 3)) (some (w.heap.size + 1))) 0 (.int .i64 x)) 1 (.int .i64 y)) 2 (.int .i64 z)) 3 (.int .i64 (x + 1))) 4 (.int .i64 (y + 1))) 5 (.int .i64 (z + 1))) 6 (.slice (some ⟨w4.heap.size, 0, none⟩) 1 1)
   have ksz := Bx.mk ((Bk.new w4 #[.int .i64 c] 3).grownO hgz (by simp; omega))
   have hbz := Bx.mk (blw7 (hB4.alloc hB4.size (.cells #[.int .i64 c] 3)) (show w.heap.size ≤ w.heap.size + 1 by omega) (.int .i64 x) (.int .i64 y) (.int .i64 z) (.int .i64 (x + 1)) (.int .i64 (y + 1)) (.int .i64 (z + 1)) (.slice (some ⟨w4.heap.size, 0, none⟩) 1 1))
   clear hgz
   go_wp2_with fail
   exact bodyPost_ret (v := .agg #[.int .i64 x, .int .i64 y, .int .i64 z, .int .i64 (x + 1), .int .i64 (y + 1), .int .i64 (z + 1), .slice (some ⟨w4.heap.size, 0, none⟩) 1 1]) (results_cell_row rfl _ _ _ 28 #[.int .i64 x, .int .i64 y, .int .i64 z, .int .i64 (x + 1), .int .i64 (y + 1), .int .i64 (z + 1), .slice (some ⟨w4.heap.size, 0, none⟩) 1 1] (0, 0) _ rfl kz Tryz.underlying28 rfl (by kernel_rfl)) rfl ⟨_, rfl, fun i x hx => (by
    cases i with
    | zero => simp at hx; subst hx; exact ⟨_, 0, rfl, ksz.out.cell 0 rfl⟩
    | succ i => simp at hx), (fun b hb => by simp only [Option.map_some, Option.some.injEq] at hb; subst hb; exact ⟨by omega, ksz.out.lt⟩), hbz.out⟩
 · have ks4 : Bk w4 W.heap.size #[.int .i64 c] 3 := Bk.later (Bk.new W #[.int .i64 c] 3).drew hb4
   have hB4 : Below w.heap.size w w4 := hB.trans (((below_lit W (.cells #[.int .i64 c] 3)).drew.trans (Below.mono hb4 (below_lit W (.cells #[.int .i64 c] 3)).size)).mono hB.size)
   clear c40 c41 c42 cr40 fr40 ca0 fa0 cr41 fr41 ca1 fa1 cr42 fr42 ca2 fa2 cr43 fr43 ca3 fa3 cr44 fr44 ca4 fa4 cr45 fr45 ca5 fa5 cr46 fr46 ca6 fa6 cr0 fr0 cr1 fr1 cr2 fr2 cr3 fr3 cr4 fr4 cr5 fr5 cr6 fr6 cp0 cp1 cp2
   have kz := (kr4).put7 (.int .i64 x) (.int .i64 y) (.int .i64 z) (.int .i64 (x + 1)) (.int .i64 (y + 1)) (.int .i64 (z + 1)) (.slice (some ⟨W.heap.size, 0, none⟩) 1 1)
   have hgz := grown_set (grown_set (grown_set (grown_set (grown_set (grown_set (grown_set (World.grownBy.refl w4 (some (w.heap.size + 1))) 0 (.int .i64 x)) 1 (.int .i64 y)) 2 (.int .i64 z)) 3 (.int .i64 (x + 1))) 4 (.int .i64 (y + 1))) 5 (.int .i64 (z + 1))) 6 (.slice (some ⟨W.heap.size, 0, none⟩) 1 1)
   have ksz := Bx.mk ((ks4).grownO hgz (by simp; omega))
   have hbz := Bx.mk (blw7 (hB4) (show w.heap.size ≤ w.heap.size + 1 by omega) (.int .i64 x) (.int .i64 y) (.int .i64 z) (.int .i64 (x + 1)) (.int .i64 (y + 1)) (.int .i64 (z + 1)) (.slice (some ⟨W.heap.size, 0, none⟩) 1 1))
   clear hgz
   go_wp2_with fail
   exact bodyPost_ret (v := .agg #[.int .i64 x, .int .i64 y, .int .i64 z, .int .i64 (x + 1), .int .i64 (y + 1), .int .i64 (z + 1), .slice (some ⟨W.heap.size, 0, none⟩) 1 1]) (results_cell_row rfl _ _ _ 28 #[.int .i64 x, .int .i64 y, .int .i64 z, .int .i64 (x + 1), .int .i64 (y + 1), .int .i64 (z + 1), .slice (some ⟨W.heap.size, 0, none⟩) 1 1] (0, 0) _ rfl kz Tryz.underlying28 rfl (by kernel_rfl)) rfl ⟨_, rfl, fun i x hx => (by
    cases i with
    | zero => simp at hx; subst hx; exact ⟨_, 0, rfl, ksz.out.cell 0 rfl⟩
    | succ i => simp at hx), (fun b hb => by simp only [Option.map_some, Option.some.injEq] at hb; subst hb; exact ⟨by omega, ksz.out.lt⟩), hbz.out⟩
end Go.Proofs.YtabclecmehdeoaaGreatDoor
end
