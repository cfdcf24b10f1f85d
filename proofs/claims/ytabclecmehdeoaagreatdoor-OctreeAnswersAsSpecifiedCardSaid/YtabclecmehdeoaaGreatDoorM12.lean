/- Get, Pla: joined by program, for one claim. -/
import Derived.Test.YtabclecmehdeoaaGreatDoorM11
import Derived.Test.YtabclecmehdeoaaGreatDoorM7
section
namespace Go.Proofs.YtabclecmehdeoaaGreatDoor
open Go.RowKit Go.Sort Go.Maps
open Oct
inductive Dep : Nat → Tr → Prop
 | uni (n : Nat) (c : Int) : Dep n (.uni c)
 | brick (l : List Int) : Dep 0 (.brick l)
 | node (n : Nat) (ch : Fin 8 → Tr) (h : ∀ i, Dep n (ch i)) : Dep (n + 1) (.node (n + 3) ch)
theorem octant_at (m : Nat) (hm : m ≤ 12) (dd : Int) (hd : dd = (m : Int) + 3) (px py pz : Int) (hx : 0 ≤ px ∧ px ≤ 100000) (hy : 0 ≤ py ∧ py ≤ 100000) (hz : 0 ≤ pz ∧ pz ≤ 100000) (w : World) :
 Calls Tryz.prog 38 #[.int .i64 dd, .agg #[.int .i64 px, .int .i64 py, .int .i64 pz]] w fun e w' => e = .returned (.int .i64 ((Tr.oct m ⟨px, py, pz⟩).val : Int)) ∧ Below w.heap.size w w' := by
 subst hd
 have h := octant_any (m + 2) (by omega) px py pz hx hy hz w
 rw [show ((m + 2 + 1 : Nat) : Int) = (m : Int) + 3 by omega] at h
 refine h.mono ?_
 rintro e w' ⟨rfl, hb⟩
 refine ⟨ret_int ?_, hb⟩
 unfold Tr.oct Tr.octN
 simp only []
 omega
theorem get_out (w : World) (sb : Nat) (i : Int) (n : Nat) (hn : n ≤ 14) (px py pz : Int) (h : inB ⟨px, py, pz⟩ (cubeB (2 ^ n)) = false) :
 Calls Tryz.prog 15 #[.pointer (some ⟨sb, 0, none⟩), .int .i64 i, .int .i64 (n : Int), .agg #[.int .i64 px, .int .i64 py, .int .i64 pz]] w fun e w' => e = .returned (.int .i64 0) ∧ Below w.heap.size w w' := by
 have h1 := Bx.mk (fun W => isIn_any n hn px py pz W)
 rw [h] at h1
 clear h
 go_enter Tryz.func15, Tryz.ntmps15
 go_wp2_with fail
 generalize hW : World.alloc w _ = W
 have hSz : w.heap.size + 1 ≤ W.heap.size := by rw [← hW]; simp
 have hB : Below w.heap.size w W := by rw [← hW]; exact (Below.refl _ _).alloc (Nat.le_refl _) _
 have kp : Bk W (w.heap.size) #[.int .i64 px, .int .i64 py, .int .i64 pz] 23 := by rw [← hW]; exact blk_new _ _ _ (by simp)
 clear hW
 refine (h1.out _).mono ?_
 rintro e w1 ⟨rfl, hb⟩
 have hB2 := hB.trans (hb.mono hB.size)
 go_wp2_with fail
 go_ret
 exact ⟨rfl, hB2⟩
theorem node_kid {w : World} {b : Nat} {ts : List Tr} {ch : Fin 8 → Tr} {v0 v1 v2 v3 : Value} (h : Bk w b #[v0, v1, v2, v3, .int .i64 (idT ts (ch 0) : Int), .int .i64 (idT ts (ch 1) : Int), .int .i64 (idT ts (ch 2) : Int), .int .i64 (idT ts (ch 3) : Int), .int .i64 (idT ts (ch 4) : Int), .int .i64 (idT ts (ch 5) : Int), .int .i64 (idT ts (ch 6) : Int), .int .i64 (idT ts (ch 7) : Int)] 72) : ∀ k : Fin 8, w.cell? ⟨b, 4 + k.val, none⟩ = some (.int .i64 (idT ts (ch k) : Int)) :=
 fin8 (P := fun k => w.cell? ⟨b, 4 + k.val, none⟩ = some (.int .i64 (idT ts (ch k) : Int))) (h.cell 4 rfl) (h.cell 5 rfl) (h.cell 6 rfl) (h.cell 7 rfl) (h.cell 8 rfl) (h.cell 9 rfl) (h.cell 10 rfl) (h.cell 11 rfl)
set_option maxRecDepth 100000 in
set_option maxHeartbeats 1000000 in
theorem get_in (w : World) (Far : Nat → Prop) (sb : Nat) (most : Int) (ts : List Tr) (t : Tr) (ht : t ∈ ts) (n : Nat) (hn : n ≤ 12) (hD : Dep n t) (hG : Good ts) (_hlen : ts.length ≤ 1000000000000) (px py pz : Int) (hin : inB ⟨px, py, pz⟩ (cubeB (2 ^ (n + 2))) = true) (hS : StoreIs w Far sb most ts) :
 Calls Tryz.prog 15 #[.pointer (some ⟨sb, 0, none⟩), .int .i64 (idT ts t : Int), .int .i64 ((n : Int) + 2), .agg #[.int .i64 px, .int .i64 py, .int .i64 pz]] w fun e w' => e = .returned (.int .i64 (Tr.getT t n ⟨px, py, pz⟩)) ∧ Below w.heap.size w w' := by
 have h1 := Bx.mk (fun W => isIn_any (n + 2) (by omega) px py pz W)
 rw [hin] at h1
 rw [show ((n + 2 : Nat) : Int) = (n : Int) + 2 by omega] at h1
 have hp : Bx ((0 ≤ px ∧ px ≤ 100000) ∧ (0 ≤ py ∧ py ≤ 100000) ∧ (0 ≤ pz ∧ pz ≤ 100000)) := ⟨by
  have hl := (pow_le (show n + 2 ≤ 14 by omega)).2
  have := inB_iff.1 hin
  simp only [cubeB, Pt.zero] at this
  omega⟩
 have HS := Bx.mk hS
 have HG := Bx.mk hG
 obtain ⟨r, hr⟩ : ∃ r, r = Tr.getT t n ⟨px, py, pz⟩ := ⟨_, rfl⟩
 have HR : Bx (t ∈ ts ∧ Dep n t ∧ Tr.getT t n ⟨px, py, pz⟩ = r) := Bx.mk (And.intro ht (And.intro hD hr.symm))
 rw [← hr]
 clear hr
 clear hin hS hG ht hD
 go_enter Tryz.func15, Tryz.ntmps15
 go_wp2_with fail
 generalize hW : World.alloc w _ = W
 have hSz : w.heap.size + 1 ≤ W.heap.size := by rw [← hW]; simp
 have hB : Below w.heap.size w W := by rw [← hW]; exact (Below.refl _ _).alloc (Nat.le_refl _) _
 have kp : Bk W (w.heap.size) #[.int .i64 px, .int .i64 py, .int .i64 pz] 23 := by rw [← hW]; exact blk_new _ _ _ (by simp)
 clear hW
 refine (h1.out _).mono ?_
 rintro e w1 ⟨rfl, hb⟩
 replace hB := Bx.mk (hB.trans (hb.mono hB.size))
 replace kp := Bx.mk (kp.later hb)
 clear hb hSz h1
 go_wp2_with fail
 go_loopw [1, 2] (fun vi vd wr => ∃ (m : Nat) (u : Tr), vi = .int .i64 (idT ts u : Int) ∧ vd = .int .i64 ((m : Int) + 2) ∧ m ≤ 12 ∧ Bx (u ∈ ts ∧ Dep m u ∧ Tr.getT u m ⟨px, py, pz⟩ = r) ∧ Bx (Below w.heap.size w wr) ∧ Bx (Bk wr w.heap.size #[.int .i64 px, .int .i64 py, .int .i64 pz] 23)) (fun _ vd _ => (intOf vd).toNat)
 case atStart => exact ⟨n, t, rfl, rfl, hn, HR, hB, kp⟩
 case round =>
  clear HR hB kp
  obtain ⟨m, u, rfl, rfl, hm, HR, hB, kp⟩ := hrel
  obtain ⟨hu, hD, hr⟩ := HR.out
  have hSr := HS.out.later hB.out
  have hby := HG.out.bytes u hu
  cases hD with
  | uni _ c =>
    obtain ⟨g, cap, mb, ks, hi, hc⟩ := Bx.node hSr hu (k := 1) (c := c) rfl
    have cs1 := ks.cell 1 rfl
    have b1 : (0 : Int) ≤ (idT ts (.uni c) : Int) := by omega
    have b2 : (idT ts (.uni c) : Int) < (ts.length : Int) := by omega
    have hr := Bx.mk (show c = r from hr)
    have d0 : wr.cell? ⟨g, idT ts (.uni c) * 12, none⟩ = some (.int .i64 1) := hc.out 0 _ (by omega) rfl
    have d1 : wr.cell? ⟨g, idT ts (.uni c) * 12 + 1, none⟩ = some (.int .i64 c) := hc.out 1 _ (by omega) rfl
    have d2 : wr.cell? ⟨g, idT ts (.uni c) * 12 + 2, none⟩ = some (.string ByteArray.empty) := hc.out 2 _ (by omega) rfl
    have d3 : wr.cell? ⟨g, idT ts (.uni c) * 12 + 3, none⟩ = some (.int .i64 0) := hc.out 3 _ (by omega) rfl
    have d4 : wr.cell? ⟨g, idT ts (.uni c) * 12 + 4, none⟩ = some (.int .i64 0) := hc.out 4 _ (by omega) rfl
    have d5 : wr.cell? ⟨g, idT ts (.uni c) * 12 + 5, none⟩ = some (.int .i64 0) := hc.out 5 _ (by omega) rfl
    have d6 : wr.cell? ⟨g, idT ts (.uni c) * 12 + 6, none⟩ = some (.int .i64 0) := hc.out 6 _ (by omega) rfl
    have d7 : wr.cell? ⟨g, idT ts (.uni c) * 12 + 7, none⟩ = some (.int .i64 0) := hc.out 7 _ (by omega) rfl
    have d8 : wr.cell? ⟨g, idT ts (.uni c) * 12 + 8, none⟩ = some (.int .i64 0) := hc.out 8 _ (by omega) rfl
    have d9 : wr.cell? ⟨g, idT ts (.uni c) * 12 + 9, none⟩ = some (.int .i64 0) := hc.out 9 _ (by omega) rfl
    have d10 : wr.cell? ⟨g, idT ts (.uni c) * 12 + 10, none⟩ = some (.int .i64 0) := hc.out 10 _ (by omega) rfl
    have d11 : wr.cell? ⟨g, idT ts (.uni c) * 12 + 11, none⟩ = some (.int .i64 0) := hc.out 11 _ (by omega) rfl
    clear ks hc HS HG HR hSr hby hu
    go_wp2_with fail
    go_ret
    exact ⟨ret_int hr.out, hB.out.alloc hB.out.size _⟩
  | brick l =>
    obtain ⟨g, cap, mb, ks, hi, hc⟩ := Bx.node hSr hu (k := 2) (s := strOfNums l) rfl
    have cs1 := ks.cell 1 rfl
    have b1 : (0 : Int) ≤ (idT ts (.brick l) : Int) := by omega
    have b2 : (idT ts (.brick l) : Int) < (ts.length : Int) := by omega
    have hk : Tr.idx ⟨px, py, pz⟩ < l.length := by rw [(hby.bricks l rfl).1]; exact Tr.idx_lt _
    have hx := List.getElem?_eq_getElem hk
    have hr2 : l[Tr.idx ⟨px, py, pz⟩] = r := by
     rw [← hr]; unfold Tr.getT; rw [Tr.getD_el hk]
    rw [hr2] at hx
    have hrr := (hby.bricks l rfl).2 _ (List.mem_of_getElem? hx)
    have hix := fun W => idx_str (P := Tryz.prog) 9 Tryz.underlying9 (hby.bricks l rfl).2 hx W
    have d0 : wr.cell? ⟨g, idT ts (.brick l) * 12, none⟩ = some (.int .i64 2) := hc.out 0 _ (by omega) rfl
    have d1 : wr.cell? ⟨g, idT ts (.brick l) * 12 + 1, none⟩ = some (.int .i64 0) := hc.out 1 _ (by omega) rfl
    have d2 : wr.cell? ⟨g, idT ts (.brick l) * 12 + 2, none⟩ = some (.string (strOfNums l)) := hc.out 2 _ (by omega) rfl
    have d3 : wr.cell? ⟨g, idT ts (.brick l) * 12 + 3, none⟩ = some (.int .i64 2) := hc.out 3 _ (by omega) rfl
    have d4 : wr.cell? ⟨g, idT ts (.brick l) * 12 + 4, none⟩ = some (.int .i64 0) := hc.out 4 _ (by omega) rfl
    have d5 : wr.cell? ⟨g, idT ts (.brick l) * 12 + 5, none⟩ = some (.int .i64 0) := hc.out 5 _ (by omega) rfl
    have d6 : wr.cell? ⟨g, idT ts (.brick l) * 12 + 6, none⟩ = some (.int .i64 0) := hc.out 6 _ (by omega) rfl
    have d7 : wr.cell? ⟨g, idT ts (.brick l) * 12 + 7, none⟩ = some (.int .i64 0) := hc.out 7 _ (by omega) rfl
    have d8 : wr.cell? ⟨g, idT ts (.brick l) * 12 + 8, none⟩ = some (.int .i64 0) := hc.out 8 _ (by omega) rfl
    have d9 : wr.cell? ⟨g, idT ts (.brick l) * 12 + 9, none⟩ = some (.int .i64 0) := hc.out 9 _ (by omega) rfl
    have d10 : wr.cell? ⟨g, idT ts (.brick l) * 12 + 10, none⟩ = some (.int .i64 0) := hc.out 10 _ (by omega) rfl
    have d11 : wr.cell? ⟨g, idT ts (.brick l) * 12 + 11, none⟩ = some (.int .i64 0) := hc.out 11 _ (by omega) rfl
    have hpp := hp.out
    obtain ⟨x4, hx4⟩ : ∃ x4, x4 = px % 4 := ⟨_, rfl⟩
    obtain ⟨y4, hy4⟩ : ∃ y4, y4 = py % 4 := ⟨_, rfl⟩
    obtain ⟨z4, hz4⟩ : ∃ z4, z4 = pz % 4 := ⟨_, rfl⟩
    have e1 : bits .and .i64 px 3 = x4 := by rw [hx4]; exact i64_and3 px (by omega) (by omega)
    have e2 : bits .and .i64 py 3 = y4 := by rw [hy4]; exact i64_and3 py (by omega) (by omega)
    have e3 : bits .and .i64 pz 3 = z4 := by rw [hz4]; exact i64_and3 pz (by omega) (by omega)
    have e4 : bits .or .i64 (bits .or .i64 x4 (wrap64 (y4 * 4))) (wrap64 (z4 * 16)) = (Tr.idx ⟨px, py, pz⟩ : Int) := by
     rw [or_four' (by omega) (by omega) (by omega)]
     unfold Tr.idx
     simp only [← hx4, ← hy4, ← hz4]
     omega
    have hwrap : IntKind.i64.wrap r = r := IntWalk.i64_in _ (by omega)
    have al0 : ∀ o, (wr.alloc o).cell? ⟨w.heap.size, 0, none⟩ = some (.int .i64 px) := fun o => (kp.out.alloc o).cell 0 rfl
    have al1 : ∀ o, (wr.alloc o).cell? ⟨w.heap.size, 1, none⟩ = some (.int .i64 py) := fun o => (kp.out.alloc o).cell 1 rfl
    have al2 : ∀ o, (wr.alloc o).cell? ⟨w.heap.size, 2, none⟩ = some (.int .i64 pz) := fun o => (kp.out.alloc o).cell 2 rfl
    generalize Tr.idx ⟨px, py, pz⟩ = kk at *
    generalize strOfNums l = S at *
    clear ks hc HS HG HR hSr hby hu hr hk hx hr2 hpp hp hx4 hy4 hz4
    go_wp2_with fail
    go_ret
    exact ⟨rfl, hB.out.alloc hB.out.size _⟩
  | node m ch hch =>
    obtain ⟨g, cap, mb, ks, hi, hc⟩ := Bx.node hSr hu (k := 3) (s := ByteArray.empty) rfl
    have cs1 := ks.cell 1 rfl
    have b1 : (0 : Int) ≤ (idT ts (.node (m + 3) ch) : Int) := by omega
    have b2 : (idT ts (.node (m + 3) ch) : Int) < (ts.length : Int) := by omega
    have d0 : wr.cell? ⟨g, idT ts (.node (m + 3) ch) * 12, none⟩ = some (.int .i64 3) := hc.out 0 _ (by omega) rfl
    have d1 : wr.cell? ⟨g, idT ts (.node (m + 3) ch) * 12 + 1, none⟩ = some (.int .i64 0) := hc.out 1 _ (by omega) rfl
    have d2 : wr.cell? ⟨g, idT ts (.node (m + 3) ch) * 12 + 2, none⟩ = some (.string ByteArray.empty) := hc.out 2 _ (by omega) rfl
    have d3 : wr.cell? ⟨g, idT ts (.node (m + 3) ch) * 12 + 3, none⟩ = some (.int .i64 ((m + 3 : Nat) : Int)) := hc.out 3 _ (by omega) rfl
    have d4 : wr.cell? ⟨g, idT ts (.node (m + 3) ch) * 12 + 4, none⟩ = some (.int .i64 (idT ts (ch 0) : Int)) := hc.out 4 _ (by omega) rfl
    have d5 : wr.cell? ⟨g, idT ts (.node (m + 3) ch) * 12 + 5, none⟩ = some (.int .i64 (idT ts (ch 1) : Int)) := hc.out 5 _ (by omega) rfl
    have d6 : wr.cell? ⟨g, idT ts (.node (m + 3) ch) * 12 + 6, none⟩ = some (.int .i64 (idT ts (ch 2) : Int)) := hc.out 6 _ (by omega) rfl
    have d7 : wr.cell? ⟨g, idT ts (.node (m + 3) ch) * 12 + 7, none⟩ = some (.int .i64 (idT ts (ch 3) : Int)) := hc.out 7 _ (by omega) rfl
    have d8 : wr.cell? ⟨g, idT ts (.node (m + 3) ch) * 12 + 8, none⟩ = some (.int .i64 (idT ts (ch 4) : Int)) := hc.out 8 _ (by omega) rfl
    have d9 : wr.cell? ⟨g, idT ts (.node (m + 3) ch) * 12 + 9, none⟩ = some (.int .i64 (idT ts (ch 5) : Int)) := hc.out 9 _ (by omega) rfl
    have d10 : wr.cell? ⟨g, idT ts (.node (m + 3) ch) * 12 + 10, none⟩ = some (.int .i64 (idT ts (ch 6) : Int)) := hc.out 10 _ (by omega) rfl
    have d11 : wr.cell? ⟨g, idT ts (.node (m + 3) ch) * 12 + 11, none⟩ = some (.int .i64 (idT ts (ch 7) : Int)) := hc.out 11 _ (by omega) rfl
    have hpp := hp.out
    have ho := Bx.mk (fun W dd hd => octant_at m (by omega) dd hd px py pz hpp.1 hpp.2.1 hpp.2.2 W)
    have al0 : ∀ o, (wr.alloc o).cell? ⟨w.heap.size, 0, none⟩ = some (.int .i64 px) := fun o => (kp.out.alloc o).cell 0 rfl
    have al1 : ∀ o, (wr.alloc o).cell? ⟨w.heap.size, 1, none⟩ = some (.int .i64 py) := fun o => (kp.out.alloc o).cell 1 rfl
    have al2 : ∀ o, (wr.alloc o).cell? ⟨w.heap.size, 2, none⟩ = some (.int .i64 pz) := fun o => (kp.out.alloc o).cell 2 rfl
    have HR2 : Bx (ch (Tr.oct m ⟨px, py, pz⟩) ∈ ts ∧ Dep m (ch (Tr.oct m ⟨px, py, pz⟩)) ∧ Tr.getT (ch (Tr.oct m ⟨px, py, pz⟩)) m ⟨px, py, pz⟩ = r) := ⟨HG.out.closed.2 _ _ hu _, hch _, hr⟩
    have hb0 := Bx.mk (hB.out.alloc hB.out.size (.cells #[.int .i64 3, .int .i64 0, .string ByteArray.empty, .int .i64 ((m + 3 : Nat) : Int), .int .i64 (idT ts (ch 0) : Int), .int .i64 (idT ts (ch 1) : Int), .int .i64 (idT ts (ch 2) : Int), .int .i64 (idT ts (ch 3) : Int), .int .i64 (idT ts (ch 4) : Int), .int .i64 (idT ts (ch 5) : Int), .int .i64 (idT ts (ch 6) : Int), .int .i64 (idT ts (ch 7) : Int)] 72))
    have kp0 := Bx.mk (kp.out.alloc (.cells #[.int .i64 3, .int .i64 0, .string ByteArray.empty, .int .i64 ((m + 3 : Nat) : Int), .int .i64 (idT ts (ch 0) : Int), .int .i64 (idT ts (ch 1) : Int), .int .i64 (idT ts (ch 2) : Int), .int .i64 (idT ts (ch 3) : Int), .int .i64 (idT ts (ch 4) : Int), .int .i64 (idT ts (ch 5) : Int), .int .i64 (idT ts (ch 6) : Int), .int .i64 (idT ts (ch 7) : Int)] 72))
    have kn0 := Bx.mk (Bk.new wr #[.int .i64 3, .int .i64 0, .string ByteArray.empty, .int .i64 ((m + 3 : Nat) : Int), .int .i64 (idT ts (ch 0) : Int), .int .i64 (idT ts (ch 1) : Int), .int .i64 (idT ts (ch 2) : Int), .int .i64 (idT ts (ch 3) : Int), .int .i64 (idT ts (ch 4) : Int), .int .i64 (idT ts (ch 5) : Int), .int .i64 (idT ts (ch 6) : Int), .int .i64 (idT ts (ch 7) : Int)] 72)
    clear ks hc HS HG HR hSr hby hu hr hpp hp hch
    go_wp2_with fail
    refine (ho.out _ _ (by omega)).mono ?_
    rintro e w2 ⟨rfl, hb2⟩
    have kn2 := Bx.mk (node_kid (kn0.out.later hb2))
    replace hb0 := Bx.mk (hb0.out.trans (hb2.mono hb0.out.size))
    replace kp0 := Bx.mk (kp0.out.later hb2)
    clear hb2 kn0 ho d0 d1 d2 d3 d4 d5 d6 d7 d8 d9 d10 d11 al0 al1 al2
    generalize Tr.oct m ⟨px, py, pz⟩ = kk at *
    have hkid := kn2.out kk
    have hk8 := kk.isLt
    have b3 : (0 : Int) ≤ (kk.val : Int) := by omega
    have b4 : (kk.val : Int) < 8 := by omega
    clear kn2
    go_wp2_with fail
    go_roundw
    case rel => exact ⟨m, _, rfl, by go_num, by omega, HR2, hb0, kp0⟩
    case measure => simp [intOf]; omega
end Go.Proofs.YtabclecmehdeoaaGreatDoor
end
section
namespace Go.Proofs.YtabclecmehdeoaaGreatDoor
open Oct
theorem WF.bytes {t : Tr} (h : Tr.WF t) : Bytes t := by
 cases t with
 | uni c => exact Bytes.uni h
 | brick l => exact Bytes.brick h
 | node d ch => exact Bytes.node h.1 ch
theorem WF.kid {d : Nat} {ch : Fin 8 → Tr} (h : Tr.WF (.node d ch)) (i : Fin 8) : Tr.WF (ch i) := h.2 i
theorem wf_mkBrick {l : List Int} (h : l.length = 64) (hb : ∀ x ∈ l, 0 ≤ x ∧ x ≤ 255) : Tr.WF (Tr.mkBrick l) := by
 unfold Tr.mkBrick
 split
 · cases l with
   | nil => simp at h
   | cons x r => exact hb x (by simp)
 · exact ⟨h, hb⟩
theorem wf_mkInner {d : Nat} {ch : Fin 8 → Tr} (hd : d ≤ 255) (h : ∀ i, Tr.WF (ch i)) : Tr.WF (Tr.mkInner d ch) := by
 unfold Tr.mkInner
 split
 · exact h 0
 · exact ⟨hd, h⟩
theorem wf_can {f : Pt → Int} (hf : ∀ p, 0 ≤ f p ∧ f p ≤ 255) : ∀ (n : Nat) (a : Pt), n ≤ 200 → Tr.WF (Tr.can f n a)
 | 0, a, _ => by
   unfold Tr.can
   refine wf_mkBrick (by simp) fun x hx => ?_
   obtain ⟨k, _, rfl⟩ := List.mem_map.1 hx
   exact hf _
 | n + 1, a, hn => by
   unfold Tr.can
   exact wf_mkInner (by omega) fun i => wf_can hf n _ (by omega)
theorem dep_mkBrick (l : List Int) : Dep 0 (Tr.mkBrick l) := by
 unfold Tr.mkBrick
 split
 · exact Dep.uni _ _
 · exact Dep.brick _
theorem dep_mkInner {n : Nat} {ch : Fin 8 → Tr} (h : ∀ i, Dep n (ch i)) : Dep (n + 1) (Tr.mkInner (n + 3) ch) := by
 unfold Tr.mkInner
 split
 · rename_i hc
   obtain ⟨⟨c, hc⟩, _⟩ := hc
   rw [hc]; exact Dep.uni _ _
 · exact Dep.node n ch h
theorem dep_can (f : Pt → Int) : ∀ (n : Nat) (a : Pt), Dep n (Tr.can f n a)
 | 0, a => by unfold Tr.can; exact dep_mkBrick _
 | n + 1, a => by unfold Tr.can; exact dep_mkInner fun i => dep_can f n _
theorem Dep.kid {n : Nat} {t : Tr} (h : Dep (n + 1) t) (i : Fin 8) : Dep n (t.kid i) := by
 cases h with
 | uni _ c => exact Dep.uni _ _
 | node _ ch h => exact h i
theorem wf_kid {t : Tr} (h : Tr.WF t) (i : Fin 8) : Tr.WF (t.kid i) := by
 cases t with
 | uni c => exact h
 | brick l => exact h
 | node d ch => exact h.2 i
theorem cells_len {t : Tr} (h : Tr.WF t) (hD : Dep 0 t) : t.cells.length = 64 ∧ ∀ x ∈ t.cells, 0 ≤ x ∧ x ≤ 255 := by
 cases hD with
 | uni _ c => exact ⟨by simp [Tr.cells], fun x hx => by simp [Tr.cells] at hx; rw [hx]; exact h⟩
 | brick l => exact h
theorem wf_set {c : Int} (hc : 0 ≤ c ∧ c ≤ 255) (p : Pt) : ∀ (n : Nat) (t : Tr), n ≤ 200 → Tr.WF t → Dep n t → Tr.WF (Tr.setT n t p c) ∧ Dep n (Tr.setT n t p c)
 | 0, t, _, h, hD => by
   obtain ⟨h1, h2⟩ := cells_len h hD
   unfold Tr.setT
   refine ⟨wf_mkBrick (by simp [h1]) fun x hx => ?_, dep_mkBrick _⟩
   rcases List.mem_or_eq_of_mem_set hx with hx | rfl
   · exact h2 x hx
   · exact hc
 | n + 1, t, hn, h, hD => by
   unfold Tr.setT
   have key : ∀ i : Fin 8, Tr.WF (if i = Tr.oct n p then Tr.setT n (t.kid i) p c else t.kid i) ∧ Dep n (if i = Tr.oct n p then Tr.setT n (t.kid i) p c else t.kid i) := by
    intro i
    split
    · exact wf_set hc p n _ (by omega) (wf_kid h i) (hD.kid i)
    · exact ⟨wf_kid h i, hD.kid i⟩
   exact ⟨wf_mkInner (by omega) fun i => (key i).1, dep_mkInner fun i => (key i).2⟩
theorem good_add : ∀ (t : Tr) {ts : List Tr}, Good ts → Tr.WF t → Good (Tr.add t ts) := by
 intro t
 induction t with
 | uni c => intro ts hG h; rw [Tr.add_uni]; exact hG.ins (fun d ch e => by cases e) (WF.bytes h)
 | brick l => intro ts hG h; rw [Tr.add_brick]; exact hG.ins (fun d ch e => by cases e) (WF.bytes h)
 | node d ch ih =>
   intro ts hG h
   rw [Tr.node_add hG.closed]
   have hk := Tr.addK_ind (P := Good) (fun i a ha => ih i ha (h.2 i)) 8 (Nat.le_refl _) ts hG
   refine hk.ins (fun d' ch' e i => ?_) (WF.bytes h)
   injection e with e1 e2
   subst e2
   exact Tr.addK_mem _ ts 8 (Nat.le_refl _) i i.isLt
theorem good_addK {ch : Fin 8 → Tr} {ts : List Tr} (hG : Good ts) (h : ∀ i, Tr.WF (ch i)) (k : Nat) (hk : k ≤ 8) : Good (Tr.addK ch k ts) := Tr.addK_ind (P := Good) (fun i _a ha => good_add _ ha (h i)) k hk ts hG
def Between (ts ts' : List Tr) : Prop := ∀ vs, ts <+: vs → vs <+: ts' → Good vs
theorem Between.same {ts : List Tr} (hG : Good ts) : Between ts ts := fun vs h1 h2 => by
 have := h1.eq_of_length_le h2.length_le
 exact this ▸ hG
theorem Between.trans {a b c : List Tr} (h : Between a b) (h' : Between b c) (hbc : b <+: c) : Between a c := fun vs h1 h2 => by
 rcases List.prefix_or_prefix_of_prefix h2 hbc with h3 | h3
 · exact h vs h1 h3
 · exact h' vs h3 h2
theorem Between.left {a b c : List Tr} (h : Between a c) (hbc : b <+: c) : Between a b := fun vs h1 h2 => h vs h1 (h2.trans hbc)
theorem between_ins {ts : List Tr} {t : Tr} (hG : Good ts) (h2 : Good (Tr.ins t ts)) : Between ts (Tr.ins t ts) := fun vs h1 h3 => by
 by_cases ht : t ∈ ts
 · rw [Tr.ins_of_mem ht] at h3
   exact (h1.eq_of_length_le h3.length_le) ▸ hG
 · rw [Tr.ins_of_not ht] at h3 h2
   by_cases hl : vs.length ≤ ts.length
   · exact (h1.eq_of_length_le hl) ▸ hG
   · have := h3.eq_of_length_le (by simp; omega)
     exact this ▸ h2
theorem between_add : ∀ (t : Tr) {ts : List Tr}, Good ts → Tr.WF t → Between ts (Tr.add t ts) := by
 intro t
 induction t with
 | uni c => intro ts hG h; have h2 := good_add _ hG h; rw [Tr.add_uni] at h2 ⊢; exact between_ins hG h2
 | brick l => intro ts hG h; have h2 := good_add _ hG h; rw [Tr.add_brick] at h2 ⊢; exact between_ins hG h2
 | node d ch ih =>
   intro ts hG h
   have h2 := good_add _ hG h
   rw [Tr.node_add hG.closed] at h2 ⊢
   have key := Tr.addK_ind (P := fun a => ts <+: a ∧ Good a ∧ Between ts a) (fun i a ha => ⟨ha.1.trans (Tr.add_prefix _ _), good_add _ ha.2.1 (h.2 i), ha.2.2.trans (ih i ha.2.1 (h.2 i)) (Tr.add_prefix _ _)⟩) 8 (Nat.le_refl _) ts ⟨List.prefix_refl _, hG, Between.same hG⟩
   exact key.2.2.trans (between_ins key.2.1 h2) (Tr.ins_prefix _ _)
theorem ins_len (t : Tr) (ts : List Tr) : (Tr.ins t ts).length ≤ ts.length + 1 := by
 by_cases h : t ∈ ts
 · rw [Tr.ins_of_mem h]; omega
 · rw [Tr.ins_of_not h]; simp
theorem add_len : ∀ (t : Tr) (ts : List Tr), (Tr.add t ts).length ≤ ts.length + Tr.sz t := by
 intro t
 induction t with
 | uni c => intro ts; rw [Tr.add_uni]; exact ins_len _ _
 | brick l => intro ts; rw [Tr.add_brick]; exact ins_len _ _
 | node d ch ih =>
   intro ts
   have key : ∀ k, k ≤ 8 → (Tr.addK ch k ts).length ≤ ts.length + ((List.ofFn fun i => Tr.sz (ch i)).take k).sum := by
    intro k
    induction k with
    | zero => intro _; rw [Tr.addK_zero]; simp
    | succ k ihk =>
      intro hk
      rw [Tr.addK_succ ch (by omega)]
      have h1 := ih ⟨k, by omega⟩ (Tr.addK ch k ts)
      have h2 := ihk (by omega)
      rw [List.take_succ_eq_append_getElem (by simpa using (show k < 8 by omega)), List.sum_append]
      simp only [List.getElem_ofFn, List.sum_cons, List.sum_nil]
      omega
   have h8 := key 8 (Nat.le_refl _)
   rw [List.take_of_length_le (by simp)] at h8
   rw [Tr.add_node]
   split
   · simp only [Tr.sz]; omega
   · simp only [Tr.sz, List.length_append, List.length_singleton]; omega
theorem sz_mkBrick (l : List Int) : Tr.sz (Tr.mkBrick l) = 1 := by unfold Tr.mkBrick; split <;> rfl
theorem sum8 {g : Fin 8 → Nat} {m : Nat} (h : ∀ i, g i ≤ m) : (List.ofFn g).sum ≤ 8 * m := by
 have h0 := h 0
 have h1 := h 1
 have h2 := h 2
 have h3 := h 3
 have h4 := h 4
 have h5 := h 5
 have h6 := h 6
 have h7 := h 7
 simp only [List.ofFn_succ, List.ofFn_zero, List.sum_cons, List.sum_nil]
 simp only [Fin.reduceSucc, Fin.isValue] at *
 omega
theorem sz_mkInner {d : Nat} {ch : Fin 8 → Tr} {m : Nat} (h : ∀ i, Tr.sz (ch i) ≤ m) : Tr.sz (Tr.mkInner d ch) ≤ 1 + 8 * m := by
 unfold Tr.mkInner
 split
 · have := h 0; omega
 · simp only [Tr.sz]
   have := sum8 h
   omega
def many : Nat → Nat
 | 0 => 1
 | n + 1 => 1 + 8 * many n
theorem sz_can (f : Pt → Int) : ∀ (n : Nat) (a : Pt), Tr.sz (Tr.can f n a) ≤ many n
 | 0, a => by unfold Tr.can; rw [sz_mkBrick]; exact Nat.le_refl _
 | n + 1, a => by unfold Tr.can; exact sz_mkInner fun i => sz_can f n _
theorem many_le {n : Nat} (hn : n ≤ 12) : many n ≤ 80000000000 := by
 have key : ∀ m, m ≤ n → many m ≤ many n := by
  intro m h
  induction n with
  | zero => rw [show m = 0 by omega]; exact Nat.le_refl _
  | succ n ih =>
    by_cases e : m = n + 1
    · rw [e]; exact Nat.le_refl _
    · have := ih (by omega) (by omega)
      show _ ≤ 1 + 8 * many n
      omega
 have mono : ∀ a b, a ≤ b → many a ≤ many b := by
  intro a b h
  induction b with
  | zero => rw [show a = 0 by omega]; exact Nat.le_refl _
  | succ b ih =>
    by_cases e : a = b + 1
    · rw [e]; exact Nat.le_refl _
    · have := ih (by omega)
      show _ ≤ 1 + 8 * many b
      omega
 exact Nat.le_trans (mono n 12 hn) (by decide)
theorem can_len {f : Pt → Int} {n : Nat} (hn : n ≤ 12) (a : Pt) (ts : List Tr) : (Tr.add (Tr.can f n a) ts).length ≤ ts.length + 80000000000 :=
 Nat.le_trans (add_len _ _) (Nat.add_le_add_left (Nat.le_trans (sz_can f n a) (many_le hn)) _)
theorem can_zero : ∀ (n : Nat) (a : Pt) (f : Pt → Int), Tr.Al n a → (∀ p, Tr.InC n a p → f p = 0) → Tr.can f n a = .uni 0
 | 0, a, f, ha, h => by
   unfold Tr.can Tr.mkBrick
   have key : ∀ x ∈ (List.range 64).map fun k => f (Tr.cellAt a k), x = 0 := by
    intro x hx
    obtain ⟨k, hk, rfl⟩ := List.mem_map.1 hx
    exact h _ (Tr.inC_cell ha (List.mem_range.1 hk) rfl).1
   have h0 : ((List.range 64).map fun k => f (Tr.cellAt a k)).headD 0 = 0 := by
    rw [show List.range 64 = 0 :: (List.range 63).map Nat.succ from List.range_succ_eq_map]
    simp only [List.map_cons, List.headD_cons]
    exact key _ (List.mem_map.2 ⟨0, by simp, rfl⟩)
   rw [h0, if_pos key]
 | n + 1, a, f, ha, h => by
   have key : ∀ i : Fin 8, Tr.can f n (Tr.cor a n i.val) = .uni 0 := fun i => can_zero n _ f (Tr.al_cor ha _) fun p hp => h p (Tr.inC_other ha hp).2
   unfold Tr.can Tr.mkInner
   rw [if_pos ⟨⟨0, key 0⟩, fun i => (key i).trans (key 0).symm⟩]
   exact key 0
theorem inner_again {d : Nat} {ch : Fin 8 → Tr} {ts : List Tr} (hG : Good ts) (h : ∀ i, Tr.WF (ch i)) : Tr.add (Tr.mkInner d ch) (Tr.addK ch 8 ts) = Tr.add (Tr.mkInner d ch) ts := by
 have hG8 := good_addK hG h 8 (Nat.le_refl _)
 have hm : ∀ i, ch i ∈ Tr.addK ch 8 ts := fun i => Tr.addK_mem ch ts 8 (Nat.le_refl _) i i.isLt
 rw [Tr.inner_add hG8.closed, Tr.inner_add hG.closed, addK_same hm]
theorem addK_pre {ch : Fin 8 → Tr} {ts : List Tr} {k m : Nat} (hkm : k ≤ m) (hm : m ≤ 8) : Tr.addK ch k ts <+: Tr.addK ch m ts := by
 induction m with
 | zero => rw [show k = 0 by omega]; exact List.prefix_refl _
 | succ m ih =>
   by_cases e : k = m + 1
   · rw [e]; exact List.prefix_refl _
   · rw [Tr.addK_succ ch (by omega)]
     exact (ih (by omega) (by omega)).trans (Tr.add_prefix _ _)
theorem inner_pre {d : Nat} {ch : Fin 8 → Tr} {ts : List Tr} (hG : Good ts) : Tr.addK ch 8 ts <+: Tr.add (Tr.mkInner d ch) ts := by
 rw [Tr.inner_add hG.closed]
 split
 · exact List.prefix_refl _
 · exact Tr.ins_prefix _ _
end Go.Proofs.YtabclecmehdeoaaGreatDoor
end
