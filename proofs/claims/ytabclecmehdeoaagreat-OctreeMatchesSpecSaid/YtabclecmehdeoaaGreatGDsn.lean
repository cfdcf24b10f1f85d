import Derived.Test.YtabclecmehdeoaaGreatGGri
import Derived.Test.YtabclecmehdeoaaGreatGAdd
section
/- voxellaw09.describes, of every node, by the program. -/
namespace Go.Proofs.YtabclecmehdeoaaGreat
open Go.RowKit Go.Sort Go.Maps
open Oct

/-- the cells of a block of eight, by number -/
theorem cells8 {wr : World} {b : Nat} {k : IntKind} {p : Nat → Int} {t : TypeId} (h : Bk wr b #[.int k (p 0), .int k (p 1), .int k (p 2), .int k (p 3), .int k (p 4), .int k (p 5), .int k (p 6), .int k (p 7)] t) {i : Nat} (hi : i < 8) : wr.cell? ⟨b, i, none⟩ = some (.int k (p i)) := by
  have h0 : i = 0 ∨ i = 1 ∨ i = 2 ∨ i = 3 ∨ i = 4 ∨ i = 5 ∨ i = 6 ∨ i = 7 := by omega
  rcases h0 with rfl | rfl | rfl | rfl | rfl | rfl | rfl | rfl
  all_goals exact h.cell _ rfl
noncomputable def kidX (ts : List Tr) (ch : Fin 8 → Tr) (k : Nat) : Int := if h : k < 8 then (idT ts (ch ⟨k, h⟩) : Int) else 0
/-- what lies in memory while the children are compared -/
structure DsI (w : World) (Far : Nat → Prop) (sb : Nat) (most : Int) (ts : List Tr) (ch : Fin 8 → Tr) (gc g : Nat) (wr : World) : Prop where
  st : StoreIs wr Far sb most ts
  bel : Below w.heap.size w wr
  kc : Bk wr gc #[.int .i64 (kidX ts ch 0), .int .i64 (kidX ts ch 1), .int .i64 (kidX ts ch 2), .int .i64 (kidX ts ch 3), .int .i64 (kidX ts ch 4), .int .i64 (kidX ts ch 5), .int .i64 (kidX ts ch 6), .int .i64 (kidX ts ch 7)] 51
  kids : Slv wr (some ⟨g, 0, none⟩) (strs (kidsE ch))
theorem DsI.later {w wr w' : World} {Far : Nat → Prop} {sb gc g : Nat} {most : Int} {ts : List Tr} {ch : Fin 8 → Tr} (h : DsI w Far sb most ts ch gc g wr) (hb : Below wr.heap.size wr w') : DsI w Far sb most ts ch gc g w' :=
  ⟨h.st.later hb, h.bel.trans (hb.mono h.bel.size), h.kc.later hb, h.kids.below hb⟩
set_option maxRecDepth 100000 in
set_option maxHeartbeats 2000000 in
theorem describes_any (Far : Nat → Prop) (sb : Nat) (most : Int) (ts : List Tr) (hG : Good ts) (hlen : ts.length ≤ 4194304) : ∀ (t : Tr), Tr.WF t → (Tr.enc t).length ≤ 1000000000000000 → t ∈ ts → ∀ (w : World), StoreIs w Far sb most ts →
    Calls Tryz.prog 13 #[.pointer (some ⟨sb, 0, none⟩), .int .i64 (idT ts t : Int), .string (strOfNums (Tr.enc t))] w fun e w' => e = .returned (.bool true) ∧ Below w.heap.size w w' := by
  intro t
  induction t with
  | uni c => intro h _ ht w hS; exact describes_uni w Far sb most ts c h ht hG hlen hS
  | brick l => intro h _ ht w hS; exact describes_brick w Far sb most ts l h.1 h.2 ht hG hlen hS
  | node d ch ih =>
    intro h hsz ht w hS
    have hcel := Bx.mk (cells_any w Far sb most ts (.node d ch) ht hG (by omega) hS)
    have hK := Bx.mk fun W (hs : StoreIs W Far sb most ts) => kind_b Far sb most ts (.node d ch) ht 3 rfl hlen W hs
    have hD := Bx.mk fun W (hs : StoreIs W Far sb most ts) => depth_b Far sb most ts (.node d ch) ht (d : Int) rfl hlen W hs
    have hC := Bx.mk fun W (hs : StoreIs W Far sb most ts) => children_any Far sb most ts _ (.node d ch) (idT_get ht) (kidX ts ch 0) (kidX ts ch 1) (kidX ts ch 2) (kidX ts ch 3) (kidX ts ch 4) (kidX ts ch 5) (kidX ts ch 6) (kidX ts ch 7) (fun j u hu => by
      match j with
      | 0 => simp at hu; subst hu; rfl
      | 1 => simp at hu; subst hu; rfl
      | 2 => simp at hu; subst hu; rfl
      | 3 => simp at hu; subst hu; rfl
      | 4 => simp at hu; subst hu; rfl
      | 5 => simp at hu; subst hu; rfl
      | 6 => simp at hu; subst hu; rfl
      | 7 => simp at hu; subst hu; rfl
      | j + 8 => simp at hu) W hs
    have hR := Bx.mk fun W => ref9_children d ch h hsz W
    have hd : d ≤ 255 := h.1
    have hIH := Bx.mk fun (k : Nat) (hk : k < 8) W (hs : StoreIs W Far sb most ts) => (show Calls Tryz.prog 13 #[.pointer (some ⟨sb, 0, none⟩), .int .i64 (kidX ts ch k), .string (strOfNums (Tr.enc (ch ⟨k, hk⟩)))] W fun e w' => e = .returned (.bool true) ∧ Below W.heap.size W w' from by
      unfold kidX
      rw [dif_pos hk]
      exact ih ⟨k, hk⟩ (h.2 _) (by
        have h1 := Tr.pos_succ ch hk
        have h2 := Tr.pos_le d ch (show k + 1 ≤ 8 by omega)
        omega) (hG.closed.2 d ch ht _) W hs)
    have hi0 := fun W : World => idx_str (P := Tryz.prog) 9 Tryz.underlying9 (Tr.enc_byt _ h) (k := 0) (x := 110) (by simp [Tr.enc]) W
    have hi1 := fun W : World => idx_str (P := Tryz.prog) 9 Tryz.underlying9 (Tr.enc_byt _ h) (k := 1) (x := (d : Int)) (by simp [Tr.enc]) W
    rw [show ((0 : Nat) : Int) = 0 from rfl] at hi0
    rw [show ((1 : Nat) : Int) = 1 from rfl] at hi1
    have hwrap : IntKind.i64.wrap (d : Int) = d := IntWalk.i64_in _ (by omega)
    have HS := Bx.mk hS
    have HK8 := Bx.mk fun k (hk : k < 8) => strs_at (kidsE_at ch hk)
    generalize strOfNums (Tr.enc (.node d ch)) = S at *
    generalize (idT ts (.node d ch) : Int) = id at *
    have hout : outT (.node d ch) = [] := rfl
    clear h ht hG hlen hS hsz ih
    go_enter Tryz.func13, Tryz.ntmps13
    go_wp2_with fail
    refine hcel.out.mono ?_
    rintro _ w1 ⟨v, rfl, how, hB⟩
    obtain ⟨pa, pc, rfl, -⟩ := how.form
    rw [hout]
    have hl0 : ([] : List Int).length = 0 := rfl
    rw [hl0]
    clear how hcel hout hl0
    replace HS := Bx.mk (HS.out.later hB)
    have HB := Bx.mk hB
    clear hB
    go_wp2_with fail
    have q0 := Bx.mk fun dk osk => Calls.regrown_of (hK.out _ (HS.out.later (below_regrown w1 dk osk)))
    have q1 := Bx.mk fun dk osk => Calls.regrown_of (hD.out _ (HS.out.later (below_regrown w1 dk osk)))
    refine wp_region_quiet_below (by kernel_rfl) (by kernel_rfl) ?_
    repeat (first | go_big_quiet_step ((first | with_reducible exact q0.out _ _ | with_reducible exact q1.out _ _)) | quiet_step (first | with_reducible exact q0.out _ _ | with_reducible exact q1.out _ _))
    refine wpQuiet_nil ?_
    rintro _ ⟨⟨dq, osq⟩, rfl⟩
    have hb0 := below_regrown w1 dq osq
    replace HS := Bx.mk (HS.out.later hb0)
    replace HB := Bx.mk (HB.out.trans (hb0.mono HB.out.size))
    generalize grow (redrawn w1 dq) osq = w2 at *
    clear q0 q1 hb0 hK hD
    go_wp2_with fail
    refine (hC.out _ HS.out).mono ?_
    rintro _ w3 ⟨rfl, hb0⟩
    replace HS := Bx.mk (HS.out.later hb0)
    replace HB := Bx.mk (HB.out.trans (hb0.mono HB.out.size))
    clear hb0 hC
    go_wp2_with fail
    generalize hW4 : World.alloc w3 _ = W4
    have hb4 : Below w3.heap.size w3 W4 := by rw [← hW4]; exact (Below.refl _ _).alloc (Nat.le_refl _) _
    have kc : Bk W4 w3.heap.size #[.int .i64 (kidX ts ch 0), .int .i64 (kidX ts ch 1), .int .i64 (kidX ts ch 2), .int .i64 (kidX ts ch 3), .int .i64 (kidX ts ch 4), .int .i64 (kidX ts ch 5), .int .i64 (kidX ts ch 6), .int .i64 (kidX ts ch 7)] 51 := by rw [← hW4]; exact blk_new _ _ _ rfl
    replace HS := Bx.mk (HS.out.later hb4)
    replace HB := Bx.mk (HB.out.trans (hb4.mono HB.out.size))
    clear hW4 hb4
    generalize w3.heap.size = gc at *
    refine (hR.out _).mono ?_
    rintro _ w5 ⟨g, pc2, rfl, hk, -, hb5⟩
    have HI := Bx.mk (show DsI w Far sb most ts ch gc g w5 from ⟨HS.out.later hb5, HB.out.trans (hb5.mono HB.out.size), kc.later hb5, hk⟩)
    clear hk hb5 kc HS HB hR
    go_wp2_with fail
    go_loopw [11] (fun v11 wr => ∃ k : Nat, k ≤ 8 ∧ v11 = .int .i64 k ∧ Bx (DsI w Far sb most ts ch gc g wr)) (fun i _ => 8 - (intOf i).toNat)
    case atStart => exact ⟨0, Nat.zero_le _, rfl, HI⟩
    case round =>
      clear HI
      obtain ⟨k, hk, rfl, HI⟩ := hrel
      by_cases hlt : k < 8
      · have t0 : decide ((k : Int) < 8) = true := by simp; omega
        have b1 : (0 : Int) ≤ (k : Int) := by omega
        have b2 : (k : Int) < 8 := by omega
        obtain ⟨b, off, he, hck⟩ := HI.out.kids k _ (HK8.out k hlt)
        simp only [Option.some.injEq, Addr.mk.injEq, and_true] at he
        obtain ⟨rfl, rfl⟩ := he
        rw [Nat.zero_add] at hck
        have qc1 : ∀ dk osk, (grow (redrawn wr dk) osk).cell? ⟨gc, k, none⟩ = some (.int .i64 (kidX ts ch k)) := cell_regrown (cells8 HI.out.kc hlt)
        have qc2 : ∀ dk osk, (grow (redrawn wr dk) osk).cell? ⟨g, k, none⟩ = some (.string (strOfNums (Tr.enc (ch ⟨k, hlt⟩)))) := cell_regrown hck
        have q0 := Bx.mk fun dk osk => Calls.regrown_of (hIH.out k hlt (grow (redrawn wr dk) osk) (HI.out.st.later (below_regrown wr dk osk)))
        clear hck
        go_wp2_with fail
        refine wp_region_quiet_below (by kernel_rfl) (by kernel_rfl) ?_
        repeat (first | go_big_quiet_step ((first | with_reducible exact q0.out _ _)) | quiet_step (first | with_reducible exact q0.out _ _))
        refine wpQuiet_nil ?_
        rintro _ ⟨⟨dq, osq⟩, rfl⟩
        have HI2 := Bx.mk (HI.out.later (below_regrown wr dq osq))
        generalize grow (redrawn wr dq) osq = w7 at *
        clear q0 qc1 qc2
        go_wp2_with fail
        go_roundw
        case rel => exact ⟨k + 1, by omega, by go_num, HI2⟩
        case measure => simp [intOf]; omega
      · obtain rfl : k = 8 := by omega
        have t0 : decide (((8 : Nat) : Int) < 8) = false := by decide
        go_wp2_with fail
        go_ret
        exact ⟨rfl, HI.out.bel⟩
end Go.Proofs.YtabclecmehdeoaaGreat
end
