import Derived.Test.YtabclecmehdeoaaGreatGMat
import Derived.Deep.RegionHeld3
section
/- The loop of OctreeMatchesSpec. -/
namespace Go.Proofs.YtabclecmehdeoaaGreat
open Go.RowKit Go.Sort Go.Maps
open Oct

theorem cell_keeps {w w' : World} {Far : Nat → Prop} {b o : Nat} {v : Value} (hk : Keeps Far w w') (hf : Far b) (h : w.cell? ⟨b, o, none⟩ = some v) : w'.cell? ⟨b, o, none⟩ = some v := by
  rw [World.cell?_of_block (hk.block b hf (World.block_lt_of_cell? w _ h))]; exact h
set_option maxRecDepth 100000 in
set_option maxHeartbeats 8000000 in
theorem match_loop (most a b c d e f : Int) (ha hb : Option Addr) (hcp hcq : Nat) (xs : List Int) (es : List Ed) (w : World) (hl : xs.length ≤ 300) (hl2 : es.length ≤ 12) (hsl : Sl w .i64 ha xs) (hse : SlE w hb es) (n : Nat) (hn : n ≤ 12) (HX : GoodG ⟨⟨a, b, c⟩, ⟨d, e, f⟩⟩ xs hcp) (hV : validG ⟨⟨a, b, c⟩, ⟨d, e, f⟩⟩ xs = true) (hC : emptyB ⟨⟨a, b, c⟩, ⟨d, e, f⟩⟩ = true ∨ containsB ⟨⟨0, 0, 0⟩, ⟨2 ^ (n + 2), 2 ^ (n + 2), 2 ^ (n + 2)⟩⟩ ⟨⟨a, b, c⟩, ⟨d, e, f⟩⟩ = true) (hE : fromE ⟨⟨a, b, c⟩, ⟨d, e, f⟩⟩ xs ((n : Int) + 2) = 0) (hfit : Tr.Fits most [] (addn n (cellG ⟨⟨a, b, c⟩, ⟨d, e, f⟩⟩ xs) [])) :
    Calls Tryz.prog 3 #[.int .i64 most, .agg #[.int .i64 a, .int .i64 b, .int .i64 c, .int .i64 d, .int .i64 e, .int .i64 f, .slice ha xs.length hcp], .int .i64 ((n : Int) + 2), .slice hb es.length hcq] w fun e' w' => e' = .returned (.bool true) ∧ Below w.heap.size w w' := by
  have Hse := Bx.mk hse
  clear hse
  have Hfr := Bx.mk fun W sb (h : Sl W .i64 ha xs) Far hfx hFar hS => m_from_fits W sb a b c d e f ha hcp xs n hn h HX hV hC Far hfx most hFar hS hfit
  have Hrf := Bx.mk fun W (h : Sl W .i64 ha xs) => m_ref_yes a b c d e f ha hcp xs hl n hn HX hE W h
  have Had := Bx.mk fun W => m_add n (cellG ⟨⟨a, b, c⟩, ⟨d, e, f⟩⟩ xs) hn HX.range [] good_nil (Nat.le_trans (addn_few HX hn) (by omega)) W w.heap.size (.slice none 0 0)
  have Hln := Bx.mk (addn_few HX hn)
  have Hfn := Bx.mk (grid_fn HX hC)
  have Hsl := Bx.mk hsl
  have Hn := Bx.mk hn
  have hfit := Bx.mk hfit
  clear hsl HX hV hC hE hn
  generalize cellG ⟨⟨a, b, c⟩, ⟨d, e, f⟩⟩ xs = F0 at *
  go_enter Tryz.func3, Tryz.ntmps3
  go_wp2_with fail
  generalize hW : World.alloc w _ = W
  have hSz : w.heap.size + 1 ≤ W.heap.size := by rw [← hW]; simp
  have hB : Below w.heap.size w W := by rw [← hW]; exact (Below.refl _ _).alloc (Nat.le_refl _) _
  have kg : Bk W (w.heap.size) #[.int .i64 a, .int .i64 b, .int .i64 c, .int .i64 d, .int .i64 e, .int .i64 f, .slice ha xs.length hcp] 28 := by rw [← hW]; exact blk_new _ _ _ (by simp)
  clear hW
  refine (sanity_true _).mono ?_
  rintro _ w1 ⟨rfl, hb0⟩
  replace hB := hB.trans (hb0.mono hB.size)
  replace kg := kg.later hb0
  replace hSz := Nat.le_trans hSz hb0.size
  clear hb0
  have cg0 := kg.cell 0 rfl
  have cg1 := kg.cell 1 rfl
  have cg2 := kg.cell 2 rfl
  have cg3 := kg.cell 3 rfl
  have cg4 := kg.cell 4 rfl
  have cg5 := kg.cell 5 rfl
  have cg6 := kg.cell 6 rfl
  go_wp2_with fail
  refine (few2_yes a b c d e f ha hb xs.length hcp es.length hcq hl hl2 _).mono ?_
  rintro _ w2 ⟨rfl, hb0⟩
  replace hB := hB.trans (hb0.mono hB.size)
  replace kg := kg.later hb0
  replace hSz := Nat.le_trans hSz hb0.size
  clear hb0
  clear cg0 cg1 cg2 cg3 cg4 cg5 cg6
  go_wp2_with fail
  refine (newStore_any most _).mono ?_
  rintro _ w3 ⟨sb, rfl, hS, hb0⟩
  obtain ⟨Far, hFa⟩ : ∃ Far : Nat → Prop, Far = fun k => k < w2.heap.size := ⟨_, rfl⟩
  rw [← hFa] at hS
  have hlt : Bx (∀ j, Far j → j < w3.heap.size) := ⟨fun j hj => by rw [hFa] at hj; exact Nat.lt_of_lt_of_le hj hb0.size⟩
  have hing : Bx (Far w.heap.size) := ⟨by rw [hFa]; exact kg.lt⟩
  have hlo : Bx (∀ j, j < w.heap.size → Far j) := ⟨fun j hj => by rw [hFa]; exact Nat.lt_of_lt_of_le hj hB.size⟩
  clear hFa
  replace hB := hB.trans (hb0.mono hB.size)
  replace kg := kg.later hb0
  replace hSz := Nat.le_trans hSz hb0.size
  clear hb0
  have hS := Bx.mk hS
  have cg0 := kg.cell 0 rfl
  have cg1 := kg.cell 1 rfl
  have cg2 := kg.cell 2 rfl
  have cg3 := kg.cell 3 rfl
  have cg4 := kg.cell 4 rfl
  have cg5 := kg.cell 5 rfl
  have cg6 := kg.cell 6 rfl
  go_wp2_with fail
  have hfx : xs ≠ [] → ∀ b, ha.map (·.block) = some b → Far b := fun hx b hb => by
    obtain ⟨x, r, rfl⟩ := List.exists_cons_of_ne_nil hx
    obtain ⟨b', off, h1, h2⟩ := Hsl.out 0 x rfl
    rw [h1] at hb
    simp only [Option.map_some, Option.some.injEq] at hb
    rw [← hb]; exact hlo.out _ (World.block_lt_of_cell? w _ h2)
  refine (Hfr.out _ _ (Hsl.out.below hB) _ hfx hlt.out hS.out).mono ?_
  rintro _ w4 ⟨rfl, hs, hk⟩
  clear hfx
  clear cg0 cg1 cg2 cg3 cg4 cg5 cg6
  replace hS := Bx.mk hs
  replace hB := below_of_keeps hB hk (fun j hj => hlo.out j hj)
  replace kg := kg.far hk hing.out
  replace hSz := Nat.le_trans hSz hk.size
  replace hlt := Bx.mk (fun j (hj : Far j) => Nat.lt_of_lt_of_le (hlt.out j hj) hk.size)
  clear hs hk
  have cg0 := kg.cell 0 rfl
  have cg1 := kg.cell 1 rfl
  have cg2 := kg.cell 2 rfl
  have cg3 := kg.cell 3 rfl
  have cg4 := kg.cell 4 rfl
  have cg5 := kg.cell 5 rfl
  have cg6 := kg.cell 6 rfl
  go_wp2_with fail
  refine (Hrf.out _ (Hsl.out.below hB)).mono ?_
  rintro _ w5 ⟨rfl, hb0⟩
  replace hlt := Bx.mk (fun j (hj : Far j) => Nat.lt_of_lt_of_le (hlt.out j hj) hb0.size)
  replace hS := Bx.mk (hS.out.later hb0)
  replace hB := hB.trans (hb0.mono hB.size)
  replace kg := kg.later hb0
  replace hSz := Nat.le_trans hSz hb0.size
  clear hb0
  clear cg0 cg1 cg2 cg3 cg4 cg5 cg6
  go_wp2_with fail
  refine (Had.out _ hB.size (Ownv.nil _ _ _)).mono ?_
  rintro _ w6 ⟨v0, rfl, ho, hadd⟩
  have hm : Bx (MatI w Far sb most n F0 (addn n F0 []) [] (.slice none 0 0) w5) := ⟨⟨hS.out, hlt.out, hlo.out, hB, addn_good Hn.out Hfn.out good_nil, addn_mem _ _ _, Hfn.out, Ownv.nil _ _ _, fun g hg => by cases hg⟩⟩
  replace hm := Bx.mk (hm.out.push hadd ho)
  obtain ⟨ac, cap, rfl, -⟩ := ho.form
  rw [encs_len] at hm ⊢
  have t1 : decide (most < ((addn n F0 []).length : Int)) = false := decide_eq_false (fun h => by
    rcases Nat.eq_zero_or_pos (addn n F0 []).length with h0 | h0
    · have := (addn_pre n F0 []).length_le
      have := List.length_pos_of_mem (addn_mem n F0 [])
      omega
    · exact fits_len hfit.out (by simpa using h0) h)
  have hle : Bx ((addn n F0 []).length ≤ 3901) := Hln
  clear hS hB kg hSz hlt hlo hing ho hadd Had Hrf Hfr Hsl Hln Hfn hfit
  generalize (fun j => Far j ∨ _) = Far1 at *
  generalize addn n F0 [] = ts0 at *
  go_wp2_with fail
  go_loopw [11, 13, 15, 16] (fun v11 v13 v15 v16 wr => ∃ (i : Nat) (Fr : Nat → Prop) (F : Pt → Int) (ts : List Tr), i ≤ es.length ∧ v11 = .int .i64 (idn ts n F) ∧ v13 = .string (txt n F) ∧ v16 = .int .i64 i ∧ Bx (MatI w Fr sb most n F ts ts v15 wr ∧ ts.length ≤ 3901 + 13 * i)) (fun _ _ _ i _ => es.length - (intOf i).toNat)
  case atStart => exact ⟨0, _, _, _, Nat.zero_le _, rfl, rfl, rfl, ⟨hm.out, hle.out⟩⟩
  case round =>
    clear hm hle t1
    obtain ⟨i, Fr, F, ts, hi, rfl, rfl, rfl, HI⟩ := hrel
    obtain ⟨ac2, cap2, rfl, -⟩ := HI.out.1.own.form
    rw [encs_len] at HI ⊢
    by_cases hlt : i < es.length
    · have t0 : decide ((i : Int) < (es.length : Int)) = true := by simp; omega
      obtain ⟨⟨px, py, pz, cv⟩, hed⟩ : ∃ ed, es[i]? = some ed := ⟨_, List.getElem?_eq_getElem hlt⟩
      obtain ⟨bk, off, rfl, c0, c1, c2, c3⟩ := Hse.out i _ hed
      dsimp only at c0 c1 c2 c3
      have hbf : Bx (Fr bk) := ⟨HI.out.1.old _ (World.block_lt_of_cell? w _ c0)⟩
      replace c0 := cell_later HI.out.1.bel c0
      replace c1 := cell_later HI.out.1.bel c1
      replace c2 := cell_later HI.out.1.bel c2
      replace c3 := cell_later HI.out.1.bel c3
      have b1 : (0 : Int) ≤ (i : Int) := by omega
      have b2 : (i : Int) < (es.length : Int) := by omega
      by_cases hok : inB ⟨px, py, pz⟩ (cubeB (2 ^ (n + 2))) = true ∧ 0 ≤ cv ∧ cv ≤ 255
      · by_cases hft : Tr.Fits most ts (addn n (Tr.upd F ⟨px, py, pz⟩ cv) ts)
        · have Hset := Bx.mk fun (W : World) (h : Below wr.heap.size wr W) => m_set_fits W Fr sb most ts n F Hn.out HI.out.1.good (by have := HI.out.2; omega) HI.out.1.mem px py pz cv hok hft (fun k hk => Nat.lt_of_lt_of_le (HI.out.1.far k hk) h.size) (HI.out.1.st.later h)
          have Had := Bx.mk fun W hB ho => m_add n (Tr.upd F ⟨px, py, pz⟩ cv) Hn.out (HI.out.1.fn.upd hok.1 hok.2).range ts HI.out.1.good (by have := addn_len Hn.out hok.1 hok.2 HI.out.1.good HI.out.1.mem; have := HI.out.2; omega) W w.heap.size (.slice ac2 ts.length cap2) hB ho
          have H9 := Bx.mk fun W => m_set9_yes n Hn.out F HI.out.1.fn.range px py pz cv hok W
          have hle0 := Bx.mk HI.out.2
          have hle1 : Bx ((addn n (Tr.upd F ⟨px, py, pz⟩ cv) ts).length ≤ ts.length + 13) := ⟨addn_len Hn.out hok.1 hok.2 HI.out.1.good HI.out.1.mem⟩
          have hgd := Bx.mk (addn_good Hn.out (HI.out.1.fn.upd hok.1 hok.2) HI.out.1.good)
          have hfn := Bx.mk (HI.out.1.fn.upd hok.1 hok.2)
          have hmm := Bx.mk (addn_mem n (Tr.upd F ⟨px, py, pz⟩ cv) ts)
          have hlen : Bx ((addn n (Tr.upd F ⟨px, py, pz⟩ cv) ts).length ≤ 4194304) := ⟨by have := hle1.out; have := HI.out.2; omega⟩
          have t3 : (((addn n (Tr.upd F ⟨px, py, pz⟩ cv) ts).length : Int) != ((addn n (Tr.upd F ⟨px, py, pz⟩ cv) ts).length : Int)) = false := by simp
          have hgr : Bx (ts.length < (addn n (Tr.upd F ⟨px, py, pz⟩ cv) ts).length ∧ ¬ most < ((addn n (Tr.upd F ⟨px, py, pz⟩ cv) ts).length : Int) ∨ ¬ ts.length < (addn n (Tr.upd F ⟨px, py, pz⟩ cv) ts).length) := ⟨by
            by_cases hg : ts.length < (addn n (Tr.upd F ⟨px, py, pz⟩ cv) ts).length
            · exact .inl ⟨hg, fits_len hft hg⟩
            · exact .inr hg⟩
          clear hok hft
          generalize (Tr.upd F ⟨px, py, pz⟩ cv) = F' at *
          generalize addn n F' ts = ts' at *
          go_wp2_with fail
          go_region_held3 (fun w' => w'.cell? ⟨bk, off + i * 4, none⟩ = some (.int .i64 px) ∧ w'.cell? ⟨bk, off + i * 4 + 1, none⟩ = some (.int .i64 py) ∧ w'.cell? ⟨bk, off + i * 4 + 2, none⟩ = some (.int .i64 pz) ∧ w'.cell? ⟨bk, off + i * 4 + 3, none⟩ = some (.int .i64 cv))
            (first | go_keep | (dsimp only; and_intros <;> assumption))
            ((go_at_call 11; refine (Hset.out _ (Below.refl _ _).drew).mono ?_; rintro e7 w7 ⟨rfl, hs, hk⟩; have hkk := (Keeps.below (Far := Fr) ((Below.refl wr.heap.size wr).drew)).trans hk; have d0 := cell_keeps hkk hbf.out c0; have d1 := cell_keeps hkk hbf.out c1; have d2 := cell_keeps hkk hbf.out c2; have d3 := cell_keeps hkk hbf.out c3))
          have HI7 := Bx.mk (HI.out.1.made hkk hs hgd.out hmm.out hfn.out)
          clear hs hk hkk c0 c1 c2 c3 Hset
          clear HI hgd hfn hmm
          go_wp2_with fail
          have c0 : ∀ dk osk, (grow (redrawn w7 dk) osk).cell? ⟨bk, off + i * 4, none⟩ = some (.int .i64 px) := cell_regrown d0
          have c1 : ∀ dk osk, (grow (redrawn w7 dk) osk).cell? ⟨bk, off + i * 4 + 1, none⟩ = some (.int .i64 py) := cell_regrown d1
          have c2 : ∀ dk osk, (grow (redrawn w7 dk) osk).cell? ⟨bk, off + i * 4 + 2, none⟩ = some (.int .i64 pz) := cell_regrown d2
          have c3 : ∀ dk osk, (grow (redrawn w7 dk) osk).cell? ⟨bk, off + i * 4 + 3, none⟩ = some (.int .i64 cv) := cell_regrown d3
          have q0 := Bx.mk fun dk osk => Calls.regrown_of (H9.out (grow (redrawn w7 dk) osk))
          refine wp_region_quiet_below (by kernel_rfl) (by kernel_rfl) ?_
          repeat (first | go_big_quiet_step ((first | with_reducible exact q0.out _ _)) | quiet_step (first | with_reducible exact q0.out _ _))
          refine wpQuiet_nil ?_
          rintro _ ⟨⟨dq, osq⟩, rfl⟩
          have HI8 := Bx.mk (HI7.out.later (below_regrown w7 dq osq))
          clear q0 c0 c1 c2 c3 d0 d1 d2 d3 HI7
          generalize grow (redrawn w7 dq) osq = w8 at *
          go_wp2_with fail
          refine (Had.out w8 HI8.out.bel.size HI8.out.own).mono ?_
          rintro _ w9 ⟨v9, rfl, ho, hadd⟩
          have HI9 := Bx.mk (HI8.out.push hadd ho)
          obtain ⟨ac3, cap3, rfl, -⟩ := ho.form
          rw [encs_len] at HI9 ⊢
          clear ho hadd HI8 Had
          generalize (fun j => Fr j ∨ _) = Fr' at *
          rcases hgr.out with ⟨hg1, hg2⟩ | hg1
          · have t4 : decide ((ts.length : Int) < (ts'.length : Int)) = true := by simp; omega
            have t5 : decide (most < (ts'.length : Int)) = false := decide_eq_false (by omega)
            have hle := Bx.mk fun Fz W (h : StoreIs W Fz sb most ts') => len_any Fz sb most ts' W h
            have hde := Bx.mk (m_desc _ sb most ts' n F' Hn.out HI9.out.fn.range HI9.out.good hlen.out HI9.out.mem w9 HI9.out.st)
            go_wp2_with fail
            refine (hle.out _ _ HI9.out.st).mono ?_
            rintro _ _ ⟨rfl, rfl⟩
            go_wp2_with fail
            refine hde.out.mono ?_
            rintro _ w10 ⟨rfl, hb0⟩
            have HI10 := Bx.mk (HI9.out.later hb0)
            clear hb0 hle hde
            go_wp2_with fail
            go_roundw
            case rel => exact ⟨i + 1, _, _, _, by omega, rfl, rfl, by go_num, ⟨HI10.out, by have := hle0.out; have := hle1.out; omega⟩⟩
            case measure => simp [intOf]; omega
          · have t4 : decide ((ts.length : Int) < (ts'.length : Int)) = false := by simp; omega
            have hle := Bx.mk fun Fz W (h : StoreIs W Fz sb most ts') => len_any Fz sb most ts' W h
            have hde := Bx.mk (m_desc _ sb most ts' n F' Hn.out HI9.out.fn.range HI9.out.good hlen.out HI9.out.mem w9 HI9.out.st)
            go_wp2_with fail
            refine (hle.out _ _ HI9.out.st).mono ?_
            rintro _ _ ⟨rfl, rfl⟩
            go_wp2_with fail
            refine hde.out.mono ?_
            rintro _ w10 ⟨rfl, hb0⟩
            have HI10 := Bx.mk (HI9.out.later hb0)
            clear hb0 hle hde
            go_wp2_with fail
            go_roundw
            case rel => exact ⟨i + 1, _, _, _, by omega, rfl, rfl, by go_num, ⟨HI10.out, by have := hle0.out; have := hle1.out; omega⟩⟩
            case measure => simp [intOf]; omega

        · have Hset := Bx.mk fun (W : World) (h : Below wr.heap.size wr W) => m_set_over W Fr sb most ts n F Hn.out HI.out.1.good (by have := HI.out.2; omega) HI.out.1.mem px py pz cv hok hft (fun k hk => Nat.lt_of_lt_of_le (HI.out.1.far k hk) h.size) (HI.out.1.st.later h)
          have Had := Bx.mk fun W hB ho => m_add n (Tr.upd F ⟨px, py, pz⟩ cv) Hn.out (HI.out.1.fn.upd hok.1 hok.2).range ts HI.out.1.good (by have := addn_len Hn.out hok.1 hok.2 HI.out.1.good HI.out.1.mem; have := HI.out.2; omega) W w.heap.size (.slice ac2 ts.length cap2) hB ho
          have H9 := Bx.mk fun W => m_set9_yes n Hn.out F HI.out.1.fn.range px py pz cv hok W
          have hle0 := Bx.mk HI.out.2
          have hle1 : Bx ((addn n (Tr.upd F ⟨px, py, pz⟩ cv) ts).length ≤ ts.length + 13) := ⟨addn_len Hn.out hok.1 hok.2 HI.out.1.good HI.out.1.mem⟩
          have t4 : decide ((ts.length : Int) < ((addn n (Tr.upd F ⟨px, py, pz⟩ cv) ts).length : Int)) = true := by have := (over_len (addn_pre n (Tr.upd F ⟨px, py, pz⟩ cv) ts) hft).1; simp; omega
          have t5 : decide (most < ((addn n (Tr.upd F ⟨px, py, pz⟩ cv) ts).length : Int)) = true := decide_eq_true (over_len (addn_pre n (Tr.upd F ⟨px, py, pz⟩ cv) ts) hft).2
          have n4 := (over_len (addn_pre n (Tr.upd F ⟨px, py, pz⟩ cv) ts) hft).1
          have n5 := (over_len (addn_pre n (Tr.upd F ⟨px, py, pz⟩ cv) ts) hft).2
          have t3 : ((ts.length : Int) != (ts.length : Int)) = false := by simp
          have hlen : Bx (ts.length ≤ 4194304) := ⟨by have := HI.out.2; omega⟩
          clear hok hft
          go_wp2_with fail
          go_region_held3 (fun w' => w'.cell? ⟨bk, off + i * 4, none⟩ = some (.int .i64 px) ∧ w'.cell? ⟨bk, off + i * 4 + 1, none⟩ = some (.int .i64 py) ∧ w'.cell? ⟨bk, off + i * 4 + 2, none⟩ = some (.int .i64 pz) ∧ w'.cell? ⟨bk, off + i * 4 + 3, none⟩ = some (.int .i64 cv))
            (first | go_keep | (dsimp only; and_intros <;> assumption))
            ((go_at_call 11; refine (Hset.out _ (Below.refl _ _).drew).mono ?_; rintro e7 w7 ⟨rfl, hs, hk⟩; have hkk := (Keeps.below (Far := Fr) ((Below.refl wr.heap.size wr).drew)).trans hk; have d0 := cell_keeps hkk hbf.out c0; have d1 := cell_keeps hkk hbf.out c1; have d2 := cell_keeps hkk hbf.out c2; have d3 := cell_keeps hkk hbf.out c3))
          have HI7 := Bx.mk (HI.out.1.made hkk hs HI.out.1.good HI.out.1.mem HI.out.1.fn)
          clear hs hk hkk c0 c1 c2 c3 Hset
          clear HI
          go_wp2_with fail
          have c0 : ∀ dk osk, (grow (redrawn w7 dk) osk).cell? ⟨bk, off + i * 4, none⟩ = some (.int .i64 px) := cell_regrown d0
          have c1 : ∀ dk osk, (grow (redrawn w7 dk) osk).cell? ⟨bk, off + i * 4 + 1, none⟩ = some (.int .i64 py) := cell_regrown d1
          have c2 : ∀ dk osk, (grow (redrawn w7 dk) osk).cell? ⟨bk, off + i * 4 + 2, none⟩ = some (.int .i64 pz) := cell_regrown d2
          have c3 : ∀ dk osk, (grow (redrawn w7 dk) osk).cell? ⟨bk, off + i * 4 + 3, none⟩ = some (.int .i64 cv) := cell_regrown d3
          have q0 := Bx.mk fun dk osk => Calls.regrown_of (H9.out (grow (redrawn w7 dk) osk))
          refine wp_region_quiet_below (by kernel_rfl) (by kernel_rfl) ?_
          repeat (first | go_big_quiet_step ((first | with_reducible exact q0.out _ _)) | quiet_step (first | with_reducible exact q0.out _ _))
          refine wpQuiet_nil ?_
          rintro _ ⟨⟨dq, osq⟩, rfl⟩
          have HI8 := Bx.mk (HI7.out.later (below_regrown w7 dq osq))
          clear q0 c0 c1 c2 c3 d0 d1 d2 d3 HI7
          generalize grow (redrawn w7 dq) osq = w8 at *
          go_wp2_with fail
          refine (Had.out w8 HI8.out.bel.size HI8.out.own).mono ?_
          rintro _ w9 ⟨v9, rfl, ho, hadd⟩
          have HI9 := Bx.mk (HI8.out.drop hadd (Nat.le_refl _))
          obtain ⟨ac3, cap3, rfl, -⟩ := ho.form
          rw [encs_len]
          clear ho hadd HI8 Had
          have hle := Bx.mk fun Fz W (h : StoreIs W Fz sb most ts) => len_any Fz sb most ts W h
          have hde := Bx.mk (m_desc _ sb most ts n F Hn.out HI9.out.fn.range HI9.out.good hlen.out HI9.out.mem w9 HI9.out.st)
          go_wp2_with fail
          refine (hle.out _ _ HI9.out.st).mono ?_
          rintro _ _ ⟨rfl, rfl⟩
          go_wp2_with fail
          refine hde.out.mono ?_
          rintro _ w10 ⟨rfl, hb0⟩
          have HI10 := Bx.mk (HI9.out.later hb0)
          clear hb0 hle hde
          go_wp2_with fail
          go_roundw
          case rel => exact ⟨i + 1, _, _, _, by omega, rfl, rfl, by go_num, ⟨HI10.out, by have := hle0.out; omega⟩⟩
          case measure => simp [intOf]; omega

      · have Hset := Bx.mk fun (W : World) (h : Below wr.heap.size wr W) => m_set_no W Fr sb most ts n Hn.out (idn ts n F) px py pz cv hok (HI.out.1.st.later h)
        have H9 := Bx.mk fun W => m_set9_no n Hn.out F px py pz cv hok W
        have hle0 := Bx.mk HI.out.2
        have hlen : Bx (ts.length ≤ 4194304) := ⟨by have := HI.out.2; omega⟩
        have t3 : ((ts.length : Int) != (ts.length : Int)) = false := by simp
        clear hok
        go_wp2_with fail
        go_region_held3 (fun w' => w'.cell? ⟨bk, off + i * 4, none⟩ = some (.int .i64 px) ∧ w'.cell? ⟨bk, off + i * 4 + 1, none⟩ = some (.int .i64 py) ∧ w'.cell? ⟨bk, off + i * 4 + 2, none⟩ = some (.int .i64 pz) ∧ w'.cell? ⟨bk, off + i * 4 + 3, none⟩ = some (.int .i64 cv))
          (first | go_keep | (dsimp only; and_intros <;> assumption))
          ((go_at_call 11; refine (Hset.out _ (Below.refl _ _).drew).mono ?_; rintro e7 w7 ⟨rfl, hs, hk⟩; have hkk := (Keeps.below (Far := Fr) ((Below.refl wr.heap.size wr).drew)).trans hk; have d0 := cell_keeps hkk hbf.out c0; have d1 := cell_keeps hkk hbf.out c1; have d2 := cell_keeps hkk hbf.out c2; have d3 := cell_keeps hkk hbf.out c3))
        have HI7 := Bx.mk (HI.out.1.made hkk hs HI.out.1.good HI.out.1.mem HI.out.1.fn)
        clear hs hk hkk c0 c1 c2 c3 Hset
        clear HI
        go_wp2_with fail
        have c0 : ∀ dk osk, (grow (redrawn w7 dk) osk).cell? ⟨bk, off + i * 4, none⟩ = some (.int .i64 px) := cell_regrown d0
        have c1 : ∀ dk osk, (grow (redrawn w7 dk) osk).cell? ⟨bk, off + i * 4 + 1, none⟩ = some (.int .i64 py) := cell_regrown d1
        have c2 : ∀ dk osk, (grow (redrawn w7 dk) osk).cell? ⟨bk, off + i * 4 + 2, none⟩ = some (.int .i64 pz) := cell_regrown d2
        have c3 : ∀ dk osk, (grow (redrawn w7 dk) osk).cell? ⟨bk, off + i * 4 + 3, none⟩ = some (.int .i64 cv) := cell_regrown d3
        have q0 := Bx.mk fun dk osk => Calls.regrown_of (H9.out (grow (redrawn w7 dk) osk))
        refine wp_region_quiet_below (by kernel_rfl) (by kernel_rfl) ?_
        repeat (first | go_big_quiet_step ((first | with_reducible exact q0.out _ _)) | quiet_step (first | with_reducible exact q0.out _ _))
        refine wpQuiet_nil ?_
        rintro _ ⟨⟨dq, osq⟩, rfl⟩
        have HI8 := Bx.mk (HI7.out.later (below_regrown w7 dq osq))
        clear q0 c0 c1 c2 c3 d0 d1 d2 d3 HI7
        generalize grow (redrawn w7 dq) osq = w8 at *
        have hle := Bx.mk fun Fz W (h : StoreIs W Fz sb most ts) => len_any Fz sb most ts W h
        have hde := Bx.mk (m_desc _ sb most ts n F Hn.out HI8.out.fn.range HI8.out.good hlen.out HI8.out.mem w8 HI8.out.st)
        go_wp2_with fail
        refine (hle.out _ _ HI8.out.st).mono ?_
        rintro _ _ ⟨rfl, rfl⟩
        go_wp2_with fail
        refine hde.out.mono ?_
        rintro _ w10 ⟨rfl, hb0⟩
        have HI10 := Bx.mk (HI8.out.later hb0)
        clear hb0 hle hde
        go_wp2_with fail
        go_roundw
        case rel => exact ⟨i + 1, _, _, _, by omega, rfl, rfl, by go_num, ⟨HI10.out, by have := hle0.out; omega⟩⟩
        case measure => simp [intOf]; omega

    · have t0 : decide ((i : Int) < (es.length : Int)) = false := by simp; omega
      have t3 : ((ts.length : Int) == (ts.length : Int)) = true := by simp
      have hle := Bx.mk fun W (h : StoreIs W Fr sb most ts) => len_any Fr sb most ts W h
      have hde := Bx.mk (m_desc Fr sb most ts n F Hn.out HI.out.1.fn.range HI.out.1.good (by have := HI.out.2; omega) HI.out.1.mem wr HI.out.1.st)
      go_wp2_with fail
      refine (hle.out _ HI.out.1.st).mono ?_
      rintro _ _ ⟨rfl, rfl⟩
      go_wp2_with fail
      refine hde.out.mono ?_
      rintro _ w10 ⟨rfl, hb0⟩
      go_wp2_with fail
      go_ret
      exact ⟨rfl, (HI.out.1.later hb0).bel⟩
set_option maxRecDepth 100000 in
theorem match_true (most a b c d e f dd : Int) (ha hb : Option Addr) (hcp hcq : Nat) (xs : List Int) (es : List Ed) (hcap : xs.length ≤ hcp) (w : World) (hsl : Sl w .i64 ha xs) (hse : SlE w hb es) :
    Calls Tryz.prog 3 #[.int .i64 most, .agg #[.int .i64 a, .int .i64 b, .int .i64 c, .int .i64 d, .int .i64 e, .int .i64 f, .slice ha xs.length hcp], .int .i64 dd, .slice hb es.length hcq] w fun e' w' => e' = .returned (.bool true) ∧ Below w.heap.size w w' := by
  by_cases hfw : xs.length ≤ 300 ∧ es.length ≤ 12
  · by_cases hE : fromE ⟨⟨a, b, c⟩, ⟨d, e, f⟩⟩ xs dd = 0
    · obtain ⟨n, hn, rfl, hV, hC⟩ := fromE_zero hE
      have HX := goodG_of hV hfw.1 hcap
      by_cases hfit : Tr.Fits most [] (addn n (cellG ⟨⟨a, b, c⟩, ⟨d, e, f⟩⟩ xs) [])
      · exact match_loop most a b c d e f ha hb hcp hcq xs es w hfw.1 hfw.2 hsl hse n hn HX hV hC hE hfit
      · exact match_over most a b c d e f ha hb hcp hcq xs es w hfw.1 hfw.2 hsl n hn HX hV hC hE hfit
    · exact match_err most a b c d e f dd ha hb hcp hcq xs es w hfw.1 hfw.2 hsl hE
  · exact match_many most a b c d e f dd ha hb hcp hcq xs es w hfw
end Go.Proofs.YtabclecmehdeoaaGreat
end
