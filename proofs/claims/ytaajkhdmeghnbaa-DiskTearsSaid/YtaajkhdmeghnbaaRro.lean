/- The reference's Rot. -/
import Derived.Test.YtaajkhdmeghnbaaRmo
namespace Go.Proofs.Ytaajkhdmeghnbaa
open Go.RowKit Go.Sort

theorem bytes_of_str2 {P : Program} (src dst e : TypeId) (hs : P.underlying src = some .string) (hd : P.underlying dst = some (.slice e)) (he : P.underlying e = some (.int .u8)) {t : List Int} (hb : Byt t) (w : World) :
    ∃ c W, (convert src dst (.string (strOfNums t))).run P w = .ok (.slice (some ⟨w.heap.size, 0, none⟩) t.length c) W ∧ Sl W .u8 (some ⟨w.heap.size, 0, none⟩) t ∧ Below w.heap.size w W ∧ (∀ j, j < t.length → W.frozen? ⟨w.heap.size, j, none⟩ = false) ∧ w.heap.size < W.heap.size := by
  have h := run_bytes_of_string (P := P) w src dst e (strOfNums t) hs hd he
  rw [strOfNums_size] at h
  refine ⟨_, _, h, fun i x hx => ⟨_, 0, rfl, ?_⟩, (Below.refl _ _).drew.alloc (Nat.le_refl _) _, fun j hj => ?_, by simp [World.alloc]⟩
  · obtain ⟨hk, hv⟩ := str_get hb hx
    have := World.cell?_alloc_mark w.drew (bytesRow (strOfNums t) (grownCap w t.length 0 e)) e ((bytesRow (strOfNums t) (grownCap w t.length 0 e)).size, (bytesRow (strOfNums t) (grownCap w t.length 0 e)).size + 1) i
    rw [Nat.zero_add]
    refine Eq.trans this ?_
    have h2 := bytesRow_at (strOfNums t) (grownCap w t.length 0 e) i hk
    rw [← hv]; exact h2
  · have := World.frozen?_alloc_mark w.drew (bytesRow (strOfNums t) (grownCap w t.length 0 e)) e (bytesRow (strOfNums t) (grownCap w t.length 0 e)).size ((bytesRow (strOfNums t) (grownCap w t.length 0 e)).size + 1) j
    refine Eq.trans this ?_
    have hsz : t.length ≤ (bytesRow (strOfNums t) (grownCap w t.length 0 e)).size := by
      have h1 : (strOfNums t).data.size = t.length := strOfNums_size t
      unfold bytesRow
      rw [Array.size_append, Array.size_map, h1]
      omega
    have : ¬ (bytesRow (strOfNums t) (grownCap w t.length 0 e)).size ≤ j := by omega
    simp [this]
theorem Sl.put {w : World} {b : Nat} {xs : List Int} {i : Nat} (h : Sl w .u8 (some ⟨b, 0, none⟩) xs) (hi : i < xs.length) (z : Int) : Sl (w.setCell ⟨b, i, none⟩ (.int .u8 z)) .u8 (some ⟨b, 0, none⟩) (xs.set i z) := by
  intro j x hx
  refine ⟨b, 0, rfl, ?_⟩
  rw [Nat.zero_add]
  rw [List.getElem?_set] at hx
  by_cases e : i = j
  · subst e
    rw [if_pos rfl, if_pos hi] at hx
    injection hx with hx
    subst hx
    obtain ⟨_, _, he, hc⟩ := h i _ (List.getElem?_eq_getElem hi)
    simp only [Option.some.injEq, Addr.mk.injEq, and_true] at he
    obtain ⟨rfl, rfl⟩ := he
    rw [Nat.zero_add] at hc
    exact World.cell?_setCell_same w _ _ hc
  · rw [if_neg e] at hx
    obtain ⟨_, _, he, hc⟩ := h j _ hx
    simp only [Option.some.injEq, Addr.mk.injEq, and_true] at he
    obtain ⟨rfl, rfl⟩ := he
    rw [Nat.zero_add] at hc
    rw [World.cell?_setCell_other w _ _ _ (fun he => by injection he with h1 h2 h3; exact e h2)]
    exact hc
theorem flip_set {l : List Int} {q : Nat} {y : Int} (h : l[q]? = some y) (s : Nat) : flip l q s = l.set q (bits .xor .u8 y (2 ^ s)) := by
  obtain ⟨hq, rfl⟩ := List.getElem?_eq_some_iff.1 h
  unfold flip
  apply List.ext_getElem?
  intro j
  rw [List.getElem?_modify, List.getElem?_set]
  by_cases e : q = j
  · subst e; simp [hq]
  · simp [e]
set_option maxRecDepth 100000 in
theorem rrot_ok (w : World) (q g cap : Nat) (d : Dk) (h : RkIs w q g cap d) (i b : Nat) (x : Pg) (hx : d.p[i]? = some x) (hb : b < 1024) :
    Calls Try.prog 38 #[.pointer (some ⟨q, 0, none⟩), .int .i64 (i : Int), .int .i64 (b : Int)] w (RWritePost q g cap w { d with p := d.p.modify i fun x => (flip x.1 (b / 8) (b % 8), x.2) } 0) := by
  have hil := (List.getElem?_eq_some_iff.1 hx).1
  have hfew := h.ok.few
  have hi : d.is i = true := by unfold Dk.is; simp; omega
  have H := Bx.mk h
  have hIs := Bx.mk (ris_any w q g cap d h i)
  rw [hi] at hIs
  have t1 : decide ((b : Int) < 0) = false := by simp
  have t2 : decide (1024 ≤ (b : Int)) = false := by simp; omega
  have hok := h.ok.pages x (List.mem_of_getElem? hx)
  obtain ⟨y, hy⟩ : ∃ y, x.1[b / 8]? = some y := ⟨_, List.getElem?_eq_getElem (by rw [hok.1]; omega)⟩
  have c0 := h.kq.cell 0 rfl
  have p0 := h.pg.at_ i 0 hil (by omega)
  rw [fof_at hx] at p0
  simp only [rcell, Nat.add_zero] at p0
  have b0 : (0 : Int) ≤ (i : Int) := by omega
  have b1 : (i : Int) < (d.p.length : Int) := by omega
  obtain ⟨cp, w2, hcv, hsl, hb2, hfr, hsz⟩ := bytes_of_str2 (P := Try.prog) 9 75 5 Try.underlying9 Try.underlying75 Try.underlying5 hok.2.1 w
  rw [hok.1] at hcv hfr
  have hD2 := Bx.mk (h.later hb2)
  have hwlt := Bx.mk h.lt
  clear h hi
  generalize hq : b / 8 = qq at *
  generalize hs : b % 8 = s at *
  have hq8 : qq < 128 := by omega
  have hs8 : s < 8 := by omega
  have e1 : IntKind.i64.wrap ((b : Int) / 8) = (qq : Int) := by rw [IntWalk.i64_in _ (by omega)]; omega
  have e2 : (b : Int) % 8 = (s : Int) := by omega
  have hfl : Bx (flip x.1 qq s = x.1.set qq (bits .xor .u8 y (2 ^ s))) := ⟨flip_set hy s⟩
  have hbx : Bx (0 ≤ bits .xor .u8 y (2 ^ s) ∧ bits .xor .u8 y (2 ^ s) ≤ 255) := ⟨bits_u8 _ _⟩
  obtain ⟨_, _, he, hcy⟩ := hsl qq y hy
  simp only [Option.some.injEq, Addr.mk.injEq, and_true] at he
  obtain ⟨rfl, rfl⟩ := he
  rw [Nat.zero_add] at hcy
  have hf2 := hfr qq hq8
  replace hq := Bx.mk hq
  replace hs := Bx.mk hs
  replace hx := Bx.mk hx
  replace hy := Bx.mk hy
  replace hok := Bx.mk hok
  replace hsl := Bx.mk hsl
  replace hcy := Bx.mk hcy
  replace hf2 := Bx.mk hf2
  replace hb2 := Bx.mk hb2
  replace hsz := Bx.mk hsz
  clear hfr
  go_enter Try.func38, Try.ntmps38
  go_upto_region 5 with (go_at_call 50; refine hIs.out.mono ?_; rintro _ _ ⟨rfl, rfl⟩)
  clear t1 t2 hIs c0 p0 hcv
  have c1 : ∀ dk osk, (grow (redrawn w2 dk) osk).cell? ⟨w.heap.size, qq, none⟩ = some (.int .u8 y) := cell_regrown hcy.out
  have b2 : (0 : Int) ≤ (qq : Int) := by omega
  have b3 : (qq : Int) < 128 := by omega
  refine wp_region_headT_below 13 (by kernel_rfl) (by kernel_rfl) ?_
  simp only [List.take_succ_cons, List.take_zero, List.drop_succ_cons, List.drop_zero]
  repeat (first | go_big_quiet_step (fail) | quiet_step (fail))
  have e3 : (2 : Int) ^ s % 256 = 2 ^ s := by
    have : s = 0 ∨ s = 1 ∨ s = 2 ∨ s = 3 ∨ s = 4 ∨ s = 5 ∨ s = 6 ∨ s = 7 := by omega
    rcases this with rfl | rfl | rfl | rfl | rfl | rfl | rfl | rfl <;> decide
  rw [e3]
  clear e3 c1
  generalize bits .xor .u8 y (2 ^ s) = z at *
  refine wpQuiet_nil ?_
  rintro _ ⟨⟨dq, osq⟩, rfl⟩
  have hb5 := below_regrown w2 dq osq
  have hD5 := Bx.mk (hD2.out.later hb5)
  replace hcy := Bx.mk (cell_later hb5 hcy.out)
  have hf5 : (grow (redrawn w2 dq) osq).frozen? ⟨w.heap.size, qq, none⟩ = false := by rw [hb5.frozen (p := ⟨w.heap.size, qq, none⟩) hsz.out]; exact hf2.out
  replace hsl := Bx.mk (hsl.out.below hb5)
  have hC5 : Bx (Below w.heap.size w (grow (redrawn w2 dq) osq)) := ⟨hb2.out.trans (hb5.mono hb2.out.size)⟩
  clear hb5 hD2 hf2 hb2
  generalize grow (redrawn w2 dq) osq = W at *
  have cc := hcy.out
  go_upto_region 6 with fail
  have hS6 := Bx.mk (hsl.out.put (i := qq) (by rw [hok.out.1]; exact hq8) z)
  rw [← hfl.out] at hS6
  have hc6 := Bx.mk (chg_cell W w.heap.size qq (.int .u8 z))
  have hD6 : Bx (RkIs (W.setCell ⟨w.heap.size, qq, none⟩ (.int .u8 z)) q g cap d) := ⟨hD5.out.chg hc6.out (fun k hk e => by have := hwlt.out; rcases hk with rfl | rfl <;> omega)⟩
  have hB6 : Bx (Below w.heap.size w (W.setCell ⟨w.heap.size, qq, none⟩ (.int .u8 z))) := ⟨hC5.out.setCell (Nat.le_refl _) _⟩
  clear hsl hcy hf5 hD5 hC5 hc6 cc
  generalize W.setCell ⟨w.heap.size, qq, none⟩ (.int .u8 z) = W6 at *
  have hlen : Bx ((flip x.1 qq s).length = 128) := ⟨by rw [hfl.out, List.length_set]; exact hok.out.1⟩
  have hbyt : Bx (Byt (flip x.1 qq s)) := ⟨fun v hv => by
    rw [hfl.out] at hv
    rcases List.mem_or_eq_of_mem_set hv with h1 | h1
    · exact hok.out.2.1 v h1
    · rw [h1]; exact hbx.out⟩
  generalize hF : flip x.1 qq s = F at *
  replace hF := Bx.mk hF
  have k0 := Bx.mk (hD6.out.kq.cell 0 rfl)
  have c0 : ∀ dk osk, (grow (redrawn W6 dk) osk).cell? ⟨q, 0, none⟩ = some (.slice (some ⟨g, 0, none⟩) d.p.length cap) := cell_regrown k0.out
  have hcv : ∀ dk osk, (convert 75 9 (.slice (some ⟨w.heap.size, 0, none⟩) 128 cp)).run Try.prog (grow (redrawn W6 dk) osk) = .ok (.string (strOfNums F)) (grow (redrawn W6 dk) osk) := fun dk osk =>
    conv_str 75 5 9 Try.underlying75 Try.underlying5 Try.underlying9 (hS6.out.below (below_regrown W6 dk osk)) 128 cp hlen.out.symm
  refine wp_region_headT_below 9 (by kernel_rfl) (by kernel_rfl) ?_
  simp only [List.take_succ_cons, List.take_zero, List.drop_succ_cons, List.drop_zero]
  repeat (first | go_big_quiet_step (fail) | quiet_step (fail))
  refine wpQuiet_nil ?_
  rintro _ ⟨⟨dq2, osq2⟩, rfl⟩
  have hb7 := below_regrown W6 dq2 osq2
  have hD7 := Bx.mk (hD6.out.later hb7)
  have hB7 : Bx (Below w.heap.size w (grow (redrawn W6 dq2) osq2)) := ⟨hB6.out.trans (hb7.mono hB6.out.size)⟩
  clear c0 hcv hS6 hb7 hD6 hB6 k0
  generalize grow (redrawn W6 dq2) osq2 = W7 at *
  have p0 := hD7.out.pg.at_ i 0 hil (by omega)
  have f0 := hD7.out.pg.free i 0 hil (by omega)
  have r0 := hD7.out.pg.set hil (j := 0) (by omega) (.string (strOfNums F))
  simp only [Nat.add_zero] at p0 f0 r0
  have hD8 : Bx (RkIs (W7.setCell ⟨g, i * 3, none⟩ (.string (strOfNums F))) q g cap { d with p := d.p.modify i fun x => (flip x.1 qq s, x.2) }) := by
    refine ⟨hD7.out.page (fun x : Pg => (flip x.1 qq s, x.2)) (fun y hy hy2 => ?_) (chg_cell _ _ _ _) (r0.congr fun a b ha hb => ?_)⟩
    · rw [hx.out] at hy
      injection hy with hy
      subst hy
      refine ⟨?_, ?_, hy2.2.2⟩
      · show (flip x.1 qq s).length = 128
        rw [hF.out]; exact hlen.out
      · show Byt (flip x.1 qq s)
        rw [hF.out]; exact hbyt.out
    · unfold upd
      by_cases e : a = i
      · subst e
        rw [fof_modify_at hx.out, fof_at hx.out]
        match b, hb with
        | 0, _ => simp [rcell, hF.out]
        | 1, _ => simp [rcell]
        | 2, _ => simp [rcell]
      · rw [fof_modify _ e]
        simp [e]
  have hC8 : Bx (Chg (In2 q g) w (W7.setCell ⟨g, i * 3, none⟩ (.string (strOfNums F)))) := ⟨(Chg.ofBelow hB7.out (In2 q g)).setCell (.inl (.inr rfl)) _⟩
  clear hD7 hB7 r0
  go_wp2_with fail
  go_ret
  exact ⟨rfl, hD8.out, hC8.out⟩
end Go.Proofs.Ytaajkhdmeghnbaa
