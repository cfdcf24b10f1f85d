/- The sanity examples. -/
import Derived.Test.YtaajkhdmeghnbaaSnp
namespace Go.Proofs.Ytaajkhdmeghnbaa
open Go.RowKit Go.Sort

/-- the disk and its clone, apart, all in blocks from B on -/
structure Two (B p g mb cap m p' g' mb' cap' m' : Nat) (d d' : Dk) (w : World) : Prop where
  dk : DkIs w p g mb cap m d
  ck : DkIs w p' g' mb' cap' m' d'
  ap : ∀ k, In3 p g mb k → ¬ In3 p' g' mb' k
  lo : ∀ k, In3 p g mb k → B ≤ k
  lo' : ∀ k, In3 p' g' mb' k → B ≤ k
section
variable {B p g mb cap m p' g' mb' cap' m' : Nat} {d d' d2 : Dk} {w w' : World}
theorem Two.ofD (h : Two B p g mb cap m p' g' mb' cap' m' d d' w) {m2 : Nat} (hd : DkIs w' p g mb cap m2 d2) (hc : Chg (In3 p g mb) w w') : Two B p g mb cap m2 p' g' mb' cap' m' d2 d' w' :=
  ⟨hd, h.ck.chg hc (fun k hk e => h.ap k e hk), h.ap, h.lo, h.lo'⟩
theorem Two.later (h : Two B p g mb cap m p' g' mb' cap' m' d d' w) (hb : Below w.heap.size w w') : Two B p g mb cap m p' g' mb' cap' m' d d' w' := ⟨h.dk.later hb, h.ck.later hb, h.ap, h.lo, h.lo'⟩
theorem Two.bel {w0 : World} (h : Two B p g mb cap m p' g' mb' cap' m' d d' w) (hb : Below B w0 w) (hB : B ≤ w.heap.size) (hc : Chg (In3 p g mb) w w') : Below B w0 w' := hb.trans (hc.below hB fun k hk e => by have := h.lo k e; omega)
end
theorem Slv.chg {S : Nat → Prop} {w w' : World} {a : Option Addr} {vs : List Value} (h : Slv w a vs) (hc : Chg S w w') (hn : ∀ b o, a = some ⟨b, o, none⟩ → ¬ S b) : Slv w' a vs := by
  intro i x hx
  obtain ⟨b, off, rfl, hcell⟩ := h i x hx
  exact ⟨b, off, rfl, (cell_of_heap (hc.block b (block_lt_of_cell hcell) (hn b off rfl)) _).trans hcell⟩
theorem held1_on {w W W' : World} {a : Addr} {x : Value} (h : Below w.heap.size w W ∧ W.cell? a = some x) (hb : Below W.heap.size W W') : Below w.heap.size w W' ∧ W'.cell? a = some x := ⟨below_on h.1 hb, cell_later hb h.2⟩
theorem held1_al {w W : World} {a : Addr} {x : Value} (h : Below w.heap.size w W ∧ W.cell? a = some x) (o : Obj) : Below w.heap.size w (W.alloc o) ∧ (W.alloc o).cell? a = some x := held1_on h ((Below.refl _ _).alloc (Nat.le_refl _) _)
theorem sl_held {w W : World} {R : Prop} {a : Option Addr} {xs : List Int} (hs : Sl w .i64 a xs) (h : Below w.heap.size w W ∧ R) : Sl W .i64 a xs := hs.below h.1
theorem sl_one (W : World) (x : Int) (t : TypeId) : Sl (W.alloc (.cells #[.int .i64 x] t)) .i64 (some ⟨W.heap.size, 0, none⟩) [x] := fun i v hx => ⟨_, 0, rfl, by
  match i with
  | 0 => simp at hx; subst hx; exact cell_new _ _ _
  | i + 1 => simp at hx⟩
theorem str_lit (l : List UInt8) : (⟨l.toArray⟩ : ByteArray) = strOfNums (l.map fun b => (b.toNat : Int)) := by
  have h := str_bs ⟨l.toArray⟩
  unfold bs at h
  exact h.symm
/-- what the examples come to -/
structure SanF (S0 S1 S2 S3 S4 S5 S6 S7 S8 : Dk) : Prop where
  e1 : S0.write 0 1 [97, 98, 99] = (S1, 0)
  r1 : S1.read 0 = ([0, 97, 98, 99] ++ List.replicate 124 0, 0)
  im : S1.image = [List.replicate 128 0, List.replicate 128 0]
  pe : pendOf S1.p = [0]
  m2 : S1.mount [3] = S2
  r2 : S2.read 0 = ([0, 97, 98] ++ List.replicate 125 0, 0)
  e3 : S2.write 1 127 [120] = (S3, 0)
  e4 : S3.flush = (S4, 0)
  e5 : S4.rot 1 1016 = (S5, 0)
  r5 : S5.read 1 = (List.replicate 127 0 ++ [121], 0)
  t6 : S5.setTrip 1 = S6
  e7 : S6.write 0 0 [] = (S7, 0)
  e8 : S7.flush = (S8, 20)
  r8 : S8.read 0 = ([], 20)
  up : S8.off = true
  len : S8.p.length = 2
  e9 : S8.rot 0 1024 = (S8, 1)
set_option maxRecDepth 100000 in
set_option maxHeartbeats 1000000 in
theorem sanity_gen (S1 S2 S3 S4 S5 S6 S7 S8 : Dk) (F : SanF (mkDk 2) S1 S2 S3 S4 S5 S6 S7 S8) (w : World) : Calls Try.prog 10 #[] w (TruePost w) := by
  have q1 : Calls Try.prog 11 #[.int .i64 2] w (NewPost 2 w) := new_ok w 2 (by omega) (by omega)
  have q2 := fun (W : World) => new_bad W 0 (.inl (by omega))
  unfold NewPost at q1
  generalize mkDk 2 = S0 at *
  replace q1 := Bx.mk q1
  replace q2 := Bx.mk q2
  have F := Bx.mk F
  have a1 : strOfNums [97, 98, 99] = ⟨#[97, 98, 99]⟩ := by decide +kernel
  have a2 : strOfNums [120] = ⟨#[120]⟩ := by decide +kernel
  have a3 : strOfNums [] = ⟨#[]⟩ := by decide +kernel
  replace a1 := Bx.mk a1
  replace a2 := Bx.mk a2
  replace a3 := Bx.mk a3
  go_enter Try.func10, Try.ntmps10
  go_wp2_with fail
  refine q1.out.mono ?_
  rintro _ w1 ⟨p, g, mb, rfl, hd, hp, hg, hmb, hb1⟩
  replace hd := Bx.mk hd
  replace hb1 := Bx.mk hb1
  have hlo : Bx (∀ k, In3 p g mb k → w.heap.size ≤ k) := ⟨fun k hk => by rcases hk with rfl | rfl | rfl; exact hp; exact hg; exact hmb⟩
  clear hp hg hmb
  go_wp2_with fail
  refine (q2.out _).mono ?_
  rintro _ _ ⟨rfl, rfl⟩
  go_upto_region 5 with fail
  have hC := write_any w1 p g mb 2 0 S0 hd.out (by omega) 0 1 [97, 98, 99] (fun x hx => by simp at hx; omega) (by decide) (by omega)
  rw [a1.out, F.out.e1] at hC
  replace hC := Bx.mk hC
  clear q1 q2
  go_wp2_with fail
  refine hC.out.mono ?_
  rintro _ w2 ⟨rfl, hd2, hc2⟩
  replace hd2 := Bx.mk hd2
  have hB2 : Bx (Below w.heap.size w w2) := ⟨hb1.out.trans (hc2.below hb1.out.size fun k hk e => by have := hlo.out k e; omega)⟩
  clear hC hd hb1 hc2
  go_upto_region 6 with fail
  have hR := read_any w2 p g mb 2 (0 + 1) S1 hd2.out 0
  rw [F.out.r1] at hR
  generalize hT1 : strOfNums ([0, 97, 98, 99] ++ List.replicate 124 0) = T1 at *
  replace hT1 := Bx.mk hT1
  replace hR := Bx.mk hR
  go_wp2_with fail
  refine hR.out.mono ?_
  rintro _ w3 ⟨rfl, hb3⟩
  have hB3 := Bx.mk (below_on hB2.out hb3)
  have hd3 := Bx.mk (hd2.out.later hb3)
  clear hd2 hB2 hb3 hR
  go_upto_region 7 with fail
  have hI := Bx.mk (image_any w3 p g mb 2 (0 + 1) S1 hd3.out)
  go_wp2_with fail
  refine hI.out.mono ?_
  rintro _ w4 ⟨v1, rfl, ho1, hb4⟩
  obtain ⟨av, cv, rfl, hs1⟩ := ho1.form
  have hap1 : Bx (∀ b o, av = some ⟨b, o, none⟩ → ¬ In3 p g mb b) := ⟨fun b o e hk => by
    have l := hd3.out.lt
    have := (ho1.lt b (by rw [e]; rfl)).1
    rcases hk with rfl | rfl | rfl <;> omega⟩
  rw [F.out.im] at hs1
  have hlen1 : (strs S1.image).length = 2 := by rw [F.out.im]; rfl
  rw [hlen1]
  replace hs1 := Bx.mk hs1
  have hB4 := Bx.mk (below_on hB3.out hb4)
  have hd4 := Bx.mk (hd3.out.later hb4)
  clear hd3 hB3 hb4 hI ho1 hlen1
  go_wp2_with fail
  refine (pend_any w4 p g mb 2 (0 + 1) S1 hd4.out).mono ?_
  rintro _ w5 ⟨v2, rfl, ho2, hb5⟩
  obtain ⟨ap, cp, rfl, hs2⟩ := ho2.form
  have hap2 : Bx (∀ b o, ap = some ⟨b, o, none⟩ → ¬ In3 p g mb b) := ⟨fun b o e hk => by
    have l := hd4.out.lt
    have := (ho2.lt b (by rw [e]; rfl)).1
    rcases hk with rfl | rfl | rfl <;> omega⟩
  rw [F.out.pe] at hs2
  have hlen2 : (ints (pendOf S1.p)).length = 1 := by rw [F.out.pe]; rfl
  rw [hlen2]
  replace hs1 := Bx.mk (hs1.out.below hb5)
  replace hs2 := Bx.mk hs2
  have hB5 := Bx.mk (below_on hB4.out hb5)
  have hd5 := Bx.mk (hd4.out.later hb5)
  clear hd4 hB4 hb5 ho2 hlen2
  go_upto_region 8 with fail
  go_wp2_with fail
  refine (clone_any w5 p g mb 2 (0 + 1) S1 hd5.out (by omega)).mono ?_
  rintro _ w6 ⟨p', g', mb', cap', rfl, hk6, hp', hg', hmb', hb6⟩
  have HT : Bx (Two w.heap.size p g mb 2 (0 + 1) p' g' mb' cap' (0 + 1) S1 S1 w6) := by
    have hl := hd5.out.lt
    have hs := hB5.out.size
    refine ⟨⟨hd5.out.later hb6, hk6, fun k hk e => ?_, hlo.out, fun k hk => ?_⟩⟩
    · rcases hk with rfl | rfl | rfl <;> rcases e with rfl | rfl | rfl <;> omega
    · rcases hk with rfl | rfl | rfl <;> omega
  replace hs1 := Bx.mk (hs1.out.below hb6)
  replace hs2 := Bx.mk (hs2.out.below hb6)
  have hB6 := Bx.mk (below_on hB5.out hb6)
  clear hd5 hB5 hb6 hk6 hp' hg' hmb'
  go_upto_region 9 with fail
  go_wp2_with fail
  have hal : Bx (Below w6.heap.size w6 (w6.alloc (.cells #[.int .i64 3] 3))) := ⟨(Below.refl _ _).alloc (Nat.le_refl _) _⟩
  have hM := mount_any (w6.alloc (.cells #[.int .i64 3] 3)) p g mb 2 (0 + 1) S1 (HT.out.dk.later hal.out) (some ⟨w6.heap.size, 0, none⟩) 1 [3] (by decide) (fun i x hx => ⟨_, 0, rfl, by
    match i with
    | 0 => simp at hx; subst hx; exact cell_new _ _ _
    | i + 1 => simp at hx⟩) (fun b o e _ hk => by
      injection e with e
      injection e with e _ _
      have := HT.out.dk.lt
      rcases hk with rfl | rfl | rfl <;> omega)
  rw [F.out.m2] at hM
  replace hM := Bx.mk hM
  refine hM.out.mono ?_
  rintro _ w7 ⟨rfl, hd7, hc7⟩
  have HT7 := Bx.mk ((HT.out.later hal.out).ofD hd7 hc7)
  have hB7 := Bx.mk ((HT.out.later hal.out).bel (below_on hB6.out hal.out) (below_on hB6.out hal.out).size hc7)
  replace hs1 := Bx.mk ((hs1.out.below hal.out).chg hc7 hap1.out)
  replace hs2 := Bx.mk ((hs2.out.below hal.out).chg hc7 (fun b o e _ => hap2.out b o e))
  clear hM HT hd7 hc7 hB6 hal
  go_upto_region 10 with fail
  have hR2 := read_any w7 p g mb 2 (0 + 1) S2 HT7.out.dk 0
  rw [F.out.r2] at hR2
  generalize hT2 : strOfNums ([0, 97, 98] ++ List.replicate 125 0) = T2 at *
  replace hT2 := Bx.mk hT2
  replace hR2 := Bx.mk hR2
  go_wp2_with fail
  refine hR2.out.mono ?_
  rintro _ w8 ⟨rfl, hb8⟩
  have hB8 := Bx.mk (below_on hB7.out hb8)
  have HT8 := Bx.mk (HT7.out.later hb8)
  replace hs1 := Bx.mk (hs1.out.below hb8)
  replace hs2 := Bx.mk (hs2.out.below hb8)
  clear HT7 hB7 hb8 hR2
  go_upto_region 11 with fail
  obtain ⟨bi, oi, rfl, hci⟩ := hs1.out 0 _ rfl
  rw [Nat.add_zero] at hci
  have hci : w8.cell? ⟨bi, oi, none⟩ = some (.string (strOfNums (List.replicate 128 0))) := hci
  have hz1 : ∀ W, Calls Try.prog 30 #[.int .i64 124] W fun e w' => e = .returned (.string (strOfNums (List.replicate 124 0))) ∧ Below W.heap.size W w' := fun W => zeros_any W 124 (by omega)
  have hz2 : ∀ W, Calls Try.prog 30 #[.int .i64 128] W fun e w' => e = .returned (.string (strOfNums (List.replicate 128 0))) ∧ Below W.heap.size W w' := fun W => zeros_any W 128 (by omega)
  have hz3 : ∀ W, Calls Try.prog 30 #[.int .i64 125] W fun e w' => e = .returned (.string (strOfNums (List.replicate 125 0))) ∧ Below W.heap.size W w' := fun W => zeros_any W 125 (by omega)
  have hz4 : ∀ W, Calls Try.prog 30 #[.int .i64 127] W fun e w' => e = .returned (.string (strOfNums (List.replicate 127 0))) ∧ Below W.heap.size W w' := fun W => zeros_any W 127 (by omega)
  have y1 : (strOfNums (List.replicate 124 0)).size = 124 := by rw [strOfNums_size, List.length_replicate]
  have y3 : (strOfNums (List.replicate 125 0)).size = 125 := by rw [strOfNums_size, List.length_replicate]
  have n1 : T1 = (⟨#[0, 97, 98, 99]⟩ : ByteArray) ++ strOfNums (List.replicate 124 0) := by rw [← hT1.out, ← str_append]; congr 1
  have n2 : T2 = (⟨#[0, 97, 98]⟩ : ByteArray) ++ strOfNums (List.replicate 125 0) := by rw [← hT2.out, ← str_append]; congr 1
  have hSI : Bx (∀ W b cb, Sl W .i64 ap [0] → Sl W .i64 b [0] → Calls Try.prog 27 #[.slice ap 1 cp, .slice b 1 cb] W fun e w' => e = .returned (.bool true) ∧ Below W.heap.size W w') := ⟨fun W b cb h1 h2 => sameInts_eq W ap b cp cb [0] (by decide) h1 h2⟩
  have hs3 : Bx (Sl w8 .i64 ap [0]) := ⟨hs2.out⟩
  generalize hg1 : strOfNums (List.replicate 124 0) = Z1 at *
  generalize hg2 : strOfNums (List.replicate 128 0) = Z2 at *
  generalize hg3 : strOfNums (List.replicate 125 0) = Z3 at *
  generalize hg4 : strOfNums (List.replicate 127 0) = Z4 at *
  replace hz1 := Bx.mk hz1
  replace hz2 := Bx.mk hz2
  replace hz3 := Bx.mk hz3
  replace hz4 := Bx.mk hz4
  replace hg1 := Bx.mk hg1
  replace hg2 := Bx.mk hg2
  replace hg3 := Bx.mk hg3
  replace hg4 := Bx.mk hg4
  have m1 : (T1.toList == ((⟨#[0, 97, 98, 99]⟩ : ByteArray) ++ Z1).toList) = true := by rw [n1]; simp
  have m2 : (T2.toList == ((⟨#[0, 97, 98]⟩ : ByteArray) ++ Z3).toList) = true := by rw [n2]; simp
  have m3 : (Z2.toList == Z2.toList) = true := by simp
  replace n1 := Bx.mk n1
  replace n2 := Bx.mk n2
  have y2 : (4 : Nat) + 124 ≤ 1000 := by omega
  have y4 : (3 : Nat) + 125 ≤ 1000 := by omega
  clear hs1 hs2 hap1 hap2
  go_cut [106] from 63 to 106 (fun v wx => v = .bool false ∧ Bx (Below w8.heap.size w8 wx))
  case first =>
    go_region_held3 (fun w' => Below w8.heap.size w8 w' ∧ w'.cell? ⟨bi, oi, none⟩ = some (.string Z2))
      (first | assumption | exact held1_al (by assumption) _ | exact held1_on (by assumption) hb9.out | exact ⟨(Below.refl _ _).drew, hci⟩)
      ((first
        | (go_at_call 30; (first | with_reducible refine (hz1.out _).mono ?_ | with_reducible refine (hz2.out _).mono ?_ | with_reducible refine (hz3.out _).mono ?_); rintro _ w9 ⟨rfl, hb9⟩; replace hb9 := Bx.mk hb9)
        | (go_at_call 27; refine (hSI.out _ _ _ (sl_held hs3.out (by assumption)) (sl_one _ _ _)).mono ?_; rintro _ w9 ⟨rfl, hb9⟩; replace hb9 := Bx.mk hb9)))
    go_wp2_with fail
    go_meet
    exact ⟨rfl, ⟨(by assumption : _ ∧ _).1⟩⟩
  case rest =>
  obtain ⟨rfl, hb12⟩ := hcut
  have HT12 := Bx.mk (HT8.out.later hb12.out)
  have hB12 := Bx.mk (below_on hB8.out hb12.out)
  clear HT8 hB8 hb12 hs3 hci m1 m2 m3 y1 y2 y3 y4
  go_upto_region 13 with fail
  have hR3 := read_any wc p' g' mb' cap' (0 + 1) S1 HT12.out.ck 0
  rw [F.out.r1, hT1.out] at hR3
  replace hR3 := Bx.mk hR3
  go_wp2_with fail
  refine hR3.out.mono ?_
  rintro _ w13 ⟨rfl, hb13⟩
  have HT13 := Bx.mk (HT12.out.later hb13)
  have hB13 := Bx.mk (below_on hB12.out hb13)
  clear HT12 hB12 hb13 hR3
  go_upto_region 14 with fail
  have hC3 := write_any w13 p g mb 2 (0 + 1) S2 HT13.out.dk (by omega) 1 127 [120] (fun x hx => by simp at hx; omega) (by decide) (by omega)
  rw [a2.out, F.out.e3] at hC3
  replace hC3 := Bx.mk hC3
  go_wp2_with fail
  refine hC3.out.mono ?_
  rintro _ w14 ⟨rfl, hd14, hc14⟩
  have HT14 := Bx.mk (HT13.out.ofD hd14 hc14)
  have hB14 := Bx.mk (HT13.out.bel hB13.out hB13.out.size hc14)
  clear HT13 hB13 hC3 hd14 hc14
  go_wp2_with fail
  have hC4 := flush_any w14 p g mb 2 (0 + 1 + 1) S3 HT14.out.dk
  rw [F.out.e4] at hC4
  refine hC4.mono ?_
  rintro _ w15 ⟨rfl, hd15, hc15⟩
  have HT15 := Bx.mk (HT14.out.ofD hd15 hc15)
  have hB15 := Bx.mk (HT14.out.bel hB14.out hB14.out.size hc15)
  clear HT14 hB14 hC4 hd15 hc15
  go_wp2_with fail
  have hC5 := rot_any w15 p g mb 2 (0 + 1 + 1) S4 HT15.out.dk 1 1016
  rw [F.out.e5] at hC5
  refine hC5.mono ?_
  rintro _ w16 ⟨rfl, hd16, hc16⟩
  have HT16 := Bx.mk (HT15.out.ofD hd16 hc16)
  have hB16 := Bx.mk (HT15.out.bel hB15.out hB15.out.size hc16)
  clear HT15 hB15 hC5 hd16 hc16
  go_upto_region 15 with fail
  have hR6 := read_any w16 p g mb 2 (0 + 1 + 1) S5 HT16.out.dk 1
  rw [F.out.r5] at hR6
  generalize hT3 : strOfNums (List.replicate 127 0 ++ [121]) = T3 at *
  replace hT3 := Bx.mk hT3
  go_wp2_with fail
  refine hR6.mono ?_
  rintro _ w17 ⟨rfl, hb17⟩
  have HT17 := Bx.mk (HT16.out.later hb17)
  have hB17 := Bx.mk (below_on hB16.out hb17)
  clear HT16 hB16 hb17 hR6
  go_upto_region 16 with fail
  have hC7 := trip_any w17 p g mb 2 (0 + 1 + 1) S5 HT17.out.dk 1 (by omega)
  rw [F.out.t6] at hC7
  go_wp2_with fail
  refine hC7.mono ?_
  rintro _ w18 ⟨rfl, hd18, hc18⟩
  have hc18 : Chg (In3 p g mb) w17 w18 := DkIs.chgP hc18
  have HT18 := Bx.mk (HT17.out.ofD hd18 hc18)
  have hB18 := Bx.mk (HT17.out.bel hB17.out hB17.out.size hc18)
  clear HT17 hB17 hC7 hd18 hc18
  go_upto_region 17 with fail
  have hC8 := write_any w18 p g mb 2 (0 + 1 + 1) S6 HT18.out.dk (by omega) 0 0 [] (fun x hx => by simp at hx) (by decide) (by omega)
  rw [a3.out, F.out.e7] at hC8
  go_wp2_with fail
  refine hC8.mono ?_
  rintro _ w19 ⟨rfl, hd19, hc19⟩
  have HT19 := Bx.mk (HT18.out.ofD hd19 hc19)
  have hB19 := Bx.mk (HT18.out.bel hB18.out hB18.out.size hc19)
  clear HT18 hB18 hC8 hd19 hc19
  go_wp2_with fail
  have hC9 := flush_any w19 p g mb 2 (0 + 1 + 1 + 1) S7 HT19.out.dk
  rw [F.out.e8] at hC9
  refine hC9.mono ?_
  rintro _ w20 ⟨rfl, hd20, hc20⟩
  have HT20 := Bx.mk (HT19.out.ofD hd20 hc20)
  have hB20 := Bx.mk (HT19.out.bel hB19.out hB19.out.size hc20)
  clear HT19 hB19 hC9 hd20 hc20
  go_upto_region 18 with fail
  have hR10 := read_any w20 p g mb 2 (0 + 1 + 1 + 1) S8 HT20.out.dk 0
  rw [F.out.r8] at hR10
  go_wp2_with fail
  refine hR10.mono ?_
  rintro _ w21 ⟨rfl, hb21⟩
  have HT21 := Bx.mk (HT20.out.later hb21)
  have hB21 := Bx.mk (below_on hB20.out hb21)
  clear HT20 hB20 hb21 hR10
  go_upto_region 19 with fail
  have n3 : T3 = Z4 ++ (⟨#[121]⟩ : ByteArray) := by rw [← hT3.out, ← hg4.out, ← str_append]; congr 1
  have y5 : Z4.size = 127 := by rw [← hg4.out, strOfNums_size, List.length_replicate]
  have m4 : (T3.toList == (Z4 ++ (⟨#[121]⟩ : ByteArray)).toList) = true := by rw [n3]; simp
  have m5 : (T1.toList == T1.toList) = true := by simp
  have y6 : (127 : Nat) + 1 ≤ 1000 := by omega
  replace n3 := Bx.mk n3
  have hU := up_any
  go_wp2_with fail
  refine (hz4.out _).mono ?_
  rintro _ w22 ⟨rfl, hb22⟩
  have HT22 := Bx.mk (HT21.out.later hb22)
  have hB22 := Bx.mk (below_on hB21.out hb22)
  have hU1 := up_any w22 p g mb 2 (0 + 1 + 1 + 1) S8 HT22.out.dk
  rw [F.out.up] at hU1
  have hL1 := len_any w22 p g mb 2 (0 + 1 + 1 + 1) S8 HT22.out.dk
  rw [F.out.len] at hL1
  have hX1 := rot_any w22 p g mb 2 (0 + 1 + 1 + 1) S8 HT22.out.dk 0 1024
  rw [F.out.e9] at hX1
  replace hU1 := Bx.mk hU1
  replace hL1 := Bx.mk hL1
  replace hX1 := Bx.mk hX1
  clear HT21 hB21 hb22 hU
  go_wp2_with (first
    | (go_at_call 20; refine hU1.out.mono ?_; rintro _ _ ⟨rfl, rfl⟩)
    | (go_at_call 31; refine hL1.out.mono ?_; rintro _ _ ⟨rfl, rfl⟩)
    | (go_at_call 26; refine hX1.out.mono ?_; rintro _ w23 ⟨rfl, hd23, hc23⟩; replace hd23 := Bx.mk hd23; replace hc23 := Bx.mk hc23))
  go_ret
  exact ⟨rfl, HT22.out.bel hB22.out hB22.out.size hc23.out⟩
theorem san_all : SanF (mkDk 2) s1 s2 s3 s4 s5 s6 s7 s8 :=
  ⟨Prod.ext rfl san_e1, san_r1, san_im, san_pe, rfl, san_r2, Prod.ext rfl san_e3, Prod.ext rfl san_e4, Prod.ext rfl san_e5, san_r5, rfl, Prod.ext rfl san_e7, Prod.ext rfl san_e8, san_r8, san_up, san_len, san_e9⟩
theorem sanity_true (w : World) : Calls Try.prog 10 #[] w (TruePost w) := sanity_gen _ _ _ _ _ _ _ _ san_all w
end Go.Proofs.Ytaajkhdmeghnbaa
