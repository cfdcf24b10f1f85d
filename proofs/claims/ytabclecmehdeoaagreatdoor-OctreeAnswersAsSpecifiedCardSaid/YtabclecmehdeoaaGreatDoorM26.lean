/- Gp9: joined by program, for one claim. -/
import Derived.Test.YtabclecmehdeoaaGreatDoorM25
import Derived.Test.YtabclecmehdeoaaGreatDoorM4
import Derived.Test.YtabclecmehdeoaaGreatDoorM23
import Derived.Test.YtabclecmehdeoaaGreatDoorM20
section
namespace Go.Proofs.YtabclecmehdeoaaGreatDoor
open Go.RowKit Go.Sort Go.Maps
open Oct
theorem can_cases (f : Pt → Int) (n : Nat) (a : Pt) : (∃ c, Tr.can f n a = .uni c) ∨ (n = 0 ∧ ∃ l, Tr.can f n a = .brick l ∧ l.length = 64) ∨ ∃ m ch, n = m + 1 ∧ Tr.can f n a = .node (m + 3) ch ∧ ∀ i : Fin 8, ch i = Tr.can f m (Tr.cor a m i.val) := by
 cases n with
 | zero =>
   unfold Tr.can Tr.mkBrick
   split
   · exact .inl ⟨_, rfl⟩
   · exact .inr (.inl ⟨rfl, _, rfl, by simp⟩)
 | succ m =>
   have hc : Tr.can f (m + 1) a = Tr.mkInner (m + 3) fun i => Tr.can f m (Tr.cor a m i.val) := rfl
   rw [hc]
   unfold Tr.mkInner
   split
   · rename_i h
     obtain ⟨c, hc⟩ := h.1
     exact .inl ⟨c, hc⟩
   · exact .inr (.inr ⟨m, _, rfl, rfl, fun _ => rfl⟩)
def ChOf (ch : Fin 8 → Tr) (v : Value) (w : World) : Prop := ∃ g pc, v = .slice (some ⟨g, 0, none⟩) 8 pc ∧ Slv w (some ⟨g, 0, none⟩) (strs (kidsE ch))
def PtrS (o : Nat) (S : ByteArray) (v : Value) (w : World) : Prop := ∃ g, v = .pointer (some ⟨g, o, none⟩) ∧ w.cell? ⟨g, o, none⟩ = some (.string S)
theorem pts2 {w W : World} {ax ay az px py pz : Int} (h : W = (w.alloc (.cells #[.int .i64 ax, .int .i64 ay, .int .i64 az] 23)).alloc (.cells #[.int .i64 px, .int .i64 py, .int .i64 pz] 23)) :
 Below w.heap.size w W ∧ Bk W (w.heap.size) #[.int .i64 ax, .int .i64 ay, .int .i64 az] 23 ∧ Bk W (w.heap.size + 1) #[.int .i64 px, .int .i64 py, .int .i64 pz] 23 := by
 rw [h]
 exact ⟨((Below.refl _ _).alloc (Nat.le_refl _) _).alloc (by simp) _, blk_old (blk_new _ _ _ (by simp)), blk_new _ _ _ (by simp)⟩
set_option maxRecDepth 100000 in
set_option maxHeartbeats 1000000 in
theorem get9_uni (c : Int) (hc : 0 ≤ c ∧ c ≤ 255) (ax ay az px py pz dd : Int) (w : World) :
 Calls Tryz.prog 46 #[.string (strOfNums (Tr.enc (.uni c))), .agg #[.int .i64 ax, .int .i64 ay, .int .i64 az], .int .i64 dd, .agg #[.int .i64 px, .int .i64 py, .int .i64 pz]] w fun e w' => e = .returned (.int .i64 c) ∧ Below w.heap.size w w' := by
 have hby : Byt (Tr.enc (.uni c)) := Tr.enc_byt _ hc
 have hi0 := fun W : World => idx_str (P := Tryz.prog) 9 Tryz.underlying9 hby (k := 0) (x := 117) (by simp [Tr.enc]) W
 rw [show ((0 : Nat) : Int) = 0 from rfl] at hi0
 have hi1 := fun W : World => idx_str (P := Tryz.prog) 9 Tryz.underlying9 hby (k := 1) (x := c) (by simp [Tr.enc]) W
 rw [show ((1 : Nat) : Int) = 1 from rfl] at hi1
 have hwrap : IntKind.i64.wrap c = c := IntWalk.i64_in _ (by omega)
 generalize strOfNums (Tr.enc (.uni c)) = S at *
 clear hby
 go_enter Tryz.func46, Tryz.ntmps46
 go_wp2_with fail
 go_ret
 exact ⟨rfl, ((Below.refl _ _).alloc (Nat.le_refl _) _).alloc (by simp) _⟩
set_option maxRecDepth 100000 in
set_option maxHeartbeats 1000000 in
theorem get9_brick (l : List Int) (hl : l.length = 64) (hbl : Byt l) (k : Nat) (hk : k < 64) (ax ay az px py pz dd : Int) (hix : ∀ W, Calls Tryz.prog 93 #[.agg #[.int .i64 ax, .int .i64 ay, .int .i64 az], .agg #[.int .i64 px, .int .i64 py, .int .i64 pz]] W fun e w' => e = .returned (.int .i64 (k : Int)) ∧ Below W.heap.size W w') (w : World) :
 Calls Tryz.prog 46 #[.string (strOfNums (Tr.enc (.brick l))), .agg #[.int .i64 ax, .int .i64 ay, .int .i64 az], .int .i64 dd, .agg #[.int .i64 px, .int .i64 py, .int .i64 pz]] w fun e w' => e = .returned (.int .i64 (l.getD k 0)) ∧ Below w.heap.size w w' := by
 have hby : Byt (Tr.enc (.brick l)) := Tr.enc_byt (.brick l) ⟨hl, hbl⟩
 obtain ⟨x, hx⟩ : ∃ x, l[k]? = some x := ⟨_, List.getElem?_eq_getElem (by omega)⟩
 have hg : l.getD k 0 = x := by rw [List.getD_eq_getElem?_getD, hx]; rfl
 have hxb := hbl x (List.mem_of_getElem? hx)
 rw [hg]
 have hi0 := fun W : World => idx_str (P := Tryz.prog) 9 Tryz.underlying9 hby (k := 0) (x := 98) (by simp [Tr.enc]) W
 rw [show ((0 : Nat) : Int) = 0 from rfl] at hi0
 have hik := fun W : World => idx_str (P := Tryz.prog) 9 Tryz.underlying9 hby (k := k + 1) (x := x) (by simp [Tr.enc, hx]) W
 rw [show ((k + 1 : Nat) : Int) = 1 + (k : Int) by omega] at hik
 have hwrap : IntKind.i64.wrap x = x := IntWalk.i64_in _ (by omega)
 have hix := Bx.mk hix
 have b0 : (0 : Int) ≤ (k : Int) := by omega
 have b1 : (k : Int) < 64 := by omega
 generalize strOfNums (Tr.enc (.brick l)) = S at *
 clear hby hg hx hl hbl
 go_enter Tryz.func46, Tryz.ntmps46
 go_upto_region 1 with fail
 generalize hW : World.alloc (World.alloc w _) _ = W
 have HP := Bx.mk (pts2 hW.symm)
 clear hW
 obtain ⟨ca0, ca1, ca2⟩ := HP.out.2.1.c3
 obtain ⟨cp0, cp1, cp2⟩ := HP.out.2.2.c3
 go_wp2_with fail
 refine (hix.out _).mono ?_
 rintro _ w1 ⟨rfl, hb1⟩
 have HB := Bx.mk (HP.out.1.trans (hb1.mono HP.out.1.size))
 clear hb1 HP ca0 ca1 ca2 cp0 cp1 cp2 hix
 go_wp2_with fail
 go_ret
 exact ⟨rfl, HB.out⟩
set_option maxRecDepth 100000 in
set_option maxHeartbeats 1000000 in
theorem get9_node (m : Nat) (hm : m ≤ 11) (ch : Fin 8 → Tr) (h : Tr.WF (.node (m + 3) ch)) (hl : (Tr.enc (.node (m + 3) ch)).length ≤ 1000000000000000) (k : Nat) (hk : k < 8) (ax ay az px py pz x y z r : Int)
 (hoc : ∀ W, Calls Tryz.prog 91 #[.agg #[.int .i64 ax, .int .i64 ay, .int .i64 az], .int .i64 ((m : Int) + 3), .agg #[.int .i64 px, .int .i64 py, .int .i64 pz]] W fun e w' => e = .returned (.int .i64 (k : Int)) ∧ Below W.heap.size W w')
 (hcor : ∀ W, Calls Tryz.prog 80 #[.agg #[.int .i64 ax, .int .i64 ay, .int .i64 az], .int .i64 ((m : Int) + 3), .int .i64 (k : Int)] W fun e w' => e = .returned (.agg #[.int .i64 x, .int .i64 y, .int .i64 z]) ∧ Below W.heap.size W w')
 (hih : ∀ W, Calls Tryz.prog 46 #[.string (strOfNums (Tr.enc (ch ⟨k, hk⟩))), .agg #[.int .i64 x, .int .i64 y, .int .i64 z], .int .i64 ((m : Int) + 2), .agg #[.int .i64 px, .int .i64 py, .int .i64 pz]] W fun e w' => e = .returned (.int .i64 r) ∧ Below W.heap.size W w') (w : World) :
 Calls Tryz.prog 46 #[.string (strOfNums (Tr.enc (.node (m + 3) ch))), .agg #[.int .i64 ax, .int .i64 ay, .int .i64 az], .int .i64 ((m : Int) + 3), .agg #[.int .i64 px, .int .i64 py, .int .i64 pz]] w fun e w' => e = .returned (.int .i64 r) ∧ Below w.heap.size w w' := by
 have hby := Tr.enc_byt _ h
 have hi0 := fun W : World => idx_str (P := Tryz.prog) 9 Tryz.underlying9 hby (k := 0) (x := 110) (by simp [Tr.enc]) W
 rw [show ((0 : Nat) : Int) = 0 from rfl] at hi0
 have hch := Bx.mk (ref9_children (m + 3) ch h hl)
 have hkat := Bx.mk (strs_at (kidsE_at ch hk))
 have hoc := Bx.mk hoc
 have hcor := Bx.mk hcor
 have hih := Bx.mk hih
 have hsub : IntKind.i64.wrap ((m : Int) + 3 - 1) = (m : Int) + 2 := by rw [show (m : Int) + 3 - 1 = (m : Int) + 2 by omega]; exact IntWalk.i64_in _ (by omega)
 generalize strOfNums (Tr.enc (.node (m + 3) ch)) = S at *
 generalize strOfNums (Tr.enc (ch ⟨k, hk⟩)) = Sk at *
 have b0 : (0 : Int) ≤ (k : Int) := by omega
 have b1 : (k : Int) < 8 := by omega
 clear hby h hl
 go_enter Tryz.func46, Tryz.ntmps46
 go_upto_region 1 with fail
 generalize hW : World.alloc (World.alloc w _) _ = W
 have HP := Bx.mk (pts2 hW.symm)
 clear hW
 obtain ⟨ca0, ca1, ca2⟩ := HP.out.2.1.c3
 obtain ⟨cp0, cp1, cp2⟩ := HP.out.2.2.c3
 go_wp2_with fail
 refine (hoc.out _).mono ?_
 rintro _ w1 ⟨rfl, hb1⟩
 have HP1 : Bx (Below w.heap.size w w1 ∧ Bk w1 (w.heap.size) #[.int .i64 ax, .int .i64 ay, .int .i64 az] 23 ∧ Bk w1 (w.heap.size + 1) #[.int .i64 px, .int .i64 py, .int .i64 pz] 23) := ⟨HP.out.1.trans (hb1.mono HP.out.1.size), HP.out.2.1.later hb1, HP.out.2.2.later hb1⟩
 clear hb1 HP ca0 ca1 ca2 cp0 cp1 cp2 hoc
 go_upto_region 6 with fail
 refine wp_region_rel 13 (fun i v w' => match i with
  | 0 => v = .string S
  | 1 => ChOf ch v w'
  | 2 => v = .int .i64 (k : Int)
  | 3 => PtrS k Sk v w'
  | 4 => v = .string Sk
  | 5 => v = .agg #[.int .i64 ax, .int .i64 ay, .int .i64 az]
  | 6 => v = .int .i64 ((m : Int) + 3)
  | 7 => v = .int .i64 (k : Int)
  | 8 => v = .agg #[.int .i64 x, .int .i64 y, .int .i64 z]
  | 9 => v = .int .i64 ((m : Int) + 3)
  | 10 => v = .int .i64 ((m : Int) + 2)
  | 11 => v = .agg #[.int .i64 px, .int .i64 py, .int .i64 pz]
  | _ => v = .int .i64 r) (by kernel_rfl) (by kernel_rfl) 43 (by kernel_rfl) (by rfl) ?_ ?_ ?_
 · intro i hi v u1 u2 hb h
   match i, hi with
   | 0, _ => exact h
   | 1, _ => obtain ⟨g, pc, h1, h2⟩ := h; exact ⟨g, pc, h1, h2.below hb⟩
   | 2, _ => exact h
   | 3, _ => obtain ⟨g, h1, h2⟩ := h; exact ⟨g, h1, cell_later hb h2⟩
   | 4, _ => exact h
   | 5, _ => exact h
   | 6, _ => exact h
   | 7, _ => exact h
   | 8, _ => exact h
   | 9, _ => exact h
   | 10, _ => exact h
   | 11, _ => exact h
   | 12, _ => exact h
 · intro i o hi ho ρ w2 hb hc1 hc2 hc3 hk
   match i, hi with
   | 0, _ =>
     obtain rfl := Option.some.inj ho
     have h2 : ρ (.tmp 0) = .string S := hk 0 (by simp [Op.operands])
     clear hk hb
     go_simp
     exact Below.refl _ _
   | 1, _ =>
     obtain rfl := Option.some.inj ho
     have h2 : ρ (.tmp 30) = .string S := hk 30 (by simp [Op.operands, Call.operands])
     have h4 := (hch.out w2).mono (R' := fun e w'' => ∃ v, e = .returned v ∧ Below w2.heap.size w2 w'' ∧ ChOf ch v w'') (fun e w'' ⟨g, pc, x, y, _, z⟩ => ⟨_, x, z, g, pc, rfl, y⟩)
     have H4 := Bx.mk h4
     clear hk hb h4
     go_simp
     all_goals exact H4.out
   | 2, _ =>
     obtain rfl := Option.some.inj ho
     have h2 : ρ (.tmp 9) = .int .i64 (k : Int) := hk 9 (by simp [Op.operands])
     clear hk hb
     go_simp
     exact Below.refl _ _
   | 3, _ =>
     obtain rfl := Option.some.inj ho
     obtain ⟨g, pc, h2, h3⟩ : ChOf ch (ρ (.tmp 31)) w2 := hk 31 (by simp [Op.operands])
     have h5 : ρ (.tmp 32) = .int .i64 (k : Int) := hk 32 (by simp [Op.operands])
     obtain ⟨b', off, he, hck⟩ := h3 k _ hkat.out
     simp only [Option.some.injEq, Addr.mk.injEq, and_true] at he
     obtain ⟨rfl, rfl⟩ := he
     rw [Nat.zero_add] at hck
     have hck := Bx.mk hck
     clear hk hb h3
     go_simp
     exact ⟨Below.refl _ _, _, rfl, hck.out⟩
   | 4, _ =>
     obtain rfl := Option.some.inj ho
     obtain ⟨g, h2, h3⟩ : PtrS k Sk (ρ (.tmp 33)) w2 := hk 33 (by simp [Op.operands])
     clear hk hb
     go_simp
     exact Below.refl _ _
   | 5, _ =>
     obtain rfl := Option.some.inj ho
     have h2 : ρ (.tmp 5) = .pointer (some ⟨w.heap.size, 0, none⟩) := hk 5 (by simp [Op.operands])
     have kk := HP1.out.2.1.later hb
     obtain ⟨c0, c1, c2⟩ := kk.c3
     clear hk hb kk
     go_simp
     exact Below.refl _ _
   | 6, _ =>
     obtain rfl := Option.some.inj ho
     have h2 : ρ (.tmp 2) = .int .i64 ((m : Int) + 3) := hk 2 (by simp [Op.operands])
     clear hk hb
     go_simp
     exact Below.refl _ _
   | 7, _ =>
     obtain rfl := Option.some.inj ho
     have h2 : ρ (.tmp 9) = .int .i64 (k : Int) := hk 9 (by simp [Op.operands])
     clear hk hb
     go_simp
     exact Below.refl _ _
   | 8, _ =>
     obtain rfl := Option.some.inj ho
     have h2 : ρ (.tmp 35) = .agg #[.int .i64 ax, .int .i64 ay, .int .i64 az] := hk 35 (by simp [Op.operands, Call.operands])
     have h3 : ρ (.tmp 36) = .int .i64 ((m : Int) + 3) := hk 36 (by simp [Op.operands, Call.operands])
     have h5 : ρ (.tmp 37) = .int .i64 (k : Int) := hk 37 (by simp [Op.operands, Call.operands])
     have h4 := (hcor.out w2).mono (R' := fun e w'' => ∃ v, e = .returned v ∧ Below w2.heap.size w2 w'' ∧ v = .agg #[.int .i64 x, .int .i64 y, .int .i64 z]) (fun e w'' ⟨x, y⟩ => ⟨_, x, y, rfl⟩)
     have H4 := Bx.mk h4
     clear hk hb h4
     go_simp
     all_goals exact H4.out
   | 9, _ =>
     obtain rfl := Option.some.inj ho
     have h2 : ρ (.tmp 2) = .int .i64 ((m : Int) + 3) := hk 2 (by simp [Op.operands])
     clear hk hb
     go_simp
     exact Below.refl _ _
   | 10, _ =>
     obtain rfl := Option.some.inj ho
     have h2 : ρ (.tmp 39) = .int .i64 ((m : Int) + 3) := hk 39 (by simp [Op.operands])
     clear hk hb
     go_simp
     exact Below.refl _ _
   | 11, _ =>
     obtain rfl := Option.some.inj ho
     have h2 : ρ (.tmp 7) = .pointer (some ⟨w.heap.size + 1, 0, none⟩) := hk 7 (by simp [Op.operands])
     have kk := HP1.out.2.2.later hb
     obtain ⟨c0, c1, c2⟩ := kk.c3
     clear hk hb kk
     go_simp
     exact Below.refl _ _
   | 12, _ =>
     obtain rfl := Option.some.inj ho
     have h2 : ρ (.tmp 34) = .string Sk := hk 34 (by simp [Op.operands, Call.operands])
     have h3 : ρ (.tmp 38) = .agg #[.int .i64 x, .int .i64 y, .int .i64 z] := hk 38 (by simp [Op.operands, Call.operands])
     have h5 : ρ (.tmp 40) = .int .i64 ((m : Int) + 2) := hk 40 (by simp [Op.operands, Call.operands])
     have h6 : ρ (.tmp 41) = .agg #[.int .i64 px, .int .i64 py, .int .i64 pz] := hk 41 (by simp [Op.operands, Call.operands])
     have h4 := (hih.out w2).mono (R' := fun e w'' => ∃ v, e = .returned v ∧ Below w2.heap.size w2 w'' ∧ v = .int .i64 r) (fun e w'' ⟨x, y⟩ => ⟨_, x, y, rfl⟩)
     have H4 := Bx.mk h4
     clear hk hb h4
     go_simp
     all_goals exact H4.out
 · intro vs W1 hlen hb hR
   match vs, hlen with
   | [v0, v1, v2, v3, v4, v5, v6, v7, v8, v9, v10, v11, v12], _ =>
     have r0 : v0 = .string S := hR 0 v0 rfl
     obtain ⟨g1, pc1, r1, -⟩ : ChOf ch v1 W1 := hR 1 v1 rfl
     have r2 : v2 = .int .i64 (k : Int) := hR 2 v2 rfl
     obtain ⟨g3, r3, -⟩ : PtrS k Sk v3 W1 := hR 3 v3 rfl
     have r4 : v4 = .string Sk := hR 4 v4 rfl
     have r5 : v5 = .agg #[.int .i64 ax, .int .i64 ay, .int .i64 az] := hR 5 v5 rfl
     have r6 : v6 = .int .i64 ((m : Int) + 3) := hR 6 v6 rfl
     have r7 : v7 = .int .i64 (k : Int) := hR 7 v7 rfl
     have r8 : v8 = .agg #[.int .i64 x, .int .i64 y, .int .i64 z] := hR 8 v8 rfl
     have r9 : v9 = .int .i64 ((m : Int) + 3) := hR 9 v9 rfl
     have r10 : v10 = .int .i64 ((m : Int) + 2) := hR 10 v10 rfl
     have r11 : v11 = .agg #[.int .i64 px, .int .i64 py, .int .i64 pz] := hR 11 v11 rfl
     have r12 : v12 = .int .i64 r := hR 12 v12 rfl
     subst r0 r1 r2 r3 r4 r5 r6 r7 r8 r9 r10 r11 r12
     clear hR
     have HB := Bx.mk (HP1.out.1.trans (hb.mono HP1.out.1.size))
     clear hb HP1 hch hcor hih hkat
     simp only [puts, List.take_succ_cons, List.take_zero, List.drop_succ_cons, List.drop_zero, List.map_cons, List.map_nil, List.zip_cons_cons, List.zip_nil_right, List.foldl_cons, List.foldl_nil]
     go_wp2_with fail
     go_ret
     exact ⟨rfl, HB.out⟩
set_option maxRecDepth 100000 in
set_option maxHeartbeats 1000000 in
theorem part9_uni (c : Int) (hc : 0 ≤ c ∧ c ≤ 255) (ax ay az px py pz dd lv : Int) (w : World) :
 Calls Tryz.prog 42 #[.string (strOfNums (Tr.enc (.uni c))), .agg #[.int .i64 ax, .int .i64 ay, .int .i64 az], .int .i64 dd, .agg #[.int .i64 px, .int .i64 py, .int .i64 pz], .int .i64 lv] w fun e w' => e = .returned (.string (strOfNums (Tr.enc (.uni c)))) ∧ Below w.heap.size w w' := by
 have hby : Byt (Tr.enc (.uni c)) := Tr.enc_byt _ hc
 have hi0 := fun W : World => idx_str (P := Tryz.prog) 9 Tryz.underlying9 hby (k := 0) (x := 117) (by simp [Tr.enc]) W
 rw [show ((0 : Nat) : Int) = 0 from rfl] at hi0
 generalize strOfNums (Tr.enc (.uni c)) = S at *
 clear hby
 go_enter Tryz.func42, Tryz.ntmps42
 go_wp2_with fail
 go_ret
 exact ⟨rfl, ((Below.refl _ _).alloc (Nat.le_refl _) _).alloc (by simp) _⟩
set_option maxRecDepth 100000 in
set_option maxHeartbeats 1000000 in
theorem part9_stop (t : Tr) (hw : Tr.WF t) (hu : ∀ c, t ≠ .uni c) (ax ay az px py pz dd : Int) (lv : Int) (hdl : dd = lv) (w : World) :
 Calls Tryz.prog 42 #[.string (strOfNums (Tr.enc t)), .agg #[.int .i64 ax, .int .i64 ay, .int .i64 az], .int .i64 dd, .agg #[.int .i64 px, .int .i64 py, .int .i64 pz], .int .i64 lv] w fun e w' => e = .returned (.string (strOfNums (Tr.enc t))) ∧ Below w.heap.size w w' := by
 subst hdl
 have hby : Byt (Tr.enc t) := Tr.enc_byt _ hw
 obtain ⟨x, hx, hx7⟩ : ∃ x, (Tr.enc t)[0]? = some x ∧ (x == 117) = false := by
  cases t with
  | uni c => exact absurd rfl (hu c)
  | brick l => exact ⟨98, by simp [Tr.enc], by decide⟩
  | node d ch => exact ⟨110, by simp [Tr.enc], by decide⟩
 have hi0 := fun W : World => idx_str (P := Tryz.prog) 9 Tryz.underlying9 hby (k := 0) (x := x) hx W
 rw [show ((0 : Nat) : Int) = 0 from rfl] at hi0
 generalize strOfNums (Tr.enc t) = S at *
 clear hby hx hu hw
 go_enter Tryz.func42, Tryz.ntmps42
 go_wp2_with fail
 go_ret
 exact ⟨rfl, ((Below.refl _ _).alloc (Nat.le_refl _) _).alloc (by simp) _⟩
set_option maxRecDepth 100000 in
set_option maxHeartbeats 1000000 in
theorem part9_node (m : Nat) (hm : m ≤ 11) (ch : Fin 8 → Tr) (h : Tr.WF (.node (m + 3) ch)) (hl : (Tr.enc (.node (m + 3) ch)).length ≤ 1000000000000000) (k : Nat) (hk : k < 8) (ax ay az px py pz x y z lv : Int) (R : ByteArray) (hdl : (((m : Int) + 3) == lv) = false)
 (hoc : ∀ W, Calls Tryz.prog 91 #[.agg #[.int .i64 ax, .int .i64 ay, .int .i64 az], .int .i64 ((m : Int) + 3), .agg #[.int .i64 px, .int .i64 py, .int .i64 pz]] W fun e w' => e = .returned (.int .i64 (k : Int)) ∧ Below W.heap.size W w')
 (hcor : ∀ W, Calls Tryz.prog 80 #[.agg #[.int .i64 ax, .int .i64 ay, .int .i64 az], .int .i64 ((m : Int) + 3), .int .i64 (k : Int)] W fun e w' => e = .returned (.agg #[.int .i64 x, .int .i64 y, .int .i64 z]) ∧ Below W.heap.size W w')
 (hih : ∀ W, Calls Tryz.prog 42 #[.string (strOfNums (Tr.enc (ch ⟨k, hk⟩))), .agg #[.int .i64 x, .int .i64 y, .int .i64 z], .int .i64 ((m : Int) + 2), .agg #[.int .i64 px, .int .i64 py, .int .i64 pz], .int .i64 lv] W fun e w' => e = .returned (.string R) ∧ Below W.heap.size W w') (w : World) :
 Calls Tryz.prog 42 #[.string (strOfNums (Tr.enc (.node (m + 3) ch))), .agg #[.int .i64 ax, .int .i64 ay, .int .i64 az], .int .i64 ((m : Int) + 3), .agg #[.int .i64 px, .int .i64 py, .int .i64 pz], .int .i64 lv] w fun e w' => e = .returned (.string R) ∧ Below w.heap.size w w' := by
 have hby := Tr.enc_byt _ h
 have hi0 := fun W : World => idx_str (P := Tryz.prog) 9 Tryz.underlying9 hby (k := 0) (x := 110) (by simp [Tr.enc]) W
 rw [show ((0 : Nat) : Int) = 0 from rfl] at hi0
 have hch := Bx.mk (ref9_children (m + 3) ch h hl)
 have hkat := Bx.mk (strs_at (kidsE_at ch hk))
 have hoc := Bx.mk hoc
 have hcor := Bx.mk hcor
 have hih := Bx.mk hih
 have hsub : IntKind.i64.wrap ((m : Int) + 3 - 1) = (m : Int) + 2 := by rw [show (m : Int) + 3 - 1 = (m : Int) + 2 by omega]; exact IntWalk.i64_in _ (by omega)
 generalize strOfNums (Tr.enc (.node (m + 3) ch)) = S at *
 generalize strOfNums (Tr.enc (ch ⟨k, hk⟩)) = Sk at *
 have b0 : (0 : Int) ≤ (k : Int) := by omega
 have b1 : (k : Int) < 8 := by omega
 clear hby h hl
 go_enter Tryz.func42, Tryz.ntmps42
 go_upto_region 1 with fail
 generalize hW : World.alloc (World.alloc w _) _ = W
 have HP := Bx.mk (pts2 hW.symm)
 clear hW
 obtain ⟨ca0, ca1, ca2⟩ := HP.out.2.1.c3
 obtain ⟨cp0, cp1, cp2⟩ := HP.out.2.2.c3
 go_wp2_with fail
 refine (hoc.out _).mono ?_
 rintro _ w1 ⟨rfl, hb1⟩
 have HP1 : Bx (Below w.heap.size w w1 ∧ Bk w1 (w.heap.size) #[.int .i64 ax, .int .i64 ay, .int .i64 az] 23 ∧ Bk w1 (w.heap.size + 1) #[.int .i64 px, .int .i64 py, .int .i64 pz] 23) := ⟨HP.out.1.trans (hb1.mono HP.out.1.size), HP.out.2.1.later hb1, HP.out.2.2.later hb1⟩
 clear hb1 HP ca0 ca1 ca2 cp0 cp1 cp2 hoc
 go_upto_region 4 with fail
 refine wp_region_rel 14 (fun i v w' => match i with
  | 0 => v = .string S
  | 1 => ChOf ch v w'
  | 2 => v = .int .i64 (k : Int)
  | 3 => PtrS k Sk v w'
  | 4 => v = .string Sk
  | 5 => v = .agg #[.int .i64 ax, .int .i64 ay, .int .i64 az]
  | 6 => v = .int .i64 ((m : Int) + 3)
  | 7 => v = .int .i64 (k : Int)
  | 8 => v = .agg #[.int .i64 x, .int .i64 y, .int .i64 z]
  | 9 => v = .int .i64 ((m : Int) + 3)
  | 10 => v = .int .i64 ((m : Int) + 2)
  | 11 => v = .agg #[.int .i64 px, .int .i64 py, .int .i64 pz]
  | 12 => v = .int .i64 lv
  | _ => v = .string R) (by kernel_rfl) (by kernel_rfl) 39 (by kernel_rfl) (by rfl) ?_ ?_ ?_
 · intro i hi v u1 u2 hb h
   match i, hi with
   | 0, _ => exact h
   | 1, _ => obtain ⟨g, pc, h1, h2⟩ := h; exact ⟨g, pc, h1, h2.below hb⟩
   | 2, _ => exact h
   | 3, _ => obtain ⟨g, h1, h2⟩ := h; exact ⟨g, h1, cell_later hb h2⟩
   | 4, _ => exact h
   | 5, _ => exact h
   | 6, _ => exact h
   | 7, _ => exact h
   | 8, _ => exact h
   | 9, _ => exact h
   | 10, _ => exact h
   | 11, _ => exact h
   | 12, _ => exact h
   | 13, _ => exact h
 · intro i o hi ho ρ w2 hb hc1 hc2 hc3 hk
   match i, hi with
   | 0, _ =>
     obtain rfl := Option.some.inj ho
     have h2 : ρ (.tmp 0) = .string S := hk 0 (by simp [Op.operands])
     clear hk hb
     go_simp
     exact Below.refl _ _
   | 1, _ =>
     obtain rfl := Option.some.inj ho
     have h2 : ρ (.tmp 25) = .string S := hk 25 (by simp [Op.operands, Call.operands])
     have h4 := (hch.out w2).mono (R' := fun e w'' => ∃ v, e = .returned v ∧ Below w2.heap.size w2 w'' ∧ ChOf ch v w'') (fun e w'' ⟨g, pc, x, y, _, z⟩ => ⟨_, x, z, g, pc, rfl, y⟩)
     have H4 := Bx.mk h4
     clear hk hb h4
     go_simp
     all_goals exact H4.out
   | 2, _ =>
     obtain rfl := Option.some.inj ho
     have h2 : ρ (.tmp 11) = .int .i64 (k : Int) := hk 11 (by simp [Op.operands])
     clear hk hb
     go_simp
     exact Below.refl _ _
   | 3, _ =>
     obtain rfl := Option.some.inj ho
     obtain ⟨g, pc, h2, h3⟩ : ChOf ch (ρ (.tmp 26)) w2 := hk 26 (by simp [Op.operands])
     have h5 : ρ (.tmp 27) = .int .i64 (k : Int) := hk 27 (by simp [Op.operands])
     obtain ⟨b', off, he, hck⟩ := h3 k _ hkat.out
     simp only [Option.some.injEq, Addr.mk.injEq, and_true] at he
     obtain ⟨rfl, rfl⟩ := he
     rw [Nat.zero_add] at hck
     have hck := Bx.mk hck
     clear hk hb h3
     go_simp
     exact ⟨Below.refl _ _, _, rfl, hck.out⟩
   | 4, _ =>
     obtain rfl := Option.some.inj ho
     obtain ⟨g, h2, h3⟩ : PtrS k Sk (ρ (.tmp 28)) w2 := hk 28 (by simp [Op.operands])
     clear hk hb
     go_simp
     exact Below.refl _ _
   | 5, _ =>
     obtain rfl := Option.some.inj ho
     have h2 : ρ (.tmp 6) = .pointer (some ⟨w.heap.size, 0, none⟩) := hk 6 (by simp [Op.operands])
     have kk := HP1.out.2.1.later hb
     obtain ⟨c0, c1, c2⟩ := kk.c3
     clear hk hb kk
     go_simp
     exact Below.refl _ _
   | 6, _ =>
     obtain rfl := Option.some.inj ho
     have h2 : ρ (.tmp 2) = .int .i64 ((m : Int) + 3) := hk 2 (by simp [Op.operands])
     clear hk hb
     go_simp
     exact Below.refl _ _
   | 7, _ =>
     obtain rfl := Option.some.inj ho
     have h2 : ρ (.tmp 11) = .int .i64 (k : Int) := hk 11 (by simp [Op.operands])
     clear hk hb
     go_simp
     exact Below.refl _ _
   | 8, _ =>
     obtain rfl := Option.some.inj ho
     have h2 : ρ (.tmp 30) = .agg #[.int .i64 ax, .int .i64 ay, .int .i64 az] := hk 30 (by simp [Op.operands, Call.operands])
     have h3 : ρ (.tmp 31) = .int .i64 ((m : Int) + 3) := hk 31 (by simp [Op.operands, Call.operands])
     have h5 : ρ (.tmp 32) = .int .i64 (k : Int) := hk 32 (by simp [Op.operands, Call.operands])
     have h4 := (hcor.out w2).mono (R' := fun e w'' => ∃ v, e = .returned v ∧ Below w2.heap.size w2 w'' ∧ v = .agg #[.int .i64 x, .int .i64 y, .int .i64 z]) (fun e w'' ⟨x, y⟩ => ⟨_, x, y, rfl⟩)
     have H4 := Bx.mk h4
     clear hk hb h4
     go_simp
     all_goals exact H4.out
   | 9, _ =>
     obtain rfl := Option.some.inj ho
     have h2 : ρ (.tmp 2) = .int .i64 ((m : Int) + 3) := hk 2 (by simp [Op.operands])
     clear hk hb
     go_simp
     exact Below.refl _ _
   | 10, _ =>
     obtain rfl := Option.some.inj ho
     have h2 : ρ (.tmp 34) = .int .i64 ((m : Int) + 3) := hk 34 (by simp [Op.operands])
     clear hk hb
     go_simp
     exact Below.refl _ _
   | 11, _ =>
     obtain rfl := Option.some.inj ho
     have h2 : ρ (.tmp 8) = .pointer (some ⟨w.heap.size + 1, 0, none⟩) := hk 8 (by simp [Op.operands])
     have kk := HP1.out.2.2.later hb
     obtain ⟨c0, c1, c2⟩ := kk.c3
     clear hk hb kk
     go_simp
     exact Below.refl _ _
   | 12, _ =>
     obtain rfl := Option.some.inj ho
     have h2 : ρ (.tmp 4) = .int .i64 lv := hk 4 (by simp [Op.operands])
     clear hk hb
     go_simp
     exact Below.refl _ _
   | 13, _ =>
     obtain rfl := Option.some.inj ho
     have h2 : ρ (.tmp 29) = .string Sk := hk 29 (by simp [Op.operands, Call.operands])
     have h3 : ρ (.tmp 33) = .agg #[.int .i64 x, .int .i64 y, .int .i64 z] := hk 33 (by simp [Op.operands, Call.operands])
     have h5 : ρ (.tmp 35) = .int .i64 ((m : Int) + 2) := hk 35 (by simp [Op.operands, Call.operands])
     have h6 : ρ (.tmp 36) = .agg #[.int .i64 px, .int .i64 py, .int .i64 pz] := hk 36 (by simp [Op.operands, Call.operands])
     have h7 : ρ (.tmp 37) = .int .i64 lv := hk 37 (by simp [Op.operands, Call.operands])
     have h4 := (hih.out w2).mono (R' := fun e w'' => ∃ v, e = .returned v ∧ Below w2.heap.size w2 w'' ∧ v = .string R) (fun e w'' ⟨x, y⟩ => ⟨_, x, y, rfl⟩)
     have H4 := Bx.mk h4
     clear hk hb h4
     go_simp
     all_goals exact H4.out
 · intro vs W1 hlen hb hR
   match vs, hlen with
   | [v0, v1, v2, v3, v4, v5, v6, v7, v8, v9, v10, v11, v12, v13], _ =>
     have r0 : v0 = .string S := hR 0 v0 rfl
     obtain ⟨g1, pc1, r1, -⟩ : ChOf ch v1 W1 := hR 1 v1 rfl
     have r2 : v2 = .int .i64 (k : Int) := hR 2 v2 rfl
     obtain ⟨g3, r3, -⟩ : PtrS k Sk v3 W1 := hR 3 v3 rfl
     have r4 : v4 = .string Sk := hR 4 v4 rfl
     have r5 : v5 = .agg #[.int .i64 ax, .int .i64 ay, .int .i64 az] := hR 5 v5 rfl
     have r6 : v6 = .int .i64 ((m : Int) + 3) := hR 6 v6 rfl
     have r7 : v7 = .int .i64 (k : Int) := hR 7 v7 rfl
     have r8 : v8 = .agg #[.int .i64 x, .int .i64 y, .int .i64 z] := hR 8 v8 rfl
     have r9 : v9 = .int .i64 ((m : Int) + 3) := hR 9 v9 rfl
     have r10 : v10 = .int .i64 ((m : Int) + 2) := hR 10 v10 rfl
     have r11 : v11 = .agg #[.int .i64 px, .int .i64 py, .int .i64 pz] := hR 11 v11 rfl
     have r12 : v12 = .int .i64 lv := hR 12 v12 rfl
     have r13 : v13 = .string R := hR 13 v13 rfl
     subst r0 r1 r2 r3 r4 r5 r6 r7 r8 r9 r10 r11 r12 r13
     clear hR
     have HB := Bx.mk (HP1.out.1.trans (hb.mono HP1.out.1.size))
     clear hb HP1 hch hcor hih hkat
     simp only [puts, List.take_succ_cons, List.take_zero, List.drop_succ_cons, List.drop_zero, List.map_cons, List.map_nil, List.zip_cons_cons, List.zip_nil_right, List.foldl_cons, List.foldl_nil]
     go_wp2_with fail
     go_ret
     exact ⟨rfl, HB.out⟩
end Go.Proofs.YtabclecmehdeoaaGreatDoor
end
