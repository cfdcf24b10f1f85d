import Derived.Test.YtabclecmehdeoaaGreatGMake
import Derived.Test.YtabclecmehdeoaaGreatGPnt
import Derived.Deep.RegionHeld3
import Derived.Deep.DrawnRows
import Derived.Deep.AppendLies
import Derived.Test.YtabclecmehdeoaaGreatGOct
section
/- Store.make of a node that is not there, where there is room. -/
namespace Go.Proofs.YtabclecmehdeoaaGreat
open Go.RowKit Go.Sort Go.Maps
open Oct

attribute [local go_sem ↓] Go.wp_at_zero Go.wp_at_succ
theorem nodeInfo : (Tryz.prog.info? 83).map (fun i => (i.zero, i.size, i.bytes)) = some (some (.agg #[.int .i64 0, .int .i64 0, .string ByteArray.empty, .int .i64 0, .int .i64 0, .int .i64 0, .int .i64 0, .int .i64 0, .int .i64 0, .int .i64 0, .int .i64 0, .int .i64 0]), 12, 104) := by kernel_rfl
theorem Bk.grownO {w w' : World} {b : Nat} {vs : Array Value} {t : TypeId} {row : Option Nat} (h : Bk w b vs t) (hg : w.grownBy w' row) (hne : row ≠ some b) : Bk w' b vs t := (hg.block b h.lt (fun e => hne e.symm)).trans h
theorem Keeps.set {Far : Nat → Prop} {a b : World} (h : Keeps Far a b) (p : Addr) (v : Value) (hp : ¬ Far p.block) : Keeps Far a (b.setCell p v) :=
  h.trans ⟨rfl, rfl, rfl, by simp [World.setCell], fun k hk _ => heap_setCell_other b p k v (fun e => hp (e ▸ hk))⟩
theorem below_lit (W : World) (o : Obj) : Below W.heap.size W (W.alloc o) := (Below.refl _ _).alloc (Nat.le_refl _) _
theorem grown_setCell (w : World) (p : Addr) (v : Value) : w.grownBy (w.setCell p v) (some p.block) :=
  ⟨rfl, rfl, rfl, by simp [World.setCell], fun k _ hne => heap_setCell_other w p k v (fun e => hne (by rw [e]))⟩
/-- where a store's parts lie -/
structure Places (Far : Nat → Prop) (sb mb : Nat) (nv : Value) : Prop where
  fs : ¬ Far sb
  fm : ¬ Far mb
  fn : ∀ g, nv.ownBlock = some g → ¬ Far g
  apart : sb ≠ mb
  ns : nv.ownBlock ≠ some sb
  nm : nv.ownBlock ≠ some mb
theorem StoreIs.parts {w : World} {Far : Nat → Prop} {sb : Nat} {most : Int} {ts : List Tr} (h : StoreIs w Far sb most ts) :
    ∃ mb nv, Bk w sb #[.int .i64 most, nv, .map (some mb)] 59 ∧ w.ownsRow 0 83 12 nv ts.length (rowV ts) ∧ MapFn w mb ts.length (keyF ts) ∧ Places Far sb mb nv := by
  obtain ⟨mb, nv, h1, h2, h3, g1, g2, g3, g4, g5, g6⟩ := h
  exact ⟨mb, nv, h1, h2, h3, g1, g2, g3, g4, g5, g6⟩
theorem StoreIs.of {w : World} {Far : Nat → Prop} {sb mb : Nat} {nv : Value} {most : Int} {ts : List Tr} (h1 : Bk w sb #[.int .i64 most, nv, .map (some mb)] 59) (h2 : w.ownsRow 0 83 12 nv ts.length (rowV ts))
    (h3 : MapFn w mb ts.length (keyF ts)) (g : Places Far sb mb nv) : StoreIs w Far sb most ts := ⟨mb, nv, h1, h2, h3, g.fs, g.fm, g.fn, g.apart, g.ns, g.nm⟩
theorem store_after {w W1 w1 : World} {Far : Nat → Prop} {sb mb n1 n2 n3 : Nat} {nv v1 : Value} {F : Value → Option Int} {row xs : List Value} (hB : w.grownBy W1 none) (hFar : ∀ k, Far k → k < w.heap.size) (_hrow : w.ownsRow 0 83 12 nv n1 row)
    (hmap : MapFn w mb n2 F) (G : Places Far sb mb nv) (hsb : sb < w.heap.size) (hown : w1.ownsRow 0 83 12 v1 n3 xs) (hg : W1.grownBy w1 nv.ownBlock) (hat : v1.ownBlock = nv.ownBlock ∨ v1.ownBlock = some W1.heap.size) :
    (w1.setCell ⟨sb, 1, none⟩ v1).ownsRow 0 83 12 v1 n3 xs ∧ MapFn (w1.setCell ⟨sb, 1, none⟩ v1) mb n2 F ∧ Keeps Far w (w1.setCell ⟨sb, 1, none⟩ v1) ∧ Places Far sb mb v1 := by
  have hmb := hmap.lt
  have hle := hB.size
  have P : Places Far sb mb v1 := by
    rcases hat with e | e
    · exact ⟨G.fs, G.fm, by rw [e]; exact G.fn, G.apart, by rw [e]; exact G.ns, by rw [e]; exact G.nm⟩
    · refine ⟨G.fs, G.fm, fun g hg h => ?_, G.apart, ?_, ?_⟩
      · rw [e] at hg
        have := hFar g h
        simp at hg; omega
      · rw [e]; simp; omega
      · rw [e]; simp; omega
  have hs := grown_setCell w1 ⟨sb, 1, none⟩ v1
  refine ⟨World.ownsRow.kept hown hs (.inr P.ns), ((hmap.kept hB (by simp)).kept hg (fun e => G.nm e.symm)).kept hs (by simp only [ne_eq, Option.some.injEq]; exact fun e => G.apart e.symm), ?_, P⟩
  refine ((Keeps.grown (Far := Far) hB (by simp)).trans ?_).trans (Keeps.grown hs (fun g e => by simp only [Option.some.injEq] at e; rw [← e]; exact G.fs))
  exact Keeps.grown hg G.fn
theorem store_done {w W4 W5 : World} {Far : Nat → Prop} {sb mb n' : Nat} {most : Int} {v1 : Value} {F : Value → Option Int} {ts' : List Tr} {xs : List Value} (ks : Bk W4 sb #[.int .i64 most, v1, .map (some mb)] 59) (hown : W4.ownsRow 0 83 12 v1 n' xs)
    (hK : Keeps Far w W4) (G : Places Far sb mb v1) (hg : W4.grownBy W5 (some mb)) (hm : MapFn W5 mb n' F) (hn : n' = ts'.length) (hx : xs = rowV ts') (hF : ∀ v, F v = keyF ts' v) : StoreIs W5 Far sb most ts' ∧ Keeps Far w W5 := by
  subst hn hx
  refine ⟨StoreIs.of (ks.grownO hg (by simpa using fun e => G.apart e.symm)) (World.ownsRow.kept hown hg (.inr G.nm)) (hm.congr fun key _ _ => hF key) G, hK.trans (Keeps.grown hg fun g e => by simp only [Option.some.injEq] at e; rw [← e]; exact G.fm)⟩
set_option maxRecDepth 100000 in
set_option maxHeartbeats 2000000 in
theorem make_new (w : World) (Far : Nat → Prop) (sb : Nat) (most : Int) (ts : List Tr) (t : Tr) (k c d x0 x1 x2 x3 x4 x5 x6 x7 : Int) (s : ByteArray) (hV : nodeV ts t = nodeA k c s d x0 x1 x2 x3 x4 x5 x6 x7) (hG : Good ts) (ht : t ∉ ts) (hle : Leans ts t) (hby : Bytes t) (hm : (ts.length : Int) < most) (hlen : ts.length ≤ 1000000000000) (hFar : ∀ k, Far k → k < w.heap.size)
    (hk : ∃ kl, keyOf Tryz.prog 83 (nodeA k c s d x0 x1 x2 x3 x4 x5 x6 x7) = some kl) (hS : StoreIs w Far sb most ts) :
    Calls Tryz.prog 50 #[.pointer (some ⟨sb, 0, none⟩), .agg #[.int .i64 k, .int .i64 c, .string s, .int .i64 d, .int .i64 x0, .int .i64 x1, .int .i64 x2, .int .i64 x3, .int .i64 x4, .int .i64 x5, .int .i64 x6, .int .i64 x7]] w fun e' w' => e' = .returned (.tuple #[.int .i64 (ts.length : Int), .int .i64 0]) ∧ StoreIs w' Far sb most (ts ++ [t]) ∧ Keeps Far w w' := by
  obtain ⟨mb, nv, ks, hrow, hmap, hP⟩ := hS.parts
  obtain ⟨kl, hk⟩ := hk
  obtain ⟨i0, hi0, hz0, hz1, hz2⟩ := info_parts nodeInfo
  obtain ⟨na, nc, rfl⟩ := row_form hrow
  have hkf := keyF_not hG ht hle hby
  rw [hV] at hkf
  have hlook : ∀ W, Below w.heap.size w W → (Instr.lookup 56 (.map (some mb)) (.agg #[.int .i64 k, .int .i64 c, .string s, .int .i64 d, .int .i64 x0, .int .i64 x1, .int .i64 x2, .int .i64 x3, .int .i64 x4, .int .i64 x5, .int .i64 x6, .int .i64 x7]) true).run Tryz.prog W = .ok (.tuple #[.int .i64 0, .bool false]) W :=
    fun W hb => ((hmap.kept (row := none) (grown_of_below hb) (by simp)).look hk).2 hkf
  have Hl := Bx.mk hlook
  have Ks := Bx.mk ks
  have Hrow := Bx.mk hrow
  have Hmap := Bx.mk hmap
  have Hkf := Bx.mk hkf
  have Hk := Bx.mk hk
  have Radd := Bx.mk (rowV_add hG hle)
  have Kadd := Bx.mk (fun v => keyF_add hG ht hle hby v)
  rw [hV] at Radd Kadd
  have hsb := ks.lt
  have hmb := hmap.lt
  clear hmap hrow hlook hkf hk hV ks hG ht hle hby
  have G := Bx.mk hP
  have HF := Bx.mk hFar
  clear hP hFar hS
  have Hts := Bx.mk (show ts.length + 1 = (ts ++ [t]).length by simp)
  generalize ts ++ [t] = ts' at *
  generalize rowV ts = row at *
  generalize keyF ts = F at *
  generalize ts.length = nn at *
  go_enter Tryz.func50, Tryz.ntmps50
  go_wp2_with fail
  generalize hW : World.alloc w _ = W
  have hSz : w.heap.size + 1 ≤ W.heap.size := by rw [← hW]; simp
  have hB : Below w.heap.size w W := by rw [← hW]; exact (Below.refl _ _).alloc (Nat.le_refl _) _
  have kn : Bk W (w.heap.size) #[.int .i64 k, .int .i64 c, .string s, .int .i64 d, .int .i64 x0, .int .i64 x1, .int .i64 x2, .int .i64 x3, .int .i64 x4, .int .i64 x5, .int .i64 x6, .int .i64 x7] 83 := by rw [← hW]; exact blk_new _ _ _ (by simp)
  clear hW
  have ks := Ks.out.later hB
  have hl2 : ∀ dk osk, (Instr.lookup 56 (.map (some mb)) (.agg #[.int .i64 k, .int .i64 c, .string s, .int .i64 d, .int .i64 x0, .int .i64 x1, .int .i64 x2, .int .i64 x3, .int .i64 x4, .int .i64 x5, .int .i64 x6, .int .i64 x7]) true).run Tryz.prog (grow (redrawn W dk) osk) = .ok (.tuple #[.int .i64 0, .bool false]) (grow (redrawn W dk) osk) :=
    fun dk osk => Hl.out _ (hB.trans ((below_regrown W dk osk).mono hB.size))
  clear Hl Ks
  have cn0 : ∀ dk osk, (grow (redrawn W dk) osk).cell? ⟨w.heap.size, 0, none⟩ = some (.int .i64 k) := cell_regrown (kn.cell 0 rfl)
  have cn1 : ∀ dk osk, (grow (redrawn W dk) osk).cell? ⟨w.heap.size, 1, none⟩ = some (.int .i64 c) := cell_regrown (kn.cell 1 rfl)
  have cn2 : ∀ dk osk, (grow (redrawn W dk) osk).cell? ⟨w.heap.size, 2, none⟩ = some (.string s) := cell_regrown (kn.cell 2 rfl)
  have cn3 : ∀ dk osk, (grow (redrawn W dk) osk).cell? ⟨w.heap.size, 3, none⟩ = some (.int .i64 d) := cell_regrown (kn.cell 3 rfl)
  have cn4 : ∀ dk osk, (grow (redrawn W dk) osk).cell? ⟨w.heap.size, 4, none⟩ = some (.int .i64 x0) := cell_regrown (kn.cell 4 rfl)
  have cn5 : ∀ dk osk, (grow (redrawn W dk) osk).cell? ⟨w.heap.size, 5, none⟩ = some (.int .i64 x1) := cell_regrown (kn.cell 5 rfl)
  have cn6 : ∀ dk osk, (grow (redrawn W dk) osk).cell? ⟨w.heap.size, 6, none⟩ = some (.int .i64 x2) := cell_regrown (kn.cell 6 rfl)
  have cn7 : ∀ dk osk, (grow (redrawn W dk) osk).cell? ⟨w.heap.size, 7, none⟩ = some (.int .i64 x3) := cell_regrown (kn.cell 7 rfl)
  have cn8 : ∀ dk osk, (grow (redrawn W dk) osk).cell? ⟨w.heap.size, 8, none⟩ = some (.int .i64 x4) := cell_regrown (kn.cell 8 rfl)
  have cn9 : ∀ dk osk, (grow (redrawn W dk) osk).cell? ⟨w.heap.size, 9, none⟩ = some (.int .i64 x5) := cell_regrown (kn.cell 9 rfl)
  have cn10 : ∀ dk osk, (grow (redrawn W dk) osk).cell? ⟨w.heap.size, 10, none⟩ = some (.int .i64 x6) := cell_regrown (kn.cell 10 rfl)
  have cn11 : ∀ dk osk, (grow (redrawn W dk) osk).cell? ⟨w.heap.size, 11, none⟩ = some (.int .i64 x7) := cell_regrown (kn.cell 11 rfl)
  have cs0 : ∀ dk osk, (grow (redrawn W dk) osk).cell? ⟨sb, 0, none⟩ = some (.int .i64 most) := cell_regrown (ks.cell 0 rfl)
  have cs1 : ∀ dk osk, (grow (redrawn W dk) osk).cell? ⟨sb, 1, none⟩ = some (.slice na nn nc) := cell_regrown (ks.cell 1 rfl)
  have cs2 : ∀ dk osk, (grow (redrawn W dk) osk).cell? ⟨sb, 2, none⟩ = some (.map (some mb)) := cell_regrown (ks.cell 2 rfl)
  refine wp_region_quiet_below (by kernel_rfl) (by kernel_rfl) ?_
  repeat (first | go_big_quiet_step ((fail)) | quiet_step (fail))
  refine wpQuiet_nil ?_
  rintro _ ⟨⟨dq, osq⟩, rfl⟩
  have hb := below_regrown W dq osq
  clear cn0 cn1 cn2 cn3 cn4 cn5 cn6 cn7 cn8 cn9 cn10 cn11
  clear cs0 cs1 cs2
  replace hB := hB.trans (hb.mono hB.size)
  replace kn := kn.later hb
  replace ks := ks.later hb
  replace hSz := Nat.le_trans hSz hb.size
  clear hb
  generalize grow (redrawn W dq) osq = W1 at *
  clear hl2
  go_wp2_with fail
  have cs0 : ∀ dk osk, (grow (redrawn W1 dk) osk).cell? ⟨sb, 0, none⟩ = some (.int .i64 most) := cell_regrown (ks.cell 0 rfl)
  have cs1 : ∀ dk osk, (grow (redrawn W1 dk) osk).cell? ⟨sb, 1, none⟩ = some (.slice na nn nc) := cell_regrown (ks.cell 1 rfl)
  have cs2 : ∀ dk osk, (grow (redrawn W1 dk) osk).cell? ⟨sb, 2, none⟩ = some (.map (some mb)) := cell_regrown (ks.cell 2 rfl)
  refine wp_region_quiet_below (by kernel_rfl) (by kernel_rfl) ?_
  repeat (first | go_big_quiet_step ((fail)) | quiet_step (fail))
  refine wpQuiet_nil ?_
  rintro _ ⟨⟨dq, osq⟩, rfl⟩
  have hb := below_regrown W1 dq osq
  clear cs0 cs1 cs2
  replace hB := hB.trans (hb.mono hB.size)
  replace kn := kn.later hb
  replace ks := ks.later hb
  replace hSz := Nat.le_trans hSz hb.size
  clear hb
  generalize grow (redrawn W1 dq) osq = W2 at *
  go_wp2_with fail
  have cn0 := kn.cell 0 rfl
  have cn1 := kn.cell 1 rfl
  have cn2 := kn.cell 2 rfl
  have cn3 := kn.cell 3 rfl
  have cn4 := kn.cell 4 rfl
  have cn5 := kn.cell 5 rfl
  have cn6 := kn.cell 6 rfl
  have cn7 := kn.cell 7 rfl
  have cn8 := kn.cell 8 rfl
  have cn9 := kn.cell 9 rfl
  have cn10 := kn.cell 10 rfl
  have cn11 := kn.cell 11 rfl
  have cs0 := ks.cell 0 rfl
  have cs1 := ks.cell 1 rfl
  have cs2 := ks.cell 2 rfl
  have fs1 := ks.frozen 1
  have hrow2 : ∀ o, ((W2.alloc o).drew).ownsRow 0 83 12 (.slice na nn nc) nn row := fun o => (World.ownsRow.alloc (World.ownsRow.kept Hrow.out (grown_of_below hB) (by cases (Value.slice na nn nc).ownBlock <;> simp)) o).drew
  have hne1 : (Value.slice na nn nc).ownBlock ≠ some sb := G.out.ns
  have hne2 : (Value.slice na nn nc).ownBlock ≠ some w.heap.size := fun e => by have := (World.ownsRow.lt Hrow.out _ e).2; omega
  have al1 : ∀ o, (W2.alloc o).cell? ⟨sb, 1, none⟩ = some (.slice na nn nc) := fun o => (ks.alloc o).cell 1 rfl
  have ks2 := Bx.mk ks
  have kn2 := Bx.mk kn
  replace hrow2 := Bx.mk hrow2
  replace hne1 := Bx.mk hne1
  replace hne2 := Bx.mk hne2
  clear ks kn
  go_region_law
    ((refine step_append_at (by rfl) _ _ 57 (by rfl) 0 83 i0 _ 12 104 Tryz.underlying57 hi0 hz0 hz1 hz2 rfl (by omega) (.slice na nn nc) nn row (by rfl) (hrow2.out _) ⟨W2.heap.size, 0, none⟩ 1 1 [.int .i64 k, .int .i64 c, .string s, .int .i64 d, .int .i64 x0, .int .i64 x1, .int .i64 x2, .int .i64 x3, .int .i64 x4, .int .i64 x5, .int .i64 x6, .int .i64 x7] (by rfl) (by rfl) (World.news_of_block (cs := #[.int .i64 k, .int .i64 c, .string s, .int .i64 d, .int .i64 x0, .int .i64 x1, .int .i64 x2, .int .i64 x3, .int .i64 x4, .int .i64 x5, .int .i64 x6, .int .i64 x7]) (t := 83) (fr := (0, 0)) (heap_alloc_new W2 _)) (by simp [Value.oneCell']) (by simp [maxLen]; omega) (by omega) (Nat.zero_le _) ?_; intro v1 w1 hown1 hgrow hat; obtain ⟨va, vc, rfl⟩ := row_form hown1.out; have ks1 := Bk.grownO ((ks2.out.alloc _).drew) hgrow.out hne1.out; have kn1 := Bk.grownO ((kn2.out.alloc _).drew) hgrow.out hne2.out; have cs1' := ks1.cell 1 rfl; have fs1' := ks1.frozen 1; have cn0' := kn1.cell 0 rfl; have cn1' := kn1.cell 1 rfl; have cn2' := kn1.cell 2 rfl; have cn3' := kn1.cell 3 rfl; have cn4' := kn1.cell 4 rfl; have cn5' := kn1.cell 5 rfl; have cn6' := kn1.cell 6 rfl; have cn7' := kn1.cell 7 rfl; have cn8' := kn1.cell 8 rfl; have cn9' := kn1.cell 9 rfl; have cn10' := kn1.cell 10 rfl; have cn11' := kn1.cell 11 rfl))
  all_goals (clear al1 cn0 cn1 cn2 cn3 cn4 cn5 cn6 cn7 cn8 cn9 cn10 cn11 cs0 cs1 cs2 fs1)
  all_goals
    replace ks1 : Bk (w1.setCell ⟨sb, 1, none⟩ (.slice va (nn + 1) vc)) sb #[.int .i64 most, .slice va (nn + 1) vc, .map (some mb)] 59 := by simpa using ks1.set 1 (.slice va (nn + 1) vc)
    replace kn1 := kn1.other ⟨sb, 1, none⟩ (.slice va (nn + 1) vc) (by simp only; omega)
    obtain ⟨hown3, hmap3, hK3, hP3⟩ := store_after (grown_of_below (hB.trans ((below_lit W2 _).drew.mono hB.size))) HF.out Hrow.out Hmap.out G.out hsb hown1.out hgrow.out hat.out
    replace hown3 := Bx.mk hown3
    replace hmap3 := Bx.mk hmap3
    replace hK3 := Bx.mk hK3
    replace hP3 := Bx.mk hP3
    clear hgrow hown1 hat fs1' cs1' cn0' cn1' cn2' cn3' cn4' cn5' cn6' cn7' cn8' cn9' cn10' cn11' ks2 kn2 hrow2 hne1 hne2
    generalize w1.setCell ⟨sb, 1, none⟩ (.slice va (nn + 1) vc) = W3 at *
    go_wp2_with fail
    clear hB hSz
    have hB : Below W3.heap.size W3 W3 := Below.refl _ _
    have hSz : W3.heap.size ≤ W3.heap.size := Nat.le_refl _
    have cn0 : ∀ dk osk, (grow (redrawn W3 dk) osk).cell? ⟨w.heap.size, 0, none⟩ = some (.int .i64 k) := cell_regrown (kn1.cell 0 rfl)
    have cn1 : ∀ dk osk, (grow (redrawn W3 dk) osk).cell? ⟨w.heap.size, 1, none⟩ = some (.int .i64 c) := cell_regrown (kn1.cell 1 rfl)
    have cn2 : ∀ dk osk, (grow (redrawn W3 dk) osk).cell? ⟨w.heap.size, 2, none⟩ = some (.string s) := cell_regrown (kn1.cell 2 rfl)
    have cn3 : ∀ dk osk, (grow (redrawn W3 dk) osk).cell? ⟨w.heap.size, 3, none⟩ = some (.int .i64 d) := cell_regrown (kn1.cell 3 rfl)
    have cn4 : ∀ dk osk, (grow (redrawn W3 dk) osk).cell? ⟨w.heap.size, 4, none⟩ = some (.int .i64 x0) := cell_regrown (kn1.cell 4 rfl)
    have cn5 : ∀ dk osk, (grow (redrawn W3 dk) osk).cell? ⟨w.heap.size, 5, none⟩ = some (.int .i64 x1) := cell_regrown (kn1.cell 5 rfl)
    have cn6 : ∀ dk osk, (grow (redrawn W3 dk) osk).cell? ⟨w.heap.size, 6, none⟩ = some (.int .i64 x2) := cell_regrown (kn1.cell 6 rfl)
    have cn7 : ∀ dk osk, (grow (redrawn W3 dk) osk).cell? ⟨w.heap.size, 7, none⟩ = some (.int .i64 x3) := cell_regrown (kn1.cell 7 rfl)
    have cn8 : ∀ dk osk, (grow (redrawn W3 dk) osk).cell? ⟨w.heap.size, 8, none⟩ = some (.int .i64 x4) := cell_regrown (kn1.cell 8 rfl)
    have cn9 : ∀ dk osk, (grow (redrawn W3 dk) osk).cell? ⟨w.heap.size, 9, none⟩ = some (.int .i64 x5) := cell_regrown (kn1.cell 9 rfl)
    have cn10 : ∀ dk osk, (grow (redrawn W3 dk) osk).cell? ⟨w.heap.size, 10, none⟩ = some (.int .i64 x6) := cell_regrown (kn1.cell 10 rfl)
    have cn11 : ∀ dk osk, (grow (redrawn W3 dk) osk).cell? ⟨w.heap.size, 11, none⟩ = some (.int .i64 x7) := cell_regrown (kn1.cell 11 rfl)
    have cs0 : ∀ dk osk, (grow (redrawn W3 dk) osk).cell? ⟨sb, 0, none⟩ = some (.int .i64 most) := cell_regrown (ks1.cell 0 rfl)
    have cs1 : ∀ dk osk, (grow (redrawn W3 dk) osk).cell? ⟨sb, 1, none⟩ = some (.slice va (nn + 1) vc) := cell_regrown (ks1.cell 1 rfl)
    have cs2 : ∀ dk osk, (grow (redrawn W3 dk) osk).cell? ⟨sb, 2, none⟩ = some (.map (some mb)) := cell_regrown (ks1.cell 2 rfl)
    refine wp_region_head_below 11 (by kernel_rfl) (by kernel_rfl) ?_
    simp only [List.take_succ_cons, List.take_zero, List.drop_succ_cons, List.drop_zero]
    repeat (first | go_big_quiet_step ((fail)) | quiet_step (fail))
    refine wpQuiet_nil ?_
    rintro _ ⟨⟨dq, osq⟩, rfl⟩
    have hb := below_regrown W3 dq osq
    replace hB := hB.trans (hb.mono hB.size)
    clear cn0 cn1 cn2 cn3 cn4 cn5 cn6 cn7 cn8 cn9 cn10 cn11
    clear cs0 cs1 cs2
    replace kn1 := kn1.later hb
    replace ks1 := ks1.later hb
    replace hSz := Nat.le_trans hSz hb.size
    clear hb
    generalize grow (redrawn W3 dq) osq = W4 at *
    obtain ⟨W5, hrun, hm5, hg5⟩ := (hmap3.out.kept (row := none) (grown_of_below hB) (by simp)).put (by simp [maxLen]; omega) Hk.out Hkf.out (nn : Int) (WalkArith.wf_i64 (by omega))
    obtain ⟨hS5, hK5⟩ := store_done (Far := Far) ks1 (World.ownsRow.kept hown3.out (grown_of_below hB) (by cases (Value.slice va (nn + 1) vc).ownBlock <;> simp)) (hK3.out.trans (Keeps.below hB)) hP3.out hg5 hm5 Hts.out Radd.out.symm (fun v => (Kadd.out v).symm)
    have HS5 := Bx.mk hS5
    have HK5 := Bx.mk hK5
    obtain ⟨p5, q5, k5, r5, -⟩ := hS5
    obtain ⟨ra, rc, rfl⟩ := row_form r5
    rw [← Hts.out] at k5
    have c5 := k5.cell 1 rfl
    clear hm5 hg5 hK5 r5 k5
    unfold nodeA at hrun
    go_wp2_with fail
    go_ret2
    exact ⟨rfl, HS5.out, HK5.out⟩
end Go.Proofs.YtabclecmehdeoaaGreat
end
section
/- What the making of nodes comes to; Store.make, Uniform. -/
namespace Go.Proofs.YtabclecmehdeoaaGreat
open Go.RowKit Go.Sort Go.Maps
open Oct

/-- a number and an error -/
abbrev ret2 (i e : Int) : Ending := .returned (.tuple #[.int .i64 i, .int .i64 e])
/-- the store has come from ts to ts', of which t is a tree; or there was no room, and it has some of it -/
structure Grew (Far : Nat → Prop) (sb : Nat) (most : Int) (ts ts' : List Tr) (t : Tr) (w : World) (e : Ending) (w' : World) : Prop where
  keeps : Keeps Far w w'
  size : w.heap.size ≤ w'.heap.size
  way : (Tr.Fits most ts ts' ∧ e = ret2 (idT ts' t : Int) 0 ∧ StoreIs w' Far sb most ts') ∨
    (¬ Tr.Fits most ts ts' ∧ e = ret2 0 14 ∧ ∃ us, Good us ∧ ts <+: us ∧ us <+: ts' ∧ StoreIs w' Far sb most us)
theorem Good.ins {ts : List Tr} (hG : Good ts) {t : Tr} (hl : Leans ts t) (hb : Bytes t) : Good (Tr.ins t ts) := by
  by_cases h : t ∈ ts
  · rw [Tr.ins_of_mem h]; exact hG
  · rw [Tr.ins_of_not h]; exact hG.add h hl hb
theorem make_any (w : World) (Far : Nat → Prop) (sb : Nat) (most : Int) (ts : List Tr) (t : Tr) (k c d x0 x1 x2 x3 x4 x5 x6 x7 : Int) (s : ByteArray) (hV : nodeV ts t = nodeA k c s d x0 x1 x2 x3 x4 x5 x6 x7) (hG : Good ts) (hle : Leans ts t) (hby : Bytes t) (hlen : ts.length ≤ 1000000000000) (hFar : ∀ k, Far k → k < w.heap.size)
    (hk : ∃ kl, keyOf Tryz.prog 83 (nodeA k c s d x0 x1 x2 x3 x4 x5 x6 x7) = some kl) (hS : StoreIs w Far sb most ts) :
    Calls Tryz.prog 50 #[.pointer (some ⟨sb, 0, none⟩), .agg #[.int .i64 k, .int .i64 c, .string s, .int .i64 d, .int .i64 x0, .int .i64 x1, .int .i64 x2, .int .i64 x3, .int .i64 x4, .int .i64 x5, .int .i64 x6, .int .i64 x7]] w (Grew Far sb most ts (Tr.ins t ts) t w) := by
  by_cases ht : t ∈ ts
  · refine (make_has Far sb most ts t k c d x0 x1 x2 x3 x4 x5 x6 x7 s hV hG ht hk w hS).mono ?_
    rintro e w' ⟨rfl, hb⟩
    rw [Tr.ins_of_mem ht]
    exact ⟨Keeps.below hb, hb.size, .inl ⟨.inl rfl, rfl, hS.later hb⟩⟩
  · by_cases hm : most ≤ (ts.length : Int)
    · refine (make_full Far sb most ts t k c d x0 x1 x2 x3 x4 x5 x6 x7 s hV hG ht hle hby hm hk w hS).mono ?_
      rintro e w' ⟨rfl, hb⟩
      rw [Tr.ins_of_not ht]
      refine ⟨Keeps.below hb, hb.size, .inr ⟨?_, rfl, ts, hG, List.prefix_refl _, List.prefix_append _ _, hS.later hb⟩⟩
      rintro (h | h)
      · simp at h
      · simp at h; omega
    · refine (make_new w Far sb most ts t k c d x0 x1 x2 x3 x4 x5 x6 x7 s hV hG ht hle hby (by omega) hlen hFar hk hS).mono ?_
      rintro e w' ⟨rfl, hs, hb⟩
      rw [Tr.ins_of_not ht]
      refine ⟨hb, hb.size, .inl ⟨.inr (by simp; omega), ?_, hs⟩⟩
      rw [idT_new ht]
theorem make_uni (w : World) (Far : Nat → Prop) (sb : Nat) (most : Int) (ts : List Tr) (c : Int) (hc : 0 ≤ c ∧ c ≤ 255) (hG : Good ts) (hlen : ts.length ≤ 1000000000000) (hFar : ∀ k, Far k → k < w.heap.size) (hS : StoreIs w Far sb most ts) :
    Calls Tryz.prog 50 #[.pointer (some ⟨sb, 0, none⟩), .agg #[.int .i64 1, .int .i64 c, .string ByteArray.empty, .int .i64 0, .int .i64 0, .int .i64 0, .int .i64 0, .int .i64 0, .int .i64 0, .int .i64 0, .int .i64 0, .int .i64 0]] w (Grew Far sb most ts (Tr.add (.uni c) ts) (.uni c) w) := by
  rw [Tr.add_uni]
  exact make_any w Far sb most ts (.uni c) 1 c 0 0 0 0 0 0 0 0 0 _ rfl hG (fun d ch h => by cases h) (Bytes.uni hc) hlen hFar (key_node _ _ _ _ _ _ _ _ _ _ _ _ (by simp [maxLen]) (by intro y hy; simp at hy; rcases hy with rfl | rfl | rfl <;> exact WalkArith.wf_i64 (by omega))) hS
theorem Good.uni {ts : List Tr} (hG : Good ts) {c : Int} (hc : 0 ≤ c ∧ c ≤ 255) : Good (Tr.add (.uni c) ts) := by
  rw [Tr.add_uni]; exact hG.ins (fun d ch h => by cases h) (Bytes.uni hc)
theorem uniform_err (sb : Nat) (c : Int) (hc : ¬ (0 ≤ c ∧ c ≤ 255)) (w : World) :
    Calls Tryz.prog 14 #[.pointer (some ⟨sb, 0, none⟩), .int .i64 c] w fun e w' => e = ret2 0 1 ∧ w = w' := by
  have h1 := Bx.mk (fun W => isCell_any c W)
  rw [show decide (0 ≤ c ∧ c ≤ 255) = false by simpa using hc] at h1
  clear hc
  go_enter Tryz.func14, Tryz.ntmps14
  go_wp2_with fail
  refine (h1.out _).mono ?_
  rintro e w1 ⟨rfl, rfl⟩
  go_wp2_with fail
  go_ret2
  exact ⟨rfl, rfl⟩
theorem uniform_any (w : World) (Far : Nat → Prop) (sb : Nat) (most : Int) (ts : List Tr) (c : Int) (hc : 0 ≤ c ∧ c ≤ 255) (hG : Good ts) (hlen : ts.length ≤ 1000000000000) (hFar : ∀ k, Far k → k < w.heap.size) (hS : StoreIs w Far sb most ts) :
    Calls Tryz.prog 14 #[.pointer (some ⟨sb, 0, none⟩), .int .i64 c] w (Grew Far sb most ts (Tr.add (.uni c) ts) (.uni c) w) := by
  have h1 := Bx.mk (fun W => isCell_any c W)
  rw [show decide (0 ≤ c ∧ c ≤ 255) = true by simpa using hc] at h1
  have h2 := Bx.mk (make_uni w Far sb most ts c hc hG hlen hFar hS)
  clear hc hG hlen hFar hS
  go_enter Tryz.func14, Tryz.ntmps14
  go_wp2_with fail
  refine (h1.out _).mono ?_
  rintro e w1 ⟨rfl, rfl⟩
  go_wp2_with fail
  refine h2.out.mono ?_
  rintro e w1 hg
  have Hg := Bx.mk hg
  obtain ⟨-, -, (⟨hf, rfl, hs⟩ | ⟨hf, rfl, us, hs⟩)⟩ := hg
  all_goals
    clear hf hs
    unfold ret2 at Hg
    go_wp2_with fail
    go_ret2
    exact Hg.out
end Go.Proofs.YtabclecmehdeoaaGreat
end
