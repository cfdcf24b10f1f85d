/- Byt, Inp, Sho: joined by program, for one claim. -/
import Derived.Test.YtabclecmehdeoaaGreatDoorM34
import Derived.Test.YtabclecmehdeoaaGreatDoorM36
section
namespace Go.Proofs.YtabclecmehdeoaaGreatDoor
open Go.RowKit Go.Sort
theorem strCells_nums {ys : List Int} (h : Byt ys) : Go.Lib.strCells (strOfNums ys) = ys.map (Value.int .u8) := by
 have h3 := bs_str h
 unfold Go.Lib.strCells
 conv => rhs; rw [← h3]
 unfold bs
 rw [List.map_map]; rfl
theorem wpList_append_str {P : Program} {w : World} {ops : Array Oper} {rest : List Oper} {o : Oper} {a : Act} {Q : Exit → Act → World → Prop} (hgd : o.guard = none) (sl x : Operand) (t u : TypeId)
 (ho : o.op = .call { callee := .builtin .append, args := #[sl, x], argTypes := #[t, u] })
 (B : Nat) (e : TypeId) (ht : P.underlying t = some (.slice e)) (hu : P.underlying u = some .string) (hi : (P.info? e).map (fun i => (i.zero, i.size, i.bytes)) = some (some (.int .u8 0), 1, 1))
 (v : Value) (xs ys : List Int) (hs : a.eval sl = v) (hown : Own w B e .u8 v xs) (hy : Byt ys) (hx : a.eval x = .string (strOfNums ys)) (hlen : xs.length + ys.length ≤ 1000000000) (hbase : B ≤ w.heap.size)
 (h : ∀ v' w', Own w' B e .u8 v' (xs ++ ys) → w.grownBy w' v.ownBlock → wpList P ops Q rest (a.put o.dst v') w') : wpList P ops Q (o :: rest) a w := by
 obtain ⟨i0, hi0, hz0, hz1, hz2⟩ := info_parts hi
 have hsz := strOfNums_size ys
 refine Go.Lib.wpList_append_own_string w hgd sl x t u ho B e i0 ht hu hi0 hz0 hz1 hz2 v xs.length (xs.map (Value.int .u8)) hs hown (strOfNums ys) hx (by rw [hsz]; unfold maxLen; omega) (by rw [hsz]; omega) hbase fun v' w' h1 h2 _ => h v' w' ?_ h2
 unfold Own
 rw [hsz, strCells_nums hy] at h1
 rw [List.length_append, List.map_append]
 exact h1
def wb (p : List Int) : List Int := vi (2 * p.length) ++ p
theorem byt_wb {p : List Int} (h : Byt p) : Byt (wb p) := (byt_vi _).append h
theorem vi_le (z : Nat) (hz : z ≤ 2000000000000) : (vi z).length ≤ 7 := vi_len 6 z (by have : 128 ^ (6 + 1) = 562949953421312 := (by decide); omega)
theorem wb_len (p : List Int) (h : p.length ≤ 1000000) : (wb p).length ≤ p.length + 7 := by
 unfold wb
 rw [List.length_append]
 have := vi_le (2 * p.length) (by omega)
 omega
theorem PadI.str {w : World} {v v' : Value} {xs ys : List Int} {w1 w4 : World} (h : PadI w v xs w1) (ho : Own w4 w.heap.size 5 .u8 v' (xs ++ ys)) (hg : w1.grownBy w4 v.ownBlock) : PadI w v' (xs ++ ys) w4 := by
 have hne : ∀ k, k < w.heap.size → v.ownBlock ≠ some k := fun k hk e => by have := (h.own.lt k e).1; omega
 have hs := h.bel.size
 exact ⟨ho, h.bel.trans ⟨hg.os, hg.tape, hg.output, hg.size, fun k hk => hg.block k (by omega) (fun e => hne k hk e.symm)⟩⟩
set_option maxRecDepth 100000 in
theorem bytes_any (p : List Int) (hb : Byt p) (hl : p.length ≤ 1000000) (w : World) : Calls Tryz.prog 96 #[.string (strOfNums p)] w (BytesPost w (wb p)) := by
 have hI := Bx.mk (int_any p.length (by omega) w)
 have hsz : (strOfNums p).size = p.length := strOfNums_size p
 have hb := Bx.mk hb
 have hln : Bx ((vi (2 * p.length)).length + p.length ≤ 1000000000) := ⟨by have := vi_le (2 * p.length) (by omega); omega⟩
 unfold wb
 generalize vi (2 * p.length) = xs at *
 go_enter Tryz.func96, Tryz.ntmps96
 go_wp2_with fail
 refine hI.out.mono ?_
 rintro _ w1 ⟨v1, rfl, hp1⟩
 replace hp1 := Bx.mk hp1
 go_wp2_with (refine wpList_append_str rfl _ _ _ _ rfl w.heap.size 5 Tryz.underlying88 Tryz.underlying9 (by kernel_rfl) _ xs p rfl hp1.out.own hb.out rfl hln.out hp1.out.bel.size ?_)
 intro v2 w2 ho hg
 have hp2 := Bx.mk (hp1.out.str ho hg)
 clear ho hg hp1
 go_wp2_with fail
 go_ret
 exact ⟨_, rfl, hp2.out⟩
set_option maxRecDepth 100000 in
theorem refbytes_any (p : List Int) (hb : Byt p) (hl : p.length ≤ 1000000) (w : World) : Calls Tryz.prog 129 #[.string (strOfNums p)] w (BytesPost w (wb p)) := by
 have hI := Bx.mk (refint_any p.length (by omega) w)
 have hsz : (strOfNums p).size = p.length := strOfNums_size p
 have hb := Bx.mk hb
 have hln : Bx ((vi (2 * p.length)).length + p.length ≤ 1000000000) := ⟨by have := vi_le (2 * p.length) (by omega); omega⟩
 unfold wb
 generalize vi (2 * p.length) = xs at *
 go_enter Tryz.func129, Tryz.ntmps129
 go_wp2_with fail
 refine hI.out.mono ?_
 rintro _ w1 ⟨v1, rfl, hp1⟩
 replace hp1 := Bx.mk hp1
 go_wp2_with (refine wpList_append_str rfl _ _ _ _ rfl w.heap.size 5 Tryz.underlying88 Tryz.underlying9 (by kernel_rfl) _ xs p rfl hp1.out.own hb.out rfl hln.out hp1.out.bel.size ?_)
 intro v2 w2 ho hg
 have hp2 := Bx.mk (hp1.out.str ho hg)
 clear ho hg hp1
 go_wp2_with fail
 go_ret
 exact ⟨_, rfl, hp2.out⟩
def dinp (tag : Int) (ps : List (List Int)) : List Int := tag % 256 :: (ps.map wb).flatten
theorem dinp_snoc (tag : Int) (ps : List (List Int)) (p : List Int) : dinp tag (ps ++ [p]) = dinp tag ps ++ wb p := by unfold dinp; simp
theorem byt_dinp (tag : Int) {ps : List (List Int)} (h : ∀ p ∈ ps, Byt p) : Byt (dinp tag ps) := by
 intro x hx
 unfold dinp at hx
 rcases List.mem_cons.1 hx with rfl | hx
 · omega
 · rw [List.mem_flatten] at hx
   obtain ⟨l, hl, hx⟩ := hx
   obtain ⟨p, hp, rfl⟩ := List.mem_map.1 hl
   exact byt_wb (h p hp) x hx
theorem dinp_len (tag : Int) (k : Nat) : ∀ {ps : List (List Int)}, (∀ p ∈ ps, p.length ≤ 1000) → ps.length ≤ k → (dinp tag ps).length ≤ 1 + k * 1007 := by
 have key : ∀ {ps : List (List Int)}, (∀ p ∈ ps, p.length ≤ 1000) → ((ps.map wb).flatten).length ≤ ps.length * 1007 := by
  intro ps
  induction ps with
  | nil => intro _; simp
  | cons p ps ih =>
    intro h
    rw [List.map_cons, List.flatten_cons, List.length_append, List.length_cons]
    have h1 := ih fun q hq => h q (List.mem_cons_of_mem _ hq)
    have h2 := h p List.mem_cons_self
    have h3 := wb_len p (by omega)
    omega
 intro ps h hk
 unfold dinp
 rw [List.length_cons]
 have h1 := key h
 have h2 : ps.length * 1007 ≤ k * 1007 := Nat.mul_le_mul_right _ hk
 omega
def dig (kc : List Int) (tag : Int) (ps : List (List Int)) : List Int := (sha kc (dinp tag ps)).take 16
end Go.Proofs.YtabclecmehdeoaaGreatDoor
end
section
namespace Go.Proofs.YtabclecmehdeoaaGreatDoor
open Go.RowKit Go.Sort
theorem PadI.start {w : World} {v : Value} {xs : List Int} {w1 : World} (ho : Own w1 w.heap.size 5 .u8 v xs) (hb : Below w.heap.size w w1) : PadI w v xs w1 := ⟨ho, hb⟩
structure Parts (ps : List (List Int)) : Prop where
 byt : ∀ p ∈ ps, Byt p
 len : ∀ p ∈ ps, p.length ≤ 1000
 few : ps.length ≤ 20
set_option maxRecDepth 100000 in
theorem input_any (tag : Int) (a : Option Addr) (cap : Nat) (ps : List (List Int)) (hp : Parts ps) (w : World) (hs : Slv w a (strs ps)) :
 Calls Tryz.prog 100 #[.int .i64 tag, .slice a ps.length cap] w (BytesPost w (dinp tag ps)) := by
 have hs := Bx.mk hs
 have hB := Bx.mk fun (p : List Int) (hq : p ∈ ps) (W : World) => refbytes_any p (hp.byt p hq) (by have := hp.len p hq; omega) W
 have hfew := hp.few
 have hlb := Bx.mk fun (p : List Int) (hq : p ∈ ps) => wb_len p (by have := hp.len p hq; omega)
 have hlp := Bx.mk hp.len
 clear hp
 generalize hpn : ps.length = pn at *
 replace hpn := Bx.mk hpn
 have hd0 : Bx (dinp tag (ps.take 0) = [tag % 256]) := ⟨by rw [List.take_zero]; rfl⟩
 go_enter Tryz.func100, Tryz.ntmps100
 go_upto_region 2 with fail
 generalize hW : World.alloc w _ = w1
 have HI : Bx (PadI w (.slice (some ⟨w.heap.size, 0, none⟩) 1 1) (dinp tag (ps.take 0)) w1) := by
  rw [← hW, hd0.out]
  exact ⟨⟨Own.lit _ _ _ _ _ _ _ (Nat.le_refl _) (by decide) rfl rfl, (Below.refl _ _).alloc (Nat.le_refl _) _⟩⟩
 clear hW hd0
 go_wp2_with fail
 go_loopw [5, 6] (fun v5 v6 wr => ∃ k : Nat, k ≤ pn ∧ v6 = .int .i64 k ∧ Bx (PadI w v5 (dinp tag (ps.take k)) wr)) (fun _ v6 _ => pn - (intOf v6).toNat)
 case atStart => exact ⟨0, Nat.zero_le _, rfl, HI⟩
 case round =>
  clear HI
  obtain ⟨k, hk, rfl, HI⟩ := hrel
  by_cases hlt : k < pn
  · have t0 : decide ((k : Int) < (pn : Int)) = true := by simp; omega
    obtain ⟨p, hp⟩ : ∃ p, ps[k]? = some p := ⟨_, List.getElem?_eq_getElem (by have := hpn.out; omega)⟩
    have hpm := List.mem_of_getElem? hp
    obtain ⟨b, o, rfl, hc⟩ := (hs.out.below HI.out.bel) k _ (strs_at hp)
    have hB1 := Bx.mk (hB.out p hpm)
    have hsn : Bx (dinp tag (ps.take (k + 1)) = dinp tag (ps.take k) ++ wb p) := ⟨by rw [← dinp_snoc]; congr 1; obtain ⟨h1, rfl⟩ := List.getElem?_eq_some_iff.1 hp; exact List.take_succ_eq_append_getElem h1⟩
    have hln : Bx ((dinp tag (ps.take k)).length + (wb p).length ≤ 1000000000) := ⟨by
     have h1 := dinp_len tag 20 (ps := ps.take k) (fun q hq => hlp.out q (List.mem_of_mem_take hq)) (by rw [List.length_take]; omega)
     have h2 := hlb.out p hpm
     have h3 := hlp.out p hpm
     omega⟩
    have q0 : (0 : Int) ≤ (k : Int) := by omega
    have q1 : (k : Int) < (pn : Int) := by omega
    clear hp hpm
    generalize dinp tag (ps.take k) = xs at *
    generalize wb p = ys at *
    go_wp2_with fail
    refine (hB1.out _).mono ?_
    rintro _ w3 ⟨v3, rfl, hp3⟩
    obtain ⟨a3, c3, rfl, hs3⟩ := hp3.own.form
    replace hs3 := Bx.mk hs3
    have HI3 : Bx (PadI w u5 xs w3) := ⟨HI.out.own.below hp3.bel, HI.out.bel.trans (hp3.bel.mono HI.out.bel.size)⟩
    clear hp3 HI
    go_wp2_with (refine wpList_append_ints rfl _ _ _ rfl 5 .u8 (.int .u8 0) 1 (by omega) Tryz.underlying88 (by kernel_rfl) rfl w.heap.size _ xs rfl HI3.out.own ys _ _ c3 rfl rfl hs3.out hln.out HI3.out.bel.size ?_)
    intro v4 w4 ho hg _
    have HI4 := Bx.mk (HI3.out.str ho hg)
    rw [← hsn.out] at HI4
    clear ho hg HI3 hsn
    go_wp2_with fail
    go_roundw
    case rel => exact ⟨k + 1, by omega, by go_num, HI4⟩
    case measure => simp [intOf]; omega
  · have t0 : decide ((k : Int) < (pn : Int)) = false := by simp; omega
    obtain rfl : k = pn := by omega
    rw [List.take_of_length_le (by rw [hpn.out]; omega)] at HI
    go_wp2_with fail
    go_ret
    exact ⟨_, rfl, HI.out⟩
end Go.Proofs.YtabclecmehdeoaaGreatDoor
end
section
namespace Go.Proofs.YtabclecmehdeoaaGreatDoor
open Go.RowKit Go.Sort
def z16 : List Int := List.replicate 16 0
structure ShoI (w : World) (b o : Nat) (xs : List Int) (i : Nat) (wr : World) : Prop where
 bel : Below w.heap.size w wr
 kr : Bl wr w.heap.size .u8 z16 49
 kb : Bl wr b .u8 xs 127
 ko : Bl wr o .u8 (xs.take i ++ List.replicate (16 - i) 0) 49
 ap : w.heap.size < b ∧ b < o
theorem ShoI.put {w wr : World} {b o : Nat} {xs : List Int} {i : Nat} {x : Int} (h : ShoI w b o xs i wr) (hi : i < 16) (hx : xs[i]? = some x) : ShoI w b o xs (i + 1) (wr.setCell ⟨o, i, none⟩ (.int .u8 x)) := by
 have ha := h.ap
 have hl : i < xs.length := (List.getElem?_eq_some_iff.1 hx).1
 have hti : (xs.take i).length = i := by rw [List.length_take]; omega
 refine ⟨h.bel.setCell (by show w.heap.size ≤ o; omega) _, h.kr.other _ _ (by show w.heap.size ≠ o; omega), h.kb.other _ _ (by show b ≠ o; omega), ?_, ha⟩
 have := h.ko.put i x
 rw [show 16 - i = (16 - (i + 1)) + 1 by omega, List.replicate_succ, List.set_append_right _ _ (by omega), hti, Nat.sub_self, List.set_cons_zero] at this
 obtain ⟨h1, rfl⟩ := List.getElem?_eq_some_iff.1 hx
 rw [List.take_succ_eq_append_getElem h1, List.append_assoc]
 exact this
theorem ShoI.at_ {w wr : World} {b o : Nat} {xs : List Int} {i : Nat} (h : ShoI w b o xs i wr) (hi : i < 16) (hl : xs.length = 32) : wr.cell? ⟨o, i, none⟩ = some (.int .u8 0) :=
 h.ko.cell (by
  have hti : (xs.take i).length = i := by rw [List.length_take]; omega
  rw [List.getElem?_append_right (by omega), hti, Nat.sub_self, show 16 - i = (16 - (i + 1)) + 1 by omega, List.replicate_succ]; rfl)
def DigPost (w : World) (xs : List Int) (e : Ending) (w' : World) : Prop := e = .returned (arrV .u8 xs) ∧ Below w.heap.size w w'
set_option maxRecDepth 100000 in
theorem short_any (kc m : List Int) (hk : kc.length = 64) (hm : m.length ≤ 500000000) (hb : Byt m) (a : Option Addr) (cap : Nat) (w : World) (hs : Sl w .u8 a m) (hK : Krow w 1 kc) :
 Calls Tryz.prog 99 #[.slice a m.length cap] w (DigPost w ((sha kc m).take 16)) := by
 have hs := Bx.mk hs
 have hK := Bx.mk hK
 have hsum := Bx.mk fun (W : World) (h1 : Sl W .u8 a m) (h2 : Krow W 1 kc) => refsum_any kc m hk hm hb a cap W h1 h2
 have hl32 : (sha kc m).length = 32 := out_len _
 unfold SumPost at hsum
 generalize sha kc m = xs at *
 generalize m.length = n at *
 go_enter Tryz.func99, Tryz.ntmps99
 go_upto_region 1 with fail
 generalize hW : World.alloc w _ = w1
 have HJ : Bx (Below w.heap.size w w1 ∧ Bl w1 w.heap.size .u8 z16 49) := by
  rw [← hW]
  exact ⟨⟨(Below.refl _ _).alloc (Nat.le_refl _) _, (blk_new _ _ _ rfl : Bk _ _ _ _)⟩⟩
 clear hW
 have hsum1 := Bx.mk (hsum.out w1 (hs.out.below HJ.out.1) (fun i v hv => cell_later HJ.out.1 (hK.out i v hv)))
 unfold arrV at hsum1
 have hsz : Bx ((xs.map (Value.int .u8)).toArray.size = 32) := ⟨by rw [List.size_toArray, List.length_map, hl32]⟩
 have hone := Bx.mk (one_ints .u8 xs)
 have H1 := Bx.mk (show ∀ cs : Array Value, cs.size = 32 → (Tryz.prog.info? 127).map (·.size) = some cs.size from fun cs h => by rw [h]; kernel_rfl)
 replace hl32 := Bx.mk hl32
 go_wp2_with fail
 refine hsum1.out.mono ?_
 rintro _ w2 ⟨rfl, hb2⟩
 have HJ2 : Bx (Below w.heap.size w w2 ∧ Bl w2 w.heap.size .u8 z16 49) := ⟨HJ.out.1.trans (hb2.mono HJ.out.1.size), HJ.out.2.later hb2⟩
 clear HJ hb2 hsum1 hsum
 go_upto_region 2 with (refine wpList_store_whole rfl _ _ _ rfl w2.heap.size rfl _ _ rfl _ (heap_alloc_new _ _) (H1.out _ hsz.out) (by rw [hsz.out]; rfl) hone.out ?_)
 simp only [Act.put]
 generalize hW : World.setRow (World.alloc w2 _) _ _ = w3
 have HJ3 : Bx (Below w.heap.size w w3 ∧ Bl w3 w.heap.size .u8 z16 49 ∧ Bl w3 w2.heap.size .u8 xs 127 ∧ w2.heap.size < w3.heap.size ∧ w.heap.size < w2.heap.size) := by
  have hb3 : Below w2.heap.size w2 w3 := by rw [← hW]; exact below_setRow ((Below.refl _ _).alloc (Nat.le_refl _) _) (Nat.le_refl _) _
  have hk3 : Bl w3 w2.heap.size .u8 xs 127 := by rw [← hW]; exact setRow_heap _ _ _ _ _ (0, 0) (heap_alloc_new _ _)
  exact ⟨HJ2.out.1.trans (hb3.mono HJ2.out.1.size), HJ2.out.2.later hb3, hk3, hk3.lt, HJ2.out.2.lt⟩
 clear hW HJ2
 go_upto_region 3 with fail
 generalize hW : World.alloc w3 _ = w4
 have HI : Bx (ShoI w w2.heap.size w3.heap.size xs 0 w4) := by
  rw [← hW]
  exact ⟨⟨HJ3.out.1.alloc HJ3.out.1.size _, (blk_old HJ3.out.2.1 : Bk _ _ _ _), (blk_old HJ3.out.2.2.1 : Bk _ _ _ _), (blk_new _ _ _ rfl : Bk _ _ _ _), HJ3.out.2.2.2.2, HJ3.out.2.2.2.1⟩⟩
 clear hW HJ3
 generalize w3.heap.size = o at *
 generalize w2.heap.size = b at *
 go_wp2_with fail
 go_loopw [5] (fun v5 wr => ∃ i : Nat, i ≤ 16 ∧ v5 = .int .i64 i ∧ Bx (ShoI w b o xs i wr)) (fun v5 _ => 16 - (intOf v5).toNat)
 case atStart => exact ⟨0, Nat.zero_le _, rfl, HI⟩
 case round =>
  clear HI
  obtain ⟨i, hi, rfl, HI⟩ := hrel
  by_cases hlt : i < 16
  · have t0 : decide ((i : Int) < 16) = true := by simp; omega
    obtain ⟨x, hx⟩ : ∃ x, xs[i]? = some x := ⟨_, List.getElem?_eq_getElem (by have := hl32.out; omega)⟩
    have c1 := HI.out.kb.cell hx
    have co := HI.out.at_ hlt hl32.out
    have fo := HI.out.ko.frozen i
    have HI2 := Bx.mk (HI.out.put hlt hx)
    have q0 : (0 : Int) ≤ (i : Int) := by omega
    have q1 : (i : Int) < 16 := by omega
    have q2 : (i : Int) < 32 := by omega
    clear hx HI
    go_wp2_with fail
    go_roundw
    case rel => exact ⟨i + 1, by omega, by go_num, HI2⟩
    case measure => simp [intOf]; omega
  · have t0 : decide ((i : Int) < 16) = false := by simp; omega
    obtain rfl : i = 16 := by omega
    have hko : Bx (Bl wr o .u8 (xs.take 16) 49) := ⟨by have := HI.out.ko; rw [Nat.sub_self, List.replicate_zero, List.append_nil] at this; exact this⟩
    have hkr := Bx.mk HI.out.kr
    have hsz : Bx (((xs.take 16).map (Value.int .u8)).toArray.size = 16) := ⟨by rw [List.size_toArray, List.length_map, List.length_take, hl32.out]; rfl⟩
    have hs2 : Bx (((z16.map (Value.int .u8)).toArray).size = ((xs.take 16).map (Value.int .u8)).toArray.size) := ⟨by rw [hsz.out]; rfl⟩
    have hone := Bx.mk (one_ints .u8 (xs.take 16))
    have H2 := Bx.mk (show ∀ cs : Array Value, cs.size = 16 → (Tryz.prog.info? 49).map (·.size) = some cs.size from fun cs h => by rw [h]; kernel_rfl)
    generalize xs.take 16 = os at *
    go_upto_region 7 with fail
    go_wp2_with (first
     | refine wpList_load_whole rfl _ _ rfl o rfl _ _ hko.out _ Tryz.underlying49 rfl (H2.out _ hsz.out) ?_
     | refine wpList_store_whole rfl _ _ _ rfl w.heap.size rfl _ _ rfl _ hkr.out (H2.out _ hsz.out) hs2.out hone.out ?_)
    refine bodyPost_ret (v := arrV .u8 os) (results_cell_row rfl _ _ w.heap.size 49 _ (0, 0) _ rfl (hkr.out.whole _) Tryz.underlying49 rfl (H2.out _ hsz.out)) rfl ⟨rfl, below_setRow HI.out.bel (Nat.le_refl _) _⟩
set_option maxRecDepth 100000 in
theorem refof_any (kc : List Int) (hk : kc.length = 64) (tag : Int) (a : Option Addr) (cap : Nat) (ps : List (List Int)) (hp : Parts ps) (w : World) (hs : Slv w a (strs ps)) (hK : Krow w 1 kc) :
 Calls Tryz.prog 50 #[.int .i64 tag, .slice a ps.length cap] w (DigPost w (dig kc tag ps)) := by
 have hs := Bx.mk hs
 have hK := Bx.mk hK
 have hin := Bx.mk fun (W : World) (h : Slv W a (strs ps)) => input_any tag a cap ps hp W h
 have hml : Bx ((dinp tag ps).length ≤ 500000000) := ⟨by have := dinp_len tag 20 hp.len hp.few; omega⟩
 have hbm := Bx.mk (byt_dinp tag hp.byt)
 clear hp
 unfold dig
 generalize dinp tag ps = m at *
 generalize ps.length = pn at *
 go_enter Tryz.func50, Tryz.ntmps50
 go_upto_region 1 with fail
 generalize hW : World.alloc w _ = w1
 have HJ : Bx (Below w.heap.size w w1 ∧ Bl w1 w.heap.size .u8 z16 49) := by
  rw [← hW]
  exact ⟨⟨(Below.refl _ _).alloc (Nat.le_refl _) _, (blk_new _ _ _ rfl : Bk _ _ _ _)⟩⟩
 clear hW
 go_wp2_with fail
 refine (hin.out w1 (hs.out.below HJ.out.1)).mono ?_
 rintro _ w2 ⟨v2, rfl, hp2⟩
 obtain ⟨a2, c2, rfl, hs2⟩ := hp2.own.form
 have HJ2 : Bx (Below w.heap.size w w2 ∧ Bl w2 w.heap.size .u8 z16 49) := ⟨HJ.out.1.trans (hp2.bel.mono HJ.out.1.size), HJ.out.2.later hp2.bel⟩
 have hsh := short_any kc m hk hml.out hbm.out a2 c2 w2 hs2 (fun i v hv => cell_later HJ2.out.1 (hK.out i v hv))
 have hl16 : ((sha kc m).take 16).length = 16 := by rw [List.length_take, show (sha kc m).length = 32 from out_len _]; rfl
 replace hsh := Bx.mk hsh
 clear hp2 HJ hs2
 generalize (sha kc m).take 16 = os at *
 generalize m.length = mn at *
 have hsz : Bx (((os).map (Value.int .u8)).toArray.size = 16) := ⟨by rw [List.size_toArray, List.length_map, hl16]⟩
 have hs2 : Bx (((z16.map (Value.int .u8)).toArray).size = (os.map (Value.int .u8)).toArray.size) := ⟨by rw [hsz.out]; rfl⟩
 have hone := Bx.mk (one_ints .u8 os)
 have H2 := Bx.mk (show ∀ cs : Array Value, cs.size = 16 → (Tryz.prog.info? 49).map (·.size) = some cs.size from fun cs h => by rw [h]; kernel_rfl)
 clear hl16
 go_wp2_with fail
 refine hsh.out.mono ?_
 rintro _ w3 ⟨rfl, hb3⟩
 have HJ3 : Bx (Below w.heap.size w w3 ∧ Bl w3 w.heap.size .u8 z16 49) := ⟨HJ2.out.1.trans (hb3.mono HJ2.out.1.size), HJ2.out.2.later hb3⟩
 have hkr := Bx.mk HJ3.out.2
 unfold arrV
 go_wp2_with (refine wpList_store_whole rfl _ _ _ rfl w.heap.size rfl _ _ rfl _ hkr.out (H2.out _ hsz.out) hs2.out hone.out ?_)
 refine bodyPost_ret (v := arrV .u8 os) (results_cell_row rfl _ _ w.heap.size 49 _ (0, 0) _ rfl (hkr.out.whole _) Tryz.underlying49 rfl (H2.out _ hsz.out)) rfl ⟨rfl, below_setRow HJ3.out.1 (Nat.le_refl _) _⟩
end Go.Proofs.YtabclecmehdeoaaGreatDoor
end
