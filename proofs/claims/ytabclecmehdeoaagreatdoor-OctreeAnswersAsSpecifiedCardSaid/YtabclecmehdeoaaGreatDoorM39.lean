/- EPal, Dgp, Des, Dsn, ET1, ET2: joined by program, for one claim. -/
import Derived.Test.YtabclecmehdeoaaGreatDoorM37
import Derived.Test.YtabclecmehdeoaaGreatDoorM23
import Derived.Test.YtabclecmehdeoaaGreatDoorM24
import Derived.Test.YtabclecmehdeoaaGreatDoorM1
section
namespace Go.Proofs.YtabclecmehdeoaaGreatDoor.PalE.Pal
def add (p : List Int) (c : Int) : List Int := if c ∈ p then p else p ++ [c]
def diff (l : List Int) : List Int := l.foldl add []
theorem diff_snoc (l : List Int) (c : Int) : diff (l ++ [c]) = add (diff l) c := by simp [diff]
theorem diff_take (l : List Int) (k : Nat) (x : Int) (h : l[k]? = some x) : diff (l.take (k + 1)) = add (diff (l.take k)) x := by
 rw [List.take_add_one, h]; exact diff_snoc _ _
theorem add_length (p : List Int) (c : Int) : (add p c).length ≤ p.length + 1 := by
 unfold add; split <;> simp
theorem diff_length_take (l : List Int) (k : Nat) : (diff (l.take k)).length ≤ k := by
 induction k with
 | zero => simp [diff]
 | succ k ih =>
   cases h : l[k]? with
   | none =>
     rw [List.take_add_one, h]; simp; omega
   | some x =>
     rw [diff_take l k x h]
     have := add_length (diff (l.take k)) x
     omega
theorem diff_length (l : List Int) : (diff l).length ≤ l.length := by
 have := diff_length_take l l.length
 simpa using this
def find (xs : List Int) (c : Int) : Int := if c ∈ xs then ((xs.idxOf c : Nat) : Int) else -1
theorem find_pos {xs : List Int} {c : Int} (h : c ∈ xs) : find xs c = ((xs.idxOf c : Nat) : Int) := if_pos h
theorem find_neg {xs : List Int} {c : Int} (h : c ∉ xs) : find xs c = -1 := if_neg h
def width (m : Nat) : Nat := if m ≤ 1 then 0 else if m ≤ 2 then 1 else if m ≤ 4 then 2 else if m ≤ 16 then 4 else 8
def byt (w : Nat) (f : Nat → Nat) : Nat → Nat → Nat
 | 0, _ => 0
 | k + 1, j => byt w f k j + if k * w / 8 = j then f k * 2 ^ (k * w % 8) else 0
def packs (w : Nat) (f : Nat → Nat) (n : Nat) : List Int := (List.range ((n * w + 7) / 8)).map fun j => (byt w f n j : Int)
def Wd (w : Nat) : Prop := w = 1 ∨ w = 2 ∨ w = 4 ∨ w = 8
theorem byt_lt (w : Nat) (f : Nat → Nat) (hw : Wd w) : ∀ k, (∀ i, i < k → f i < 2 ^ w) → ∀ j,
 (k * w ≤ 8 * j → byt w f k j = 0) ∧ (8 * j < k * w → k * w ≤ 8 * j + 8 → byt w f k j < 2 ^ (k * w - 8 * j)) ∧ byt w f k j < 256 := by
 intro k
 induction k with
 | zero => intro _ j; simp [byt]
 | succ k ih =>
   intro hf j
   obtain ⟨h1, h2, h3⟩ := ih (fun i hi => hf i (by omega)) j
   have hk := hf k (by omega)
   unfold byt
   rcases hw with rfl | rfl | rfl | rfl
   · by_cases hj : k * 1 / 8 = j
     · rw [if_pos hj]
       have : k * 1 % 8 = 0 ∨ k * 1 % 8 = 1 ∨ k * 1 % 8 = 2 ∨ k * 1 % 8 = 3 ∨ k * 1 % 8 = 4 ∨ k * 1 % 8 = 5 ∨ k * 1 % 8 = 6 ∨ k * 1 % 8 = 7 := by omega
       by_cases h0 : k * 1 ≤ 8 * j
       · have hb := h1 h0
         have hs : k * 1 % 8 = 0 := by omega
         have he : (k + 1) * 1 - 8 * j = 1 := by omega
         rw [hb, hs, he]; simp at hk ⊢; omega
       · have hb := h2 (by omega) (by omega)
         have he : (k + 1) * 1 - 8 * j = k * 1 % 8 + 1 := by omega
         have he' : k * 1 - 8 * j = k * 1 % 8 := by omega
         rw [he] ; rw [he'] at hb
         rcases this with hs | hs | hs | hs | hs | hs | hs | hs <;> rw [hs] at hb ⊢ <;> simp at hk hb ⊢ <;> omega
     · rw [if_neg hj]
       refine ⟨fun h => by simpa using h1 (by omega), fun ha hb => ?_, by simpa using h3⟩
       have := h2 (by omega) (by omega)
       omega
   · by_cases hj : k * 2 / 8 = j
     · rw [if_pos hj]
       have : k * 2 % 8 = 0 ∨ k * 2 % 8 = 2 ∨ k * 2 % 8 = 4 ∨ k * 2 % 8 = 6 := by omega
       by_cases h0 : k * 2 ≤ 8 * j
       · have hb := h1 h0
         have hs : k * 2 % 8 = 0 := by omega
         have he : (k + 1) * 2 - 8 * j = 2 := by omega
         rw [hb, hs, he]; simp at hk ⊢; omega
       · have hb := h2 (by omega) (by omega)
         have he : (k + 1) * 2 - 8 * j = k * 2 % 8 + 2 := by omega
         have he' : k * 2 - 8 * j = k * 2 % 8 := by omega
         rw [he] ; rw [he'] at hb
         rcases this with hs | hs | hs | hs <;> rw [hs] at hb ⊢ <;> simp at hk hb ⊢ <;> omega
     · rw [if_neg hj]
       refine ⟨fun h => by simpa using h1 (by omega), fun ha hb => ?_, by simpa using h3⟩
       omega
   · by_cases hj : k * 4 / 8 = j
     · rw [if_pos hj]
       have : k * 4 % 8 = 0 ∨ k * 4 % 8 = 4 := by omega
       by_cases h0 : k * 4 ≤ 8 * j
       · have hb := h1 h0
         have hs : k * 4 % 8 = 0 := by omega
         have he : (k + 1) * 4 - 8 * j = 4 := by omega
         rw [hb, hs, he]; simp at hk ⊢; omega
       · have hb := h2 (by omega) (by omega)
         have he : (k + 1) * 4 - 8 * j = k * 4 % 8 + 4 := by omega
         have he' : k * 4 - 8 * j = k * 4 % 8 := by omega
         rw [he] ; rw [he'] at hb
         rcases this with hs | hs <;> rw [hs] at hb ⊢ <;> simp at hk hb ⊢ <;> omega
     · rw [if_neg hj]
       refine ⟨fun h => by simpa using h1 (by omega), fun ha hb => ?_, by simpa using h3⟩
       omega
   · by_cases hj : k * 8 / 8 = j
     · rw [if_pos hj]
       have hs : k * 8 % 8 = 0 := by omega
       have hb := h1 (by omega)
       have he : (k + 1) * 8 - 8 * j = 8 := by omega
       rw [hb, hs, he]; simp at hk ⊢; omega
     · rw [if_neg hj]
       refine ⟨fun h => by simpa using h1 (by omega), fun ha hb => ?_, by simpa using h3⟩
       omega
def cell (c : Int) : Bool := decide (0 ≤ c) && decide (c ≤ 255)
def bytes (w : Nat) (f : Nat → Nat) (k m : Nat) : List Int := (List.range m).map fun j => (byt w f k j : Int)
theorem packs_eq (w : Nat) (f : Nat → Nat) (n : Nat) : packs w f n = bytes w f n ((n * w + 7) / 8) := rfl
theorem bytes_length (w : Nat) (f : Nat → Nat) (k m : Nat) : (bytes w f k m).length = m := by simp [bytes]
theorem bytes_more (w : Nat) (f : Nat → Nat) (k m : Nat) (h : byt w f k m = 0) : bytes w f k m ++ [0] = bytes w f k (m + 1) := by
 simp [bytes, List.range_succ, h]
theorem bytes_at (pre : List Int) (w : Nat) (f : Nat → Nat) (k m j : Nat) (hj : j < m) : (pre ++ bytes w f k m)[pre.length + j]? = some (byt w f k j : Int) := by
 rw [List.getElem?_append_right (by omega)]
 simp [bytes, hj]
theorem bytes_set (pre : List Int) (w : Nat) (f : Nat → Nat) (k m j : Nat) (hj : j = k * w / 8) : (pre ++ bytes w f k m).set (pre.length + j) ((byt w f k j + f k * 2 ^ (k * w % 8) : Nat) : Int) = pre ++ bytes w f (k + 1) m := by
 rw [List.set_append_right _ _ (by omega)]
 congr 1
 apply List.ext_getElem?
 intro i
 rw [show pre.length + j - pre.length = j by omega]
 by_cases hi : i < m
 · rw [List.getElem?_set]
   by_cases hij : j = i
   · subst hij
     have hi' : k * w / 8 < m := by omega
     simp [bytes, byt, hi', hj]
   · rw [if_neg hij]
     have : ¬ k * w / 8 = i := by omega
     simp [bytes, byt, hi, this]
 · rw [List.getElem?_eq_none (by simp [bytes]; omega), List.getElem?_eq_none (by simp [bytes]; omega)]
def bad (cells : List Int) : Bool := !cells.all cell || decide (64 < cells.length)
def packMain (cells : List Int) : List Int := (cells.length : Int) :: ((diff cells).length : Int) :: (diff cells ++ packs (width (diff cells).length) (fun i => (diff cells).idxOf (cells.getD i 0)) cells.length)
def packB (cells : List Int) : List Int := if bad cells then [] else if cells.length = 0 then [0] else packMain cells
def packE (cells : List Int) : Int := if bad cells then 1 else 0
theorem packB_bad {cells : List Int} (h : bad cells = true) : packB cells = [] := by simp [packB, h]
theorem packE_bad {cells : List Int} (h : bad cells = true) : packE cells = 1 := by simp [packE, h]
theorem packE_good {cells : List Int} (h : bad cells = false) : packE cells = 0 := by simp [packE, h]
theorem packB_nil {cells : List Int} (h : bad cells = false) (h0 : cells.length = 0) : packB cells = [0] := by simp [packB, h, h0]
theorem packB_main {cells : List Int} (h : bad cells = false) (h0 : ¬ cells.length = 0) : packB cells = packMain cells := by simp [packB, h, h0]
theorem mem_foldl_add (l : List Int) : ∀ (p : List Int) (c : Int), c ∈ l.foldl add p ↔ c ∈ p ∨ c ∈ l := by
 induction l with
 | nil => simp
 | cons x l ih =>
   intro p c
   rw [List.foldl_cons, ih]
   unfold add
   split <;> simp_all <;> grind
theorem mem_diff (l : List Int) (c : Int) : c ∈ diff l ↔ c ∈ l := by simp [diff, mem_foldl_add]
theorem width_wd {m : Nat} (h : 1 < m) : Wd (width m) := by
 unfold Wd width
 repeat (split <;> try omega)
theorem width_fits {m : Nat} (h : m ≤ 64) : m ≤ 2 ^ width m := by
 unfold width
 repeat (split <;> try omega)
def dg (t : List Int) (w i : Nat) : Option (Nat × Nat) :=
 if w = 0 then some (0, 0) else (t[i * w / 8]?).map fun b => (b.toNat / 2 ^ (i * w % 8) % 2 ^ w, b.toNat / 2 ^ (i * w % 8) / 2 ^ w)
def nxt (seen x : Nat) : Nat := if x = seen then seen + 1 else seen
def encB (cells : List Int) : List Int := if cells.length ≠ 64 then [] else packB cells
def encE (cells : List Int) : Int := if cells.length ≠ 64 then 1 else packE cells
def brick (l : List Int) : Bool := decide (l.length = 64) && l.all cell
def bit (t : List Int) (i : Nat) : Nat := (t.getD (i / 8) 0).toNat / 2 ^ (i % 8) % 2
def st (old t cells : List Int) : Nat → Option (Nat × List Int)
 | 0 => some (0, [])
 | i + 1 =>
   match st old t cells i with
   | none => none
   | some (k, out) =>
     if bit t i = 0 then some (k, out ++ [old.getD i 0])
     else match cells[k]? with
      | none => none
      | some c => if c = old.getD i 0 then none else some (k + 1, out ++ [c])
end Go.Proofs.YtabclecmehdeoaaGreatDoor.PalE.Pal
end
section
namespace Go.Proofs.YtabclecmehdeoaaGreatDoor
open Go.RowKit Go.Sort
open Oct
theorem dig_len (kc : List Int) (tag : Int) (ps : List (List Int)) : (dig kc tag ps).length = 16 := by
 unfold dig
 rw [List.length_take, show (sha kc (dinp tag ps)).length = 32 from out_len _]; rfl
theorem byt_dig (kc : List Int) (tag : Int) (ps : List (List Int)) : Byt (dig kc tag ps) := (byt_out _).take 16
theorem parts_one {p : List Int} (h : Byt p) (hl : p.length ≤ 1000) : Parts [p] :=
 ⟨fun q hq => by rw [List.mem_singleton.1 hq]; exact h, fun q hq => by rw [List.mem_singleton.1 hq]; exact hl, by simp⟩
theorem slv_lit (w : World) (p : List Int) (t : TypeId) : Slv (w.alloc (.cells #[.string (strOfNums p)] t)) (some ⟨w.heap.size, 0, none⟩) (strs [p]) := by
 intro i v hv
 match i with
 | 0 =>
   simp [strs] at hv
   subst hv
   exact ⟨_, 0, rfl, cell_new _ _ _⟩
 | i + 1 => simp [strs] at hv
theorem Ownv.lit1 (w : World) (B : Nat) (e : TypeId) (u : Value) (hb : B ≤ w.heap.size) : Ownv (w.alloc (.cells #[u] e)) B e (.slice (some ⟨w.heap.size, 0, none⟩) 1 1) [u] := by
 have := World.ownsRow_lit (e := e) (size := 1) w #[u] 1 hb (by decide) (by simp)
 simpa [Ownv] using this
theorem diff_short (l : List Int) : (PalE.Pal.diff l).length ≤ l.length := PalE.Pal.diff_length l
theorem encB_short {l : List Int} (hl : l.length = 64) : (PalE.Pal.encB l).length ≤ 200 := by
 unfold PalE.Pal.encB
 rw [if_neg (by omega)]
 unfold PalE.Pal.packB
 split
 · simp
 · split
   · simp
   · unfold PalE.Pal.packMain PalE.Pal.packs
     have h := diff_short l
     have hw : PalE.Pal.width (PalE.Pal.diff l).length ≤ 8 := by unfold PalE.Pal.width; repeat (split <;> try omega)
     have h2 : l.length * PalE.Pal.width (PalE.Pal.diff l).length ≤ 64 * 8 := by rw [hl]; exact Nat.mul_le_mul_left _ hw
     simp only [List.length_cons, List.length_append, List.length_map, List.length_range]
     omega
theorem byt_encB {l : List Int} (hl : l.length = 64) (hb : Byt l) : Byt (PalE.Pal.encB l) := by
 unfold PalE.Pal.encB
 rw [if_neg (by omega)]
 unfold PalE.Pal.packB
 split
 · intro x hx; simp at hx
 · split
   · intro x hx; simp at hx; omega
   · rename_i hbad hne
     have hd := diff_short l
     intro x hx
     unfold PalE.Pal.packMain at hx
     simp only [List.mem_cons, List.mem_append] at hx
     rcases hx with rfl | rfl | hx | hx
     · omega
     · omega
     · exact hb x ((PalE.Pal.mem_diff l x).1 hx)
     · unfold PalE.Pal.packs at hx
       obtain ⟨j, hj, rfl⟩ := List.mem_map.1 hx
       have hj := List.mem_range.1 hj
       by_cases h1 : 1 < (PalE.Pal.diff l).length
       · have hwd := PalE.Pal.width_wd h1
         have hlt := PalE.Pal.byt_lt _ (fun i => (PalE.Pal.diff l).idxOf (l.getD i 0)) hwd l.length (fun i hi => by
          have hm : l.getD i 0 ∈ PalE.Pal.diff l := (PalE.Pal.mem_diff l _).2 (by rw [List.getD_eq_getElem?_getD, List.getElem?_eq_getElem hi]; exact List.getElem_mem hi)
          have := List.idxOf_lt_length_of_mem hm
          have := PalE.Pal.width_fits (m := (PalE.Pal.diff l).length) (by omega)
          omega) j
         omega
       · have : PalE.Pal.width (PalE.Pal.diff l).length = 0 := by unfold PalE.Pal.width; rw [if_pos (by omega)]
         rw [this] at hj
         omega
def digT (kc : List Int) : Tr → List Int
 | .uni c => dig kc 1 [vi (2 * c.toNat)]
 | .brick l => dig kc 2 [PalE.Pal.encB l]
 | .node d ch => dig kc 3 (vi (2 * d) :: List.ofFn fun i => digT kc (ch i))
theorem digT_len (kc : List Int) (t : Tr) : (digT kc t).length = 16 := by cases t <;> (unfold digT; exact dig_len _ _ _)
theorem byt_digT (kc : List Int) (t : Tr) : Byt (digT kc t) := by cases t <;> (unfold digT; exact byt_dig _ _ _)
def kidsD (kc : List Int) (ch : Fin 8 → Tr) : List (List Int) := List.ofFn fun i => digT kc (ch i)
def partsD (kc : List Int) (d : Nat) (ch : Fin 8 → Tr) (k : Nat) : List (List Int) := vi (2 * d) :: (kidsD kc ch).take k
theorem kidsD_len (kc : List Int) (ch : Fin 8 → Tr) : (kidsD kc ch).length = 8 := List.length_ofFn
theorem partsD_snoc (kc : List Int) (d : Nat) (ch : Fin 8 → Tr) {k : Nat} (hk : k < 8) : partsD kc d ch (k + 1) = partsD kc d ch k ++ [digT kc (ch ⟨k, hk⟩)] := by
 unfold partsD
 rw [List.take_succ_eq_append_getElem (by rw [kidsD_len]; exact hk), List.cons_append]
 congr 3
 unfold kidsD
 rw [List.getElem_ofFn]
theorem partsD_len (kc : List Int) (d : Nat) (ch : Fin 8 → Tr) {k : Nat} (hk : k ≤ 8) : (partsD kc d ch k).length = k + 1 := by
 unfold partsD; rw [List.length_cons, List.length_take, kidsD_len]; omega
theorem partsD_all (kc : List Int) (d : Nat) (ch : Fin 8 → Tr) : dig kc 3 (partsD kc d ch 8) = digT kc (.node d ch) := by
 unfold partsD
 rw [List.take_of_length_le (by rw [kidsD_len]; exact Nat.le_refl _)]
 conv => rhs; unfold digT
 rfl
theorem partsD_ok (kc : List Int) {d : Nat} (ch : Fin 8 → Tr) (hd : d ≤ 1000) : Parts (partsD kc d ch 8) := by
 refine ⟨fun q hq => ?_, fun q hq => ?_, by rw [partsD_len _ _ _ (Nat.le_refl _)]; omega⟩
 all_goals
  unfold partsD at hq
  rcases List.mem_cons.1 hq with rfl | hq
 · exact byt_vi _
 · obtain ⟨i, rfl⟩ := List.mem_ofFn.1 (List.mem_of_mem_take hq)
   exact byt_digT _ _
 · have := vi_le (2 * d) (by omega); omega
 · obtain ⟨i, rfl⟩ := List.mem_ofFn.1 (List.mem_of_mem_take hq)
   rw [digT_len]; omega
end Go.Proofs.YtabclecmehdeoaaGreatDoor
end
section
namespace Go.Proofs.YtabclecmehdeoaaGreatDoor
open Go.RowKit Go.Sort Go.Maps
open Oct
theorem kind_b (Far : Nat → Prop) (sb : Nat) (most : Int) (ts : List Tr) (t : Tr) (ht : t ∈ ts) (v : Int) (hv : (nodeV ts t).cells.toList[0]? = some (.int .i64 v)) (hlen : ts.length ≤ 4194304) (w : World) (hS : StoreIs w Far sb most ts) :
 Calls Tryz.prog 27 #[.pointer (some ⟨sb, 0, none⟩), .int .i64 (idT ts t : Int)] w fun e' w' => e' = .returned (.int .i64 v) ∧ Below w.heap.size w w' :=
 (kind_any Far sb most ts _ t (idT_get ht) v hv hlen w hS).mono fun _e _w' ⟨h1, h2⟩ => ⟨h1, h2 ▸ Below.refl _ _⟩
theorem depth_b (Far : Nat → Prop) (sb : Nat) (most : Int) (ts : List Tr) (t : Tr) (ht : t ∈ ts) (v : Int) (hv : (nodeV ts t).cells.toList[3]? = some (.int .i64 v)) (hlen : ts.length ≤ 4194304) (w : World) (hS : StoreIs w Far sb most ts) :
 Calls Tryz.prog 28 #[.pointer (some ⟨sb, 0, none⟩), .int .i64 (idT ts t : Int)] w fun e' w' => e' = .returned (.int .i64 v) ∧ Below w.heap.size w w' :=
 (depth_any Far sb most ts _ t (idT_get ht) v hv hlen w hS).mono fun _e _w' ⟨h1, h2⟩ => ⟨h1, h2 ▸ Below.refl _ _⟩
set_option maxRecDepth 100000 in
set_option maxHeartbeats 2000000 in
theorem describes_uni (w : World) (Far : Nat → Prop) (sb : Nat) (most : Int) (ts : List Tr) (c : Int) (hc : 0 ≤ c ∧ c ≤ 255) (ht : Tr.uni c ∈ ts) (hG : Good ts) (hlen : ts.length ≤ 4194304) (hS : StoreIs w Far sb most ts) :
 Calls Tryz.prog 14 #[.pointer (some ⟨sb, 0, none⟩), .int .i64 (idT ts (.uni c) : Int), .string (strOfNums (Tr.enc (.uni c)))] w fun e w' => e = .returned (.bool true) ∧ Below w.heap.size w w' := by
 have hcel := Bx.mk (cells_any w Far sb most ts (.uni c) ht hG (by omega) hS)
 have hK := Bx.mk fun W (h : Below w.heap.size w W) => kind_b Far sb most ts (.uni c) ht 1 rfl hlen W (hS.later h)
 have hD := Bx.mk fun W (h : Below w.heap.size w W) => depth_b Far sb most ts (.uni c) ht 0 rfl hlen W (hS.later h)
 have hby : Byt [117, c] := fun x hx => by
  simp only [List.mem_cons, List.not_mem_nil, or_false] at hx
  omega
 have hi0 := fun W : World => idx_str (P := Tryz.prog) 9 Tryz.underlying9 hby (k := 0) (x := 117) rfl W
 have hi1 := fun W : World => idx_str (P := Tryz.prog) 9 Tryz.underlying9 hby (k := 1) (x := c) rfl W
 rw [show ((0 : Nat) : Int) = 0 from rfl] at hi0
 rw [show ((1 : Nat) : Int) = 1 from rfl] at hi1
 have hwrap : IntKind.i64.wrap c = c := IntWalk.i64_in _ (by omega)
 rw [show Tr.enc (.uni c) = [117, c] by simp [Tr.enc]]
 generalize strOfNums [117, c] = S at *
 generalize (idT ts (.uni c) : Int) = id at *
 clear hby hc ht hG hlen hS
 go_enter Tryz.func14, Tryz.ntmps14
 go_wp2_with fail
 refine hcel.out.mono ?_
 rintro _ w1 ⟨v, rfl, how, hB⟩
 obtain ⟨pa, pc, rfl, hsl⟩ := how.form
 obtain ⟨b, off, rfl, hcell⟩ := hsl 0 c rfl
 rw [Nat.add_zero] at hcell
 have Hcell := Bx.mk hcell
 have hlen1 : (outT (.uni c)).length = 1 := rfl
 rw [hlen1]
 clear how hsl hcel hcell hlen1
 go_wp2_with fail
 have qc : ∀ dk osk, (grow (redrawn w1 dk) osk).cell? ⟨b, off, none⟩ = some (.int .i64 c) := cell_regrown Hcell.out
 have q0 := Bx.mk fun dk osk => Calls.regrown_of (hK.out _ (hB.trans ((below_regrown w1 dk osk).mono hB.size)))
 have q1 := Bx.mk fun dk osk => Calls.regrown_of (hD.out _ (hB.trans ((below_regrown w1 dk osk).mono hB.size)))
 refine wp_region_quiet_below (by kernel_rfl) (by kernel_rfl) ?_
 repeat (first | go_big_quiet_step ((first | with_reducible exact q0.out _ _ | with_reducible exact q1.out _ _)) | quiet_step (first | with_reducible exact q0.out _ _ | with_reducible exact q1.out _ _))
 refine wpQuiet_nil ?_
 rintro _ ⟨⟨dq, osq⟩, rfl⟩
 have hb0 := below_regrown w1 dq osq
 replace hB := hB.trans (hb0.mono hB.size)
 generalize grow (redrawn w1 dq) osq = w2 at *
 clear q0 q1 qc
 go_wp2_with fail
 go_ret
 exact ⟨rfl, hB⟩
set_option maxRecDepth 100000 in
set_option maxHeartbeats 2000000 in
theorem describes_brick (w : World) (Far : Nat → Prop) (sb : Nat) (most : Int) (ts : List Tr) (l : List Int) (hl : l.length = 64) (hb : ∀ x ∈ l, 0 ≤ x ∧ x ≤ 255) (ht : Tr.brick l ∈ ts) (hG : Good ts) (hlen : ts.length ≤ 4194304) (hS : StoreIs w Far sb most ts) :
 Calls Tryz.prog 14 #[.pointer (some ⟨sb, 0, none⟩), .int .i64 (idT ts (.brick l) : Int), .string (strOfNums (Tr.enc (.brick l)))] w fun e w' => e = .returned (.bool true) ∧ Below w.heap.size w w' := by
 have hcel := Bx.mk (cells_any w Far sb most ts (.brick l) ht hG (by omega) hS)
 have hK := Bx.mk fun W (h : Below w.heap.size w W) => kind_any Far sb most ts _ (.brick l) (idT_get ht) 2 rfl hlen W (hS.later h)
 have hD := Bx.mk fun W (h : Below w.heap.size w W) => depth_any Far sb most ts _ (.brick l) (idT_get ht) 2 rfl hlen W (hS.later h)
 have hby : Byt (98 :: l) := fun x hx => by
  rcases List.mem_cons.1 hx with rfl | hx
  · omega
  · exact hb x hx
 have hi0 := fun W : World => idx_str (P := Tryz.prog) 9 Tryz.underlying9 hby (k := 0) (x := 98) rfl W
 rw [show ((0 : Nat) : Int) = 0 from rfl] at hi0
 have hRc := Bx.mk fun W => ref9_cells l hl hb W
 rw [show Tr.enc (.brick l) = 98 :: l by simp [Tr.enc]]
 generalize strOfNums (98 :: l) = S at *
 generalize (idT ts (.brick l) : Int) = id at *
 have Hl := Bx.mk hl
 clear hby hb ht hG hlen hS hl
 go_enter Tryz.func14, Tryz.ntmps14
 go_wp2_with fail
 refine hcel.out.mono ?_
 rintro _ w1 ⟨v, rfl, how, hB⟩
 obtain ⟨pa, pc, rfl, hsl⟩ := how.form
 replace hsl := Bx.mk hsl
 have hlen1 : (outT (.brick l)).length = 64 := Hl.out
 have hout : outT (.brick l) = l := rfl
 rw [hout] at hsl
 rw [hlen1]
 clear how hcel hlen1 hout
 go_wp2_with fail
 refine (hRc.out _).mono ?_
 rintro _ w2 ⟨qa, qc, rfl, hsq, hb0⟩
 replace hsl := Bx.mk (hsl.out.below hb0)
 replace hB := hB.trans (hb0.mono hB.size)
 have hsame := (ref_same pa qa pc qc l l w2 (by rw [Hl.out]; decide) (by rw [Hl.out]; decide) hsl.out hsq).mono (R' := fun e w' => e = .returned (.bool true) ∧ Below w2.heap.size w2 w') (fun e w' ⟨h1, h2⟩ => ⟨h1.trans (by simp), h2⟩)
 rw [Hl.out] at hsame
 have hsame := Bx.mk hsame
 clear hb0 hsq hsl
 go_wp2_with fail
 refine hsame.out.mono ?_
 rintro _ w3 ⟨rfl, hb0⟩
 replace hB := hB.trans (hb0.mono hB.size)
 clear hb0 hsame
 go_wp2_with fail
 refine (hK.out _ hB).mono ?_
 rintro _ _ ⟨rfl, rfl⟩
 go_wp2_with fail
 refine (hD.out _ hB).mono ?_
 rintro _ _ ⟨rfl, rfl⟩
 go_wp2_with fail
 go_ret
 exact ⟨rfl, hB⟩
end Go.Proofs.YtabclecmehdeoaaGreatDoor
end
section
namespace Go.Proofs.YtabclecmehdeoaaGreatDoor
open Go.RowKit Go.Sort Go.Maps
open Oct
theorem cells8 {wr : World} {b : Nat} {k : IntKind} {p : Nat → Int} {t : TypeId} (h : Bk wr b #[.int k (p 0), .int k (p 1), .int k (p 2), .int k (p 3), .int k (p 4), .int k (p 5), .int k (p 6), .int k (p 7)] t) {i : Nat} (hi : i < 8) : wr.cell? ⟨b, i, none⟩ = some (.int k (p i)) := by
 have h0 : i = 0 ∨ i = 1 ∨ i = 2 ∨ i = 3 ∨ i = 4 ∨ i = 5 ∨ i = 6 ∨ i = 7 := by omega
 rcases h0 with rfl | rfl | rfl | rfl | rfl | rfl | rfl | rfl
 all_goals exact h.cell _ rfl
noncomputable def kidX (ts : List Tr) (ch : Fin 8 → Tr) (k : Nat) : Int := if h : k < 8 then (idT ts (ch ⟨k, h⟩) : Int) else 0
structure DsI (w : World) (Far : Nat → Prop) (sb : Nat) (most : Int) (ts : List Tr) (ch : Fin 8 → Tr) (gc g : Nat) (wr : World) : Prop where
 st : StoreIs wr Far sb most ts
 bel : Below w.heap.size w wr
 kc : Bk wr gc #[.int .i64 (kidX ts ch 0), .int .i64 (kidX ts ch 1), .int .i64 (kidX ts ch 2), .int .i64 (kidX ts ch 3), .int .i64 (kidX ts ch 4), .int .i64 (kidX ts ch 5), .int .i64 (kidX ts ch 6), .int .i64 (kidX ts ch 7)] 59
 kids : Slv wr (some ⟨g, 0, none⟩) (strs (kidsE ch))
theorem DsI.later {w wr w' : World} {Far : Nat → Prop} {sb gc g : Nat} {most : Int} {ts : List Tr} {ch : Fin 8 → Tr} (h : DsI w Far sb most ts ch gc g wr) (hb : Below wr.heap.size wr w') : DsI w Far sb most ts ch gc g w' :=
 ⟨h.st.later hb, h.bel.trans (hb.mono h.bel.size), h.kc.later hb, h.kids.below hb⟩
set_option maxRecDepth 100000 in
set_option maxHeartbeats 2000000 in
theorem describes_any (Far : Nat → Prop) (sb : Nat) (most : Int) (ts : List Tr) (hG : Good ts) (hlen : ts.length ≤ 4194304) : ∀ (t : Tr), Tr.WF t → (Tr.enc t).length ≤ 1000000000000000 → t ∈ ts → ∀ (w : World), StoreIs w Far sb most ts →
 Calls Tryz.prog 14 #[.pointer (some ⟨sb, 0, none⟩), .int .i64 (idT ts t : Int), .string (strOfNums (Tr.enc t))] w fun e w' => e = .returned (.bool true) ∧ Below w.heap.size w w' := by
 intro t
 induction t with
 | uni c => intro h _ ht w hS; exact describes_uni w Far sb most ts c h ht hG hlen hS
 | brick l => intro h _ ht w hS; exact describes_brick w Far sb most ts l h.1 h.2 ht hG hlen hS
 | node d ch ih =>
   intro h hsz ht w hS
   have hcel := Bx.mk (cells_any w Far sb most ts (.node d ch) ht hG (by omega) hS)
   have hK := Bx.mk fun W (hs : StoreIs W Far sb most ts) => kind_b Far sb most ts (.node d ch) ht 3 rfl hlen W hs
   have hD := Bx.mk fun W (hs : StoreIs W Far sb most ts) => depth_b Far sb most ts (.node d ch) ht (d : Int) rfl hlen W hs
   have hC := Bx.mk fun W (hs : StoreIs W Far sb most ts) => children_any Far sb most ts _ (.node d ch) (idT_get ht) (kidX ts ch 0) (kidX ts ch 1) (kidX ts ch 2) (kidX ts ch 3) (kidX ts ch 4) (kidX ts ch 5) (kidX ts ch 6) (kidX ts ch 7) (fun j u hu => by
    match j with
    | 0 => simp at hu; subst hu; rfl
    | 1 => simp at hu; subst hu; rfl
    | 2 => simp at hu; subst hu; rfl
    | 3 => simp at hu; subst hu; rfl
    | 4 => simp at hu; subst hu; rfl
    | 5 => simp at hu; subst hu; rfl
    | 6 => simp at hu; subst hu; rfl
    | 7 => simp at hu; subst hu; rfl
    | j + 8 => simp at hu) W hs
   have hR := Bx.mk fun W => ref9_children d ch h hsz W
   have hd : d ≤ 255 := h.1
   have hIH := Bx.mk fun (k : Nat) (hk : k < 8) W (hs : StoreIs W Far sb most ts) => (show Calls Tryz.prog 14 #[.pointer (some ⟨sb, 0, none⟩), .int .i64 (kidX ts ch k), .string (strOfNums (Tr.enc (ch ⟨k, hk⟩)))] W fun e w' => e = .returned (.bool true) ∧ Below W.heap.size W w' from by
    unfold kidX
    rw [dif_pos hk]
    exact ih ⟨k, hk⟩ (h.2 _) (by
     have h1 := Tr.pos_succ ch hk
     have h2 := Tr.pos_le d ch (show k + 1 ≤ 8 by omega)
     omega) (hG.closed.2 d ch ht _) W hs)
   have hi0 := fun W : World => idx_str (P := Tryz.prog) 9 Tryz.underlying9 (Tr.enc_byt _ h) (k := 0) (x := 110) (by simp [Tr.enc]) W
   have hi1 := fun W : World => idx_str (P := Tryz.prog) 9 Tryz.underlying9 (Tr.enc_byt _ h) (k := 1) (x := (d : Int)) (by simp [Tr.enc]) W
   rw [show ((0 : Nat) : Int) = 0 from rfl] at hi0
   rw [show ((1 : Nat) : Int) = 1 from rfl] at hi1
   have hwrap : IntKind.i64.wrap (d : Int) = d := IntWalk.i64_in _ (by omega)
   have HS := Bx.mk hS
   have HK8 := Bx.mk fun k (hk : k < 8) => strs_at (kidsE_at ch hk)
   generalize strOfNums (Tr.enc (.node d ch)) = S at *
   generalize (idT ts (.node d ch) : Int) = id at *
   have hout : outT (.node d ch) = [] := rfl
   clear h ht hG hlen hS hsz ih
   go_enter Tryz.func14, Tryz.ntmps14
   go_wp2_with fail
   refine hcel.out.mono ?_
   rintro _ w1 ⟨v, rfl, how, hB⟩
   obtain ⟨pa, pc, rfl, -⟩ := how.form
   rw [hout]
   have hl0 : ([] : List Int).length = 0 := rfl
   rw [hl0]
   clear how hcel hout hl0
   replace HS := Bx.mk (HS.out.later hB)
   have HB := Bx.mk hB
   clear hB
   go_wp2_with fail
   have q0 := Bx.mk fun dk osk => Calls.regrown_of (hK.out _ (HS.out.later (below_regrown w1 dk osk)))
   have q1 := Bx.mk fun dk osk => Calls.regrown_of (hD.out _ (HS.out.later (below_regrown w1 dk osk)))
   refine wp_region_quiet_below (by kernel_rfl) (by kernel_rfl) ?_
   repeat (first | go_big_quiet_step ((first | with_reducible exact q0.out _ _ | with_reducible exact q1.out _ _)) | quiet_step (first | with_reducible exact q0.out _ _ | with_reducible exact q1.out _ _))
   refine wpQuiet_nil ?_
   rintro _ ⟨⟨dq, osq⟩, rfl⟩
   have hb0 := below_regrown w1 dq osq
   replace HS := Bx.mk (HS.out.later hb0)
   replace HB := Bx.mk (HB.out.trans (hb0.mono HB.out.size))
   generalize grow (redrawn w1 dq) osq = w2 at *
   clear q0 q1 hb0 hK hD
   go_wp2_with fail
   refine (hC.out _ HS.out).mono ?_
   rintro _ w3 ⟨rfl, hb0⟩
   replace HS := Bx.mk (HS.out.later hb0)
   replace HB := Bx.mk (HB.out.trans (hb0.mono HB.out.size))
   clear hb0 hC
   go_wp2_with fail
   generalize hW4 : World.alloc w3 _ = W4
   have hb4 : Below w3.heap.size w3 W4 := by rw [← hW4]; exact (Below.refl _ _).alloc (Nat.le_refl _) _
   have kc : Bk W4 w3.heap.size #[.int .i64 (kidX ts ch 0), .int .i64 (kidX ts ch 1), .int .i64 (kidX ts ch 2), .int .i64 (kidX ts ch 3), .int .i64 (kidX ts ch 4), .int .i64 (kidX ts ch 5), .int .i64 (kidX ts ch 6), .int .i64 (kidX ts ch 7)] 59 := by rw [← hW4]; exact blk_new _ _ _ rfl
   replace HS := Bx.mk (HS.out.later hb4)
   replace HB := Bx.mk (HB.out.trans (hb4.mono HB.out.size))
   clear hW4 hb4
   generalize w3.heap.size = gc at *
   refine (hR.out _).mono ?_
   rintro _ w5 ⟨g, pc2, rfl, hk, -, hb5⟩
   have HI := Bx.mk (show DsI w Far sb most ts ch gc g w5 from ⟨HS.out.later hb5, HB.out.trans (hb5.mono HB.out.size), kc.later hb5, hk⟩)
   clear hk hb5 kc HS HB hR
   go_wp2_with fail
   go_loopw [11] (fun v11 wr => ∃ k : Nat, k ≤ 8 ∧ v11 = .int .i64 k ∧ Bx (DsI w Far sb most ts ch gc g wr)) (fun i _ => 8 - (intOf i).toNat)
   case atStart => exact ⟨0, Nat.zero_le _, rfl, HI⟩
   case round =>
    clear HI
    obtain ⟨k, hk, rfl, HI⟩ := hrel
    by_cases hlt : k < 8
    · have t0 : decide ((k : Int) < 8) = true := by simp; omega
      have b1 : (0 : Int) ≤ (k : Int) := by omega
      have b2 : (k : Int) < 8 := by omega
      obtain ⟨b, off, he, hck⟩ := HI.out.kids k _ (HK8.out k hlt)
      simp only [Option.some.injEq, Addr.mk.injEq, and_true] at he
      obtain ⟨rfl, rfl⟩ := he
      rw [Nat.zero_add] at hck
      have qc1 : ∀ dk osk, (grow (redrawn wr dk) osk).cell? ⟨gc, k, none⟩ = some (.int .i64 (kidX ts ch k)) := cell_regrown (cells8 HI.out.kc hlt)
      have qc2 : ∀ dk osk, (grow (redrawn wr dk) osk).cell? ⟨g, k, none⟩ = some (.string (strOfNums (Tr.enc (ch ⟨k, hlt⟩)))) := cell_regrown hck
      have q0 := Bx.mk fun dk osk => Calls.regrown_of (hIH.out k hlt (grow (redrawn wr dk) osk) (HI.out.st.later (below_regrown wr dk osk)))
      clear hck
      go_wp2_with fail
      refine wp_region_quiet_below (by kernel_rfl) (by kernel_rfl) ?_
      repeat (first | go_big_quiet_step ((first | with_reducible exact q0.out _ _)) | quiet_step (first | with_reducible exact q0.out _ _))
      refine wpQuiet_nil ?_
      rintro _ ⟨⟨dq, osq⟩, rfl⟩
      have HI2 := Bx.mk (HI.out.later (below_regrown wr dq osq))
      generalize grow (redrawn wr dq) osq = w7 at *
      clear q0 qc1 qc2
      go_wp2_with fail
      go_roundw
      case rel => exact ⟨k + 1, by omega, by go_num, HI2⟩
      case measure => simp [intOf]; omega
    · obtain rfl : k = 8 := by omega
      have t0 : decide (((8 : Nat) : Int) < 8) = false := by decide
      go_wp2_with fail
      go_ret
      exact ⟨rfl, HI.out.bel⟩
end Go.Proofs.YtabclecmehdeoaaGreatDoor
end
section
namespace Go.Proofs.YtabclecmehdeoaaGreatDoor.PalE
set_option maxRecDepth 100000
open Go.RowKit
theorem idx_lt {xs : List Int} {c : Int} (h : c ∈ xs) : xs.idxOf c < xs.length := List.idxOf_lt_length_of_mem h
theorem idx_not {xs : List Int} {c : Int} (h : c ∉ xs) : xs.idxOf c = xs.length := List.idxOf_eq_length h
theorem idx_stop {xs : List Int} {c : Int} {k : Nat} (hk : xs[k]? = some c) (h : c ∉ xs.take k) : xs.idxOf c = k := by
 obtain ⟨hl, rfl⟩ := List.getElem?_eq_some_iff.1 hk
 have hs : xs = xs.take k ++ xs[k] :: xs.drop (k + 1) := by simp
 have hlen : (xs.take k).length = k := by simp; omega
 generalize hc : xs[k] = c at *
 rw [hs, List.idxOf_append, if_neg h]; simp [hlen]
theorem not_mem_snoc {xs : List Int} {c x : Int} {k : Nat} (hk : xs[k]? = some x) (h : c ∉ xs.take k) (hne : ¬ x = c) : c ∉ xs.take (k + 1) := by
 rw [List.take_add_one, hk]; simp [h]; exact fun e => hne e.symm
set_option maxHeartbeats 400000 in
theorem ref_index (a : Option Addr) (cap : Nat) (xs : List Int) (c : Int) (w : World) (hl : xs.length ≤ 1000000000) (h : Sl w .i64 a xs) :
 Calls Tryz.prog 133 #[.slice a xs.length cap, .int .i64 c] w fun e w' => e = .returned (.int .i64 (xs.idxOf c : Nat)) ∧ w = w' := by
 generalize hn : xs.length = n at hl
 have Hn := Bx.mk hn; clear hn
 go_enter Tryz.func133, Tryz.ntmps133
 go_wp2
 go_loop [5] (fun i => ∃ k : Nat, k ≤ n ∧ i = .int .i64 k ∧ c ∉ xs.take k) (fun i => n - (intOf i).toNat)
 case atStart => exact ⟨0, Nat.zero_le _, rfl, by simp⟩
 case round =>
  obtain ⟨k, hk, rfl, hno⟩ := hrel
  have Hno := Bx.mk hno; clear hno
  by_cases hlt : k < n
  · obtain ⟨x, hx⟩ := at_lt Hn hlt
    obtain ⟨b, off, rfl, hc⟩ := h k x hx
    have Hx := Bx.mk hx; clear h hx
    by_cases hec : x = c
    · have hb : (x == c) = true := by simp [hec]
      have hf := Bx.mk (idx_stop (hec ▸ Hx.out) Hno.out)
      clear hec
      go_wp2
      go_ret
      exact ⟨ret_nat hf.out.symm, rfl⟩
    · have hb : (x == c) = false := by simp [hec]
      have hno' := Bx.mk (not_mem_snoc Hx.out Hno.out hec)
      clear hec
      go_wp2
      go_round
      case rel => exact ⟨k+1, by omega, by go_num, hno'.out⟩
      case measure => simp [intOf]; omega
  · have hkn : k = n := by omega
    have hf := Bx.mk (show xs.idxOf c = n by rw [← Hn.out]; exact idx_not (by have := Hno.out; rw [hkn, ← Hn.out] at this; simpa using this))
    clear hkn
    go_wp2
    go_ret
    exact ⟨ret_nat hf.out.symm, rfl⟩
set_option maxHeartbeats 400000 in
theorem ref_palette (a : Option Addr) (cap : Nat) (xs : List Int) (w : World) (hl : xs.length ≤ 1000000) (h : Sl w .i64 a xs) :
 Calls Tryz.prog 131 #[.slice a xs.length cap] w fun e w' =>
  ∃ v, e = .returned v ∧ Own w' w.heap.size 3 .i64 v (Pal.diff xs) ∧ Below w.heap.size w w' := by
 generalize hn : xs.length = n at hl
 have Hn := Bx.mk hn; clear hn
 have hB : ∃ B, B = w.heap.size := ⟨_, rfl⟩
 go_enter Tryz.func131, Tryz.ntmps131
 go_wp2
 go_loopw [3, 4] (fun v i wr => ∃ k : Nat, k ≤ n ∧ i = .int .i64 k ∧ Own wr w.heap.size 3 .i64 v (Pal.diff (xs.take k)) ∧ Below w.heap.size w wr) (fun _ i _ => n - (intOf i).toNat)
 case atStart => exact ⟨0, Nat.zero_le _, rfl, Own.nil _ _ _ _, Below.refl _ _⟩
 case round =>
  obtain ⟨k, hk, rfl, hown, hbel⟩ := hrel
  by_cases hlt : k < n
  · obtain ⟨x, hx⟩ := at_lt Hn hlt
    have hrec := Bx.mk (Pal.diff_take xs k x hx)
    have hpl := Pal.diff_length_take xs k
    obtain ⟨b, off, rfl, hc⟩ := h.below hbel k x hx
    clear h hx
    generalize Pal.diff (xs.take k) = p at *
    obtain ⟨pa, pc, rfl, hsl⟩ := hown.form
    by_cases hmem : x ∈ p
    · have hb : (((p.idxOf x : Nat) : Int) == (p.length : Int)) = false := by have := idx_lt hmem; simp; omega
      have hadd := Bx.mk (show Pal.add p x = p by simp [Pal.add, hmem])
      clear hmem
      go_wp2_with (go_at_call 133; refine (ref_index pa pc p x _ (by omega) hsl).mono ?_; rintro e w' ⟨rfl, rfl⟩)
      go_roundw
      case rel => exact ⟨k+1, by omega, by go_num, by rw [hrec.out, hadd.out]; exact hown, hbel⟩
      case measure => simp [intOf]; omega
    · have hb : (((p.idxOf x : Nat) : Int) == (p.length : Int)) = true := by rw [idx_not hmem]; simp
      have hadd := Bx.mk (show Pal.add p x = p ++ [x] by simp [Pal.add, hmem])
      clear hmem
      go_wp2_with (first
       | (go_at_call 133; refine (ref_index pa pc p x _ (by omega) hsl).mono ?_; rintro e w' ⟨rfl, rfl⟩)
       | (at_builtin
          refine wpList_append_int rfl _ _ 26 rfl 3 .i64 (.int .i64 0) 8 (by omega) Tryz.underlying26 (by kernel_rfl) rfl w.heap.size _ p rfl (hown.alloc _) x ⟨wr.heap.size, 0, none⟩ 1 rfl (cell_new _ _ _) (by omega) (le_alloc hbel.size _) ?_
          intro v1 w1 hown1 hg1 _))
      go_roundw
      case rel => exact ⟨k+1, by omega, by go_num, by rw [hrec.out, hadd.out]; exact hown1, (hbel.alloc hbel.size _).grown hg1 (le_alloc hbel.size _) (fun g hg => (hown.lt g hg).1)⟩
      case measure => simp [intOf]; omega
  · have hkn : k = n := by omega
    rw [hkn, ← Hn.out, List.take_length] at hown
    clear hkn
    go_wp2
    go_ret
    exact ⟨_, rfl, hown, hbel⟩
end Go.Proofs.YtabclecmehdeoaaGreatDoor.PalE
end
section
namespace Go.Proofs.YtabclecmehdeoaaGreatDoor.PalE
set_option maxRecDepth 100000
open Go.RowKit
theorem ref_cell (c : Int) (w : World) : Calls Tryz.prog 156 #[.int .i64 c] w fun e w' => e = .returned (.bool (Pal.cell c)) ∧ w = w' := by
 by_cases h1 : 0 ≤ c <;> by_cases h2 : c ≤ 255
 all_goals
  have hr : Bx (Pal.cell c = (decide (0 ≤ c) && decide (c ≤ 255))) := ⟨rfl⟩
  go_enter Tryz.func156, Tryz.ntmps156
  go_wp2
  go_ret
  exact ⟨ret_bool (by rw [hr.out]; simp [*]), rfl⟩
theorem valid1 (c : Int) (w : World) : Calls Tryz.prog 151 #[.int .i64 c] w fun e w' => e = .returned (.bool (!Pal.cell c)) ∧ w = w' := by
 by_cases h1 : 0 ≤ c <;> by_cases h2 : c ≤ 255
 all_goals
  have hr : Bx (Pal.cell c = (decide (0 ≤ c) && decide (c ≤ 255))) := ⟨rfl⟩
  go_enter Tryz.func151, Tryz.ntmps151
  go_wp2
  go_ret
  exact ⟨ret_bool (by rw [hr.out]; simp [*]), rfl⟩
theorem width_ref (m : Nat) (w : World) (hm : m ≤ 1000000) : Calls Tryz.prog 132 #[.int .i64 (m : Int)] w fun e w' => e = .returned (.int .i64 (Pal.width m : Nat)) ∧ w = w' := by
 have hr : Bx (Pal.width m = if m ≤ 1 then 0 else if m ≤ 2 then 1 else if m ≤ 4 then 2 else if m ≤ 16 then 4 else 8) := ⟨rfl⟩
 go_enter Tryz.func132, Tryz.ntmps132
 go_wp2
 all_goals
  go_ret
  exact ⟨ret_int (by rw [hr.out]; split <;> (try split) <;> (try split) <;> (try split) <;> omega), rfl⟩
theorem width_pal (m : Nat) (w : World) (hm : m ≤ 64) : Calls Tryz.prog 125 #[.int .i64 (m : Int)] w fun e w' => e = .returned (.int .i64 (Pal.width m : Nat)) ∧ Below w.heap.size w w' := by
 have hr : Bx (Pal.width m = if m ≤ 1 then 0 else if m ≤ 2 then 1 else if m ≤ 4 then 2 else if m ≤ 16 then 4 else 8) := ⟨rfl⟩
 have i0 : ∀ w, (Instr.index 172 (.agg #[.int .i64 1, .int .i64 0, .int .i64 2, .int .i64 1, .int .i64 4, .int .i64 2, .int .i64 16, .int .i64 4, .int .i64 64, .int .i64 8]) (.int .i64 0)).run Tryz.prog w = .ok (.agg #[.int .i64 1, .int .i64 0]) w := fun _ => by kernel_rfl
 have i1 : ∀ w, (Instr.index 172 (.agg #[.int .i64 1, .int .i64 0, .int .i64 2, .int .i64 1, .int .i64 4, .int .i64 2, .int .i64 16, .int .i64 4, .int .i64 64, .int .i64 8]) (.int .i64 1)).run Tryz.prog w = .ok (.agg #[.int .i64 2, .int .i64 1]) w := fun _ => by kernel_rfl
 have i2 : ∀ w, (Instr.index 172 (.agg #[.int .i64 1, .int .i64 0, .int .i64 2, .int .i64 1, .int .i64 4, .int .i64 2, .int .i64 16, .int .i64 4, .int .i64 64, .int .i64 8]) (.int .i64 2)).run Tryz.prog w = .ok (.agg #[.int .i64 4, .int .i64 2]) w := fun _ => by kernel_rfl
 have i3 : ∀ w, (Instr.index 172 (.agg #[.int .i64 1, .int .i64 0, .int .i64 2, .int .i64 1, .int .i64 4, .int .i64 2, .int .i64 16, .int .i64 4, .int .i64 64, .int .i64 8]) (.int .i64 3)).run Tryz.prog w = .ok (.agg #[.int .i64 16, .int .i64 4]) w := fun _ => by kernel_rfl
 have i4 : ∀ w, (Instr.index 172 (.agg #[.int .i64 1, .int .i64 0, .int .i64 2, .int .i64 1, .int .i64 4, .int .i64 2, .int .i64 16, .int .i64 4, .int .i64 64, .int .i64 8]) (.int .i64 4)).run Tryz.prog w = .ok (.agg #[.int .i64 64, .int .i64 8]) w := fun _ => by kernel_rfl
 go_enter Tryz.func125, Tryz.ntmps125
 go_wp2
 go_loopw [3, 12] (fun v i wr => ((i = .int .i64 0) ∨ (i = .int .i64 1 ∧ 1 < m) ∨ (i = .int .i64 2 ∧ 2 < m) ∨ (i = .int .i64 3 ∧ 4 < m) ∨ (i = .int .i64 4 ∧ 16 < m)) ∧ Below w.heap.size w wr) (fun _ i _ => 5 - (intOf i).toNat)
 case atStart => exact ⟨.inl rfl, Below.refl _ _⟩
 case round =>
  obtain ⟨hrel, hbel⟩ := hrel
  have hs := hbel.size
  rcases hrel with rfl | ⟨rfl, hm1⟩ | ⟨rfl, hm1⟩ | ⟨rfl, hm1⟩ | ⟨rfl, hm1⟩
  · by_cases hle : m ≤ 1
    · go_wp2
      go_ret
      exact ⟨ret_int (by rw [hr.out]; split <;> (try split) <;> (try split) <;> (try split) <;> omega), hbel.alloc hs _⟩
    · go_wp2
      go_roundw
      case rel => exact ⟨by simp; omega, hbel.alloc hs _⟩
      case measure => simp [intOf]
  · by_cases hle : m ≤ 2
    · go_wp2
      go_ret
      exact ⟨ret_int (by rw [hr.out]; split <;> (try split) <;> (try split) <;> (try split) <;> omega), hbel.alloc hs _⟩
    · go_wp2
      go_roundw
      case rel => exact ⟨by simp; omega, hbel.alloc hs _⟩
      case measure => simp [intOf]
  · by_cases hle : m ≤ 4
    · go_wp2
      go_ret
      exact ⟨ret_int (by rw [hr.out]; split <;> (try split) <;> (try split) <;> (try split) <;> omega), hbel.alloc hs _⟩
    · go_wp2
      go_roundw
      case rel => exact ⟨by simp; omega, hbel.alloc hs _⟩
      case measure => simp [intOf]
  · by_cases hle : m ≤ 16
    · go_wp2
      go_ret
      exact ⟨ret_int (by rw [hr.out]; split <;> (try split) <;> (try split) <;> (try split) <;> omega), hbel.alloc hs _⟩
    · go_wp2
      go_roundw
      case rel => exact ⟨by simp; omega, hbel.alloc hs _⟩
      case measure => simp [intOf]
  · by_cases hle : m ≤ 64
    · go_wp2
      go_ret
      exact ⟨ret_int (by rw [hr.out]; split <;> (try split) <;> (try split) <;> (try split) <;> omega), hbel.alloc hs _⟩
    · omega
end Go.Proofs.YtabclecmehdeoaaGreatDoor.PalE
end
