import Derived.Test.YtabclecmehdeoaaGreatGRfr
import Derived.Test.YtabclecmehdeoaaGreatGDsn
import Derived.Test.YtabclecmehdeoaaGreatGGen
import Derived.Test.YtabclecmehdeoaaGreatGAdd
section
/- For OctreeMatchesSpec: slices of edits, few, Set with any limit, what the loop holds. -/
namespace Go.Proofs.YtabclecmehdeoaaGreat
open Go.RowKit Go.Sort Go.Maps
open Oct

/-- a cell to be set -/
structure Ed where
  x : Int
  y : Int
  z : Int
  c : Int
/-- the slice that begins at a reads as these edits -/
def SlE (w : World) (a : Option Addr) (es : List Ed) : Prop := ∀ (i : Nat) (ed : Ed), es[i]? = some ed → ∃ b off, a = some ⟨b, off, none⟩ ∧ w.cell? ⟨b, off + i * 4, none⟩ = some (.int .i64 ed.x) ∧ w.cell? ⟨b, off + i * 4 + 1, none⟩ = some (.int .i64 ed.y) ∧ w.cell? ⟨b, off + i * 4 + 2, none⟩ = some (.int .i64 ed.z) ∧ w.cell? ⟨b, off + i * 4 + 3, none⟩ = some (.int .i64 ed.c)
theorem SlE.below {w w' : World} {a : Option Addr} {es : List Ed} (h : SlE w a es) (hb : Below w.heap.size w w') : SlE w' a es := by
  intro i x hx
  obtain ⟨b, off, rfl, h0, h1, h2, h3⟩ := h i x hx
  exact ⟨b, off, rfl, cell_later hb h0, cell_later hb h1, cell_later hb h2, cell_later hb h3⟩
theorem few2_yes (a b c d e f : Int) (ha hb : Option Addr) (n hcp m hcq : Nat) (hn : n ≤ 300) (hm : m ≤ 12) (w : World) :
    Calls Tryz.prog 5 #[.agg #[.int .i64 a, .int .i64 b, .int .i64 c, .int .i64 d, .int .i64 e, .int .i64 f, .slice ha n hcp], .slice hb m hcq] w fun e' w' => e' = .returned (.bool true) ∧ Below w.heap.size w w' := by
  have b1 : (n : Int) ≤ 300 := by omega
  have b2 : (m : Int) ≤ 12 := by omega
  go_enter Tryz.func5, Tryz.ntmps5
  go_wp2_with fail
  go_ret
  exact ⟨rfl, (Below.refl _ _).alloc (Nat.le_refl _) _⟩
theorem few2_no (a b c d e f : Int) (ha hb : Option Addr) (n hcp m hcq : Nat) (hn : ¬ (n ≤ 300 ∧ m ≤ 12)) (w : World) :
    Calls Tryz.prog 5 #[.agg #[.int .i64 a, .int .i64 b, .int .i64 c, .int .i64 d, .int .i64 e, .int .i64 f, .slice ha n hcp], .slice hb m hcq] w fun e' w' => e' = .returned (.bool false) ∧ Below w.heap.size w w' := by
  by_cases h : n ≤ 300
  · have b1 : (n : Int) ≤ 300 := by omega
    have b2 : ¬ (m : Int) ≤ 12 := by omega
    clear hn h
    go_enter Tryz.func5, Tryz.ntmps5
    go_wp2_with fail
    go_ret
    exact ⟨rfl, (Below.refl _ _).alloc (Nat.le_refl _) _⟩
  · have b1 : ¬ (n : Int) ≤ 300 := by omega
    clear hn h
    go_enter Tryz.func5, Tryz.ntmps5
    go_wp2_with fail
    go_ret
    exact ⟨rfl, (Below.refl _ _).alloc (Nat.le_refl _) _⟩
/-- Set, where there is room -/
theorem set_fits (w : World) (Far : Nat → Prop) (sb : Nat) (most : Int) (ts : List Tr) (n : Nat) (f : Pt → Int) (hn : n ≤ 12) (hG : Good ts) (hlen : ts.length ≤ 1000000000) (ht : trF n f ∈ ts) (px py pz c : Int) (hok : inB ⟨px, py, pz⟩ (cubeB (2 ^ (n + 2))) = true ∧ 0 ≤ c ∧ c ≤ 255) (hfit : Tr.Fits most ts (Tr.add (trF n (Tr.upd f ⟨px, py, pz⟩ c)) ts)) (hFar : ∀ k, Far k → k < w.heap.size) (hS : StoreIs w Far sb most ts) :
    Calls Tryz.prog 11 #[.pointer (some ⟨sb, 0, none⟩), .int .i64 (idT ts (trF n f) : Int), .int .i64 ((n : Int) + 2), .agg #[.int .i64 px, .int .i64 py, .int .i64 pz], .int .i64 c] w fun e w' => e = ret2 (idT (Tr.add (trF n (Tr.upd f ⟨px, py, pz⟩ c)) ts) (trF n (Tr.upd f ⟨px, py, pz⟩ c)) : Int) 0 ∧ StoreIs w' Far sb most (Tr.add (trF n (Tr.upd f ⟨px, py, pz⟩ c)) ts) ∧ Keeps Far w w' := by
  obtain ⟨hI, hc⟩ := hok
  by_cases hr : f ⟨px, py, pz⟩ = c
  · have key := set_same w sb n hn px py pz c hI (by simpa using hc) Far most ts (trF n f) ht (dep_can f n _) hG (by omega) hS (by rw [get_tr hI, hr])
    rw [upd_same hr, Tr.add_same _ _ ht]
    exact key.mono fun e w' ⟨h1, h2⟩ => ⟨h1, hS.later h2, Keeps.below h2⟩
  · have hl := len_fn hn hI hc hG ht
    have key := set_new w sb n hn px py pz c hI (by simpa using hc) Far most ts (trF n f) ht (dep_can f n _) hG (by omega) hS (by rw [get_tr hI]; exact hr) (by rw [set_tr hI]; omega) hFar
    rw [set_tr hI] at key
    exact key.mono fun e w' hg => hg.fit hfit
/-- Set, where there is no room -/
theorem set_over (w : World) (Far : Nat → Prop) (sb : Nat) (most : Int) (ts : List Tr) (n : Nat) (f : Pt → Int) (hn : n ≤ 12) (hG : Good ts) (hlen : ts.length ≤ 1000000000) (ht : trF n f ∈ ts) (px py pz c : Int) (hok : inB ⟨px, py, pz⟩ (cubeB (2 ^ (n + 2))) = true ∧ 0 ≤ c ∧ c ≤ 255) (hfit : ¬ Tr.Fits most ts (Tr.add (trF n (Tr.upd f ⟨px, py, pz⟩ c)) ts)) (hFar : ∀ k, Far k → k < w.heap.size) (hS : StoreIs w Far sb most ts) :
    Calls Tryz.prog 11 #[.pointer (some ⟨sb, 0, none⟩), .int .i64 (idT ts (trF n f) : Int), .int .i64 ((n : Int) + 2), .agg #[.int .i64 px, .int .i64 py, .int .i64 pz], .int .i64 c] w fun e w' => e = ret2 0 14 ∧ StoreIs w' Far sb most ts ∧ Keeps Far w w' := by
  obtain ⟨hI, hc⟩ := hok
  by_cases hr : f ⟨px, py, pz⟩ = c
  · exact absurd (.inl (by rw [upd_same hr, Tr.add_same _ _ ht])) hfit
  · have hl := len_fn hn hI hc hG ht
    have key := set_new w sb n hn px py pz c hI (by simpa using hc) Far most ts (trF n f) ht (dep_can f n _) hG (by omega) hS (by rw [get_tr hI]; exact hr) (by rw [set_tr hI]; omega) hFar
    rw [set_tr hI] at key
    exact key.mono fun e w' hg => by
      rcases hg.way with ⟨h1, -⟩ | ⟨-, h2, h3⟩
      · exact absurd h1 hfit
      · exact ⟨h2, h3, hg.keeps⟩
/-- what lies in memory while the cells are set -/
structure MatI (w : World) (Far : Nat → Prop) (sb : Nat) (most : Int) (n : Nat) (F : Pt → Int) (ts us : List Tr) (v : Value) (wr : World) : Prop where
  st : StoreIs wr Far sb most ts
  far : ∀ j, Far j → j < wr.heap.size
  old : ∀ j, j < w.heap.size → Far j
  bel : Below w.heap.size w wr
  good : Good ts
  mem : trF n F ∈ ts
  fn : FnC n F
  own : Ownv wr w.heap.size 9 v (encs us)
  row : ∀ g, v.ownBlock = some g → Far g
theorem Ownv.far {w w' : World} {Far : Nat → Prop} {B : Nat} {e : TypeId} {v : Value} {vs : List Value} (h : Ownv w B e v vs) (hk : Keeps Far w w') (hf : ∀ g, v.ownBlock = some g → Far g) : Ownv w' B e v vs := by
  refine ⟨h.1, ?_⟩
  rcases h.2 with hn | ⟨g, cap, cur, rfl, hb, hgg, rest⟩
  · exact .inl hn
  · exact .inr ⟨g, cap, cur, rfl, hb, by rw [hk.block g (hf g rfl) (Array.getElem?_eq_some_iff.1 hgg).1]; exact hgg, rest⟩
section
variable {w wr w' : World} {Far : Nat → Prop} {sb : Nat} {most : Int} {n : Nat} {F F' : Pt → Int} {ts us ts' us' : List Tr} {v v' : Value}
theorem MatI.later (h : MatI w Far sb most n F ts us v wr) (hb : Below wr.heap.size wr w') : MatI w Far sb most n F ts us v w' :=
  ⟨h.st.later hb, fun j hj => Nat.lt_of_lt_of_le (h.far j hj) hb.size, h.old, h.bel.trans (hb.mono h.bel.size), h.good, h.mem, h.fn, h.own.below hb, h.row⟩
theorem MatI.made (h : MatI w Far sb most n F ts us v wr) (hk : Keeps Far wr w') (hs : StoreIs w' Far sb most ts') (hg : Good ts') (hm : trF n F' ∈ ts') (hf : FnC n F') : MatI w Far sb most n F' ts' us v w' :=
  ⟨hs, fun j hj => Nat.lt_of_lt_of_le (h.far j hj) hk.size, h.old, below_of_keeps h.bel hk h.old, hg, hm, hf, h.own.far hk h.row, h.row⟩
/-- the texts' list has grown -/
theorem MatI.push {k : Nat} (h : MatI w Far sb most n F ts us v wr) (ha : Added wr w' v v' k) (hown : Ownv w' w.heap.size 9 v' (encs us')) : MatI w (fun j => Far j ∨ v'.ownBlock = some j) sb most n F ts us' v' w' := by
  have hg := ha.grown
  have hst : StoreIs w' (fun j => Far j ∨ v'.ownBlock = some j) sb most ts := by
    have h1 : StoreIs wr (fun j => Far j ∨ v'.ownBlock = some j) sb most ts := h.st.widen fun k hk => by
      rcases hk with hk | hk
      · exact .inl hk
      · rcases ha.where_ with e | e
        · rw [e] at hk; exact .inl (h.row k hk)
        · exact .inr (e k hk)
    cases hvo : v.ownBlock with
    | none =>
      rw [hvo] at hg
      exact h1.later ⟨hg.os, hg.tape, hg.output, hg.size, fun i hi => hg.block i hi (by simp)⟩
    | some g => rw [hvo] at hg; exact h1.apart hg (.inl (h.row g hvo))
  refine ⟨hst, fun j hj => ?_, fun j hj => .inl (h.old j hj), ?_, h.good, h.mem, h.fn, hown, fun g hg => .inr hg⟩
  · rcases hj with hj | hj
    · exact Nat.lt_of_lt_of_le (h.far j hj) hg.size
    · exact (hown.lt j hj).2
  · exact h.bel.grown hg h.bel.size (fun g e => (h.own.lt g e).1)
/-- it has grown, and is left -/
theorem MatI.drop {k : Nat} (h : MatI w Far sb most n F ts us v wr) (ha : Added wr w' v v' k) (hk : us.length ≤ k) : MatI w Far sb most n F ts us v w' := by
  have hg := ha.grown
  have hst : StoreIs w' Far sb most ts := by
    cases hvo : v.ownBlock with
    | none =>
      rw [hvo] at hg
      exact h.st.later ⟨hg.os, hg.tape, hg.output, hg.size, fun i hi => hg.block i hi (by simp)⟩
    | some g => rw [hvo] at hg; exact h.st.apart hg (h.row g hvo)
  exact ⟨hst, fun j hj => Nat.lt_of_lt_of_le (h.far j hj) hg.size, h.old, h.bel.grown hg h.bel.size (fun g e => (h.own.lt g e).1), h.good, h.mem, h.fn, h.own.keep ha (by rw [encs_len]; exact hk), h.row⟩
end
theorem good_wf {ts : List Tr} (hG : Good ts) : ∀ x ∈ ts, Tr.WF x := fun x hx => wf_of_good hG x hx
/-- a list that does not fit has grown -/
theorem over_len {most : Int} {ts ts' : List Tr} (hp : ts <+: ts') (h : ¬ Tr.Fits most ts ts') : ts.length < ts'.length ∧ most < (ts'.length : Int) := by
  refine ⟨?_, Int.not_le.1 fun h1 => h (.inr h1)⟩
  have := hp.length_le
  rcases Nat.lt_or_ge ts.length ts'.length with h1 | h1
  · exact h1
  · exact absurd (.inl (hp.eq_of_length (by omega)).symm) h
theorem fits_len {most : Int} {ts ts' : List Tr} (h : Tr.Fits most ts ts') (hl : ts.length < ts'.length) : ¬ most < (ts'.length : Int) := by
  rcases h with rfl | h
  · omega
  · omega
end Go.Proofs.YtabclecmehdeoaaGreat
end
section
/- The contracts of OctreeMatchesSpec's calls, in terms of functions on a cube. -/
namespace Go.Proofs.YtabclecmehdeoaaGreat
open Go.RowKit Go.Sort Go.Maps
open Oct

/-- the text of the tree of a function -/
noncomputable def txt (n : Nat) (F : Pt → Int) : ByteArray := strOfNums (Tr.enc (trF n F))
/-- its id -/
noncomputable def idn (ts : List Tr) (n : Nat) (F : Pt → Int) : Int := (idT ts (trF n F) : Int)
/-- the list with its nodes -/
noncomputable def addn (n : Nat) (F : Pt → Int) (ts : List Tr) : List Tr := Tr.add (trF n F) ts
theorem enc_trF {n : Nat} {F : Pt → Int} (hn : n ≤ 12) (hF : ∀ p, 0 ≤ F p ∧ F p ≤ 255) : (Tr.enc (trF n F)).length ≤ 1000000000000000 := by
  have h := Tr.enc_small n (trF n F) (wf_can hF n _ (by omega)) (small_can F n _)
  have h8 : 8 ^ n ≤ 8 ^ 12 := Nat.pow_le_pow_right (by omega) hn
  omega
theorem m_from_fits (w : World) (sb : Nat) (a b c d e f : Int) (ha : Option Addr) (hcp : Nat) (xs : List Int) (n : Nat) (hn : n ≤ 12) (hsl : Sl w .i64 ha xs) (HX : GoodG ⟨⟨a, b, c⟩, ⟨d, e, f⟩⟩ xs hcp) (hV : validG ⟨⟨a, b, c⟩, ⟨d, e, f⟩⟩ xs = true) (hC : emptyB ⟨⟨a, b, c⟩, ⟨d, e, f⟩⟩ = true ∨ containsB ⟨⟨0, 0, 0⟩, ⟨2 ^ (n + 2), 2 ^ (n + 2), 2 ^ (n + 2)⟩⟩ ⟨⟨a, b, c⟩, ⟨d, e, f⟩⟩ = true)
    (Far : Nat → Prop) (hfx : xs ≠ [] → ∀ b, ha.map (·.block) = some b → Far b) (most : Int) (hFar : ∀ k, Far k → k < w.heap.size) (hS : StoreIs w Far sb most []) (hfit : Tr.Fits most [] (addn n (cellG ⟨⟨a, b, c⟩, ⟨d, e, f⟩⟩ xs) [])) :
    Calls Tryz.prog 7 #[.pointer (some ⟨sb, 0, none⟩), .agg #[.int .i64 a, .int .i64 b, .int .i64 c, .int .i64 d, .int .i64 e, .int .i64 f, .slice ha xs.length hcp], .int .i64 ((n : Int) + 2)] w fun E w' => E = ret2 (idn (addn n (cellG ⟨⟨a, b, c⟩, ⟨d, e, f⟩⟩ xs) []) n (cellG ⟨⟨a, b, c⟩, ⟨d, e, f⟩⟩ xs)) 0 ∧ StoreIs w' Far sb most (addn n (cellG ⟨⟨a, b, c⟩, ⟨d, e, f⟩⟩ xs) []) ∧ Keeps Far w w' :=
  (from_yes w sb a b c d e f ha hcp xs n hn hsl HX hV hC Far hfx most [] good_nil (by simp) hFar hS).mono fun _ _ h => h.fit hfit
theorem m_from_over (w : World) (sb : Nat) (a b c d e f : Int) (ha : Option Addr) (hcp : Nat) (xs : List Int) (n : Nat) (hn : n ≤ 12) (hsl : Sl w .i64 ha xs) (HX : GoodG ⟨⟨a, b, c⟩, ⟨d, e, f⟩⟩ xs hcp) (hV : validG ⟨⟨a, b, c⟩, ⟨d, e, f⟩⟩ xs = true) (hC : emptyB ⟨⟨a, b, c⟩, ⟨d, e, f⟩⟩ = true ∨ containsB ⟨⟨0, 0, 0⟩, ⟨2 ^ (n + 2), 2 ^ (n + 2), 2 ^ (n + 2)⟩⟩ ⟨⟨a, b, c⟩, ⟨d, e, f⟩⟩ = true)
    (Far : Nat → Prop) (hfx : xs ≠ [] → ∀ b, ha.map (·.block) = some b → Far b) (most : Int) (hFar : ∀ k, Far k → k < w.heap.size) (hS : StoreIs w Far sb most []) (hfit : ¬ Tr.Fits most [] (addn n (cellG ⟨⟨a, b, c⟩, ⟨d, e, f⟩⟩ xs) [])) :
    Calls Tryz.prog 7 #[.pointer (some ⟨sb, 0, none⟩), .agg #[.int .i64 a, .int .i64 b, .int .i64 c, .int .i64 d, .int .i64 e, .int .i64 f, .slice ha xs.length hcp], .int .i64 ((n : Int) + 2)] w fun E w' => E = ret2 0 14 ∧ StoreIs w' Far sb most [] ∧ Keeps Far w w' :=
  (from_yes w sb a b c d e f ha hcp xs n hn hsl HX hV hC Far hfx most [] good_nil (by simp) hFar hS).mono fun _ _ h => by
    rcases h.way with ⟨h1, -⟩ | ⟨-, h2, h3⟩
    · exact absurd h1 hfit
    · exact ⟨h2, h3, h.keeps⟩
theorem m_ref_yes (a b c d e f : Int) (ha : Option Addr) (hcp : Nat) (xs : List Int) (hl : xs.length ≤ 300) (n : Nat) (hn : n ≤ 12) (HX : GoodG ⟨⟨a, b, c⟩, ⟨d, e, f⟩⟩ xs hcp) (hE : fromE ⟨⟨a, b, c⟩, ⟨d, e, f⟩⟩ xs ((n : Int) + 2) = 0) (w : World) (hsl : Sl w .i64 ha xs) :
    Calls Tryz.prog 8 #[.agg #[.int .i64 a, .int .i64 b, .int .i64 c, .int .i64 d, .int .i64 e, .int .i64 f, .slice ha xs.length hcp], .int .i64 ((n : Int) + 2)] w fun e' w' => e' = .returned (.tuple #[.string (txt n (cellG ⟨⟨a, b, c⟩, ⟨d, e, f⟩⟩ xs)), .int .i64 0]) ∧ Below w.heap.size w w' :=
  ref9_from_yes a b c d e f ha hcp xs hl n hn HX hE w hsl
theorem m_add (n : Nat) (F : Pt → Int) (hn : n ≤ 12) (hF : ∀ p, 0 ≤ F p ∧ F p ≤ 255) (ts : List Tr) (hG : Good ts) (hl : (addn n F ts).length ≤ 100000000) (w : World) (B : Nat) (v : Value) (hB : B ≤ w.heap.size) (hown : Ownv w B 9 v (encs ts)) :
    Calls Tryz.prog 9 #[v, .string (txt n F)] w fun e w' => ∃ v', e = .returned v' ∧ Ownv w' B 9 v' (encs (addn n F ts)) ∧ Added w w' v v' ts.length :=
  ref9_add (trF n F) (wf_can hF n _ (by omega)) (enc_trF hn hF) ts (good_wf hG) hl w B v hB hown
theorem m_set_fits (w : World) (Far : Nat → Prop) (sb : Nat) (most : Int) (ts : List Tr) (n : Nat) (f : Pt → Int) (hn : n ≤ 12) (hG : Good ts) (hlen : ts.length ≤ 1000000000) (ht : trF n f ∈ ts) (px py pz c : Int) (hok : inB ⟨px, py, pz⟩ (cubeB (2 ^ (n + 2))) = true ∧ 0 ≤ c ∧ c ≤ 255) (hfit : Tr.Fits most ts (addn n (Tr.upd f ⟨px, py, pz⟩ c) ts)) (hFar : ∀ k, Far k → k < w.heap.size) (hS : StoreIs w Far sb most ts) :
    Calls Tryz.prog 11 #[.pointer (some ⟨sb, 0, none⟩), .int .i64 (idn ts n f), .int .i64 ((n : Int) + 2), .agg #[.int .i64 px, .int .i64 py, .int .i64 pz], .int .i64 c] w fun e w' => e = ret2 (idn (addn n (Tr.upd f ⟨px, py, pz⟩ c) ts) n (Tr.upd f ⟨px, py, pz⟩ c)) 0 ∧ StoreIs w' Far sb most (addn n (Tr.upd f ⟨px, py, pz⟩ c) ts) ∧ Keeps Far w w' :=
  set_fits w Far sb most ts n f hn hG hlen ht px py pz c hok hfit hFar hS
theorem m_set_over (w : World) (Far : Nat → Prop) (sb : Nat) (most : Int) (ts : List Tr) (n : Nat) (f : Pt → Int) (hn : n ≤ 12) (hG : Good ts) (hlen : ts.length ≤ 1000000000) (ht : trF n f ∈ ts) (px py pz c : Int) (hok : inB ⟨px, py, pz⟩ (cubeB (2 ^ (n + 2))) = true ∧ 0 ≤ c ∧ c ≤ 255) (hfit : ¬ Tr.Fits most ts (addn n (Tr.upd f ⟨px, py, pz⟩ c) ts)) (hFar : ∀ k, Far k → k < w.heap.size) (hS : StoreIs w Far sb most ts) :
    Calls Tryz.prog 11 #[.pointer (some ⟨sb, 0, none⟩), .int .i64 (idn ts n f), .int .i64 ((n : Int) + 2), .agg #[.int .i64 px, .int .i64 py, .int .i64 pz], .int .i64 c] w fun e w' => e = ret2 0 14 ∧ StoreIs w' Far sb most ts ∧ Keeps Far w w' :=
  set_over w Far sb most ts n f hn hG hlen ht px py pz c hok hfit hFar hS
theorem m_set_no (w : World) (Far : Nat → Prop) (sb : Nat) (most : Int) (ts : List Tr) (n : Nat) (hn : n ≤ 12) (id px py pz c : Int) (h : ¬ (inB ⟨px, py, pz⟩ (cubeB (2 ^ (n + 2))) = true ∧ 0 ≤ c ∧ c ≤ 255)) (hS : StoreIs w Far sb most ts) :
    Calls Tryz.prog 11 #[.pointer (some ⟨sb, 0, none⟩), .int .i64 id, .int .i64 ((n : Int) + 2), .agg #[.int .i64 px, .int .i64 py, .int .i64 pz], .int .i64 c] w fun e w' => e = ret2 0 1 ∧ StoreIs w' Far sb most ts ∧ Keeps Far w w' :=
  (set_no w sb n hn id px py pz c h).mono fun _ _ ⟨h1, h2⟩ => ⟨h1, hS.later h2, Keeps.below h2⟩
theorem m_set9_yes (n : Nat) (hn : n ≤ 12) (f : Pt → Int) (hf : ∀ p, 0 ≤ f p ∧ f p ≤ 255) (px py pz c : Int) (hok : inB ⟨px, py, pz⟩ (cubeB (2 ^ (n + 2))) = true ∧ 0 ≤ c ∧ c ≤ 255) (w : World) :
    Calls Tryz.prog 12 #[.string (txt n f), .int .i64 ((n : Int) + 2), .agg #[.int .i64 px, .int .i64 py, .int .i64 pz], .int .i64 c] w fun e w' => e = .returned (.tuple #[.string (txt n (Tr.upd f ⟨px, py, pz⟩ c)), .int .i64 0]) ∧ Below w.heap.size w w' :=
  Set9_yes n hn f hf px py pz c hok w
theorem m_set9_no (n : Nat) (hn : n ≤ 12) (f : Pt → Int) (px py pz c : Int) (hok : ¬ (inB ⟨px, py, pz⟩ (cubeB (2 ^ (n + 2))) = true ∧ 0 ≤ c ∧ c ≤ 255)) (w : World) :
    Calls Tryz.prog 12 #[.string (txt n f), .int .i64 ((n : Int) + 2), .agg #[.int .i64 px, .int .i64 py, .int .i64 pz], .int .i64 c] w fun e w' => e = .returned (.tuple #[.string ByteArray.empty, .int .i64 1]) ∧ Below w.heap.size w w' :=
  Set9_no n hn f px py pz c hok w
theorem m_desc (Far : Nat → Prop) (sb : Nat) (most : Int) (ts : List Tr) (n : Nat) (f : Pt → Int) (hn : n ≤ 12) (hf : ∀ p, 0 ≤ f p ∧ f p ≤ 255) (hG : Good ts) (hlen : ts.length ≤ 4194304) (ht : trF n f ∈ ts) (w : World) (hS : StoreIs w Far sb most ts) :
    Calls Tryz.prog 13 #[.pointer (some ⟨sb, 0, none⟩), .int .i64 (idn ts n f), .string (txt n f)] w fun e w' => e = .returned (.bool true) ∧ Below w.heap.size w w' :=
  describes_any Far sb most ts hG hlen (trF n f) (wf_can hf n _ (by omega)) (enc_trF hn hf) ht w hS
theorem addn_good {n : Nat} {F : Pt → Int} {ts : List Tr} (hn : n ≤ 12) (hF : FnC n F) (hG : Good ts) : Good (addn n F ts) := good_fn hn hF hG
theorem addn_mem (n : Nat) (F : Pt → Int) (ts : List Tr) : trF n F ∈ addn n F ts := Tr.mem_add _ _
theorem addn_pre (n : Nat) (F : Pt → Int) (ts : List Tr) : ts <+: addn n F ts := Tr.add_prefix _ _
theorem addn_len {n : Nat} {F : Pt → Int} {ts : List Tr} (hn : n ≤ 12) {p : Pt} (hI : inB p (cubeB (2 ^ (n + 2))) = true) {c : Int} (hc : 0 ≤ c ∧ c ≤ 255) (hG : Good ts) (ht : trF n F ∈ ts) : (addn n (Tr.upd F p c) ts).length ≤ ts.length + 13 := len_fn hn hI hc hG ht
theorem addn_few {b : Box} {xs : List Int} {hcp n : Nat} (HX : GoodG b xs hcp) (hn : n ≤ 12) : (addn n (cellG b xs) []).length ≤ 3901 := by
  have := can_few HX hn good_nil
  rwa [List.length_nil, Nat.zero_add] at this
end Go.Proofs.YtabclecmehdeoaaGreat
end
