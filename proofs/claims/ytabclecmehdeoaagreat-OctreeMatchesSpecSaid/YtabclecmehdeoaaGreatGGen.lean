import Derived.Test.YtabclecmehdeoaaGreatGRef
import Derived.ProofKit
import Derived.OpenShut
import Derived.ChangeArms
import Derived.ChangeSlices
import Derived.WideShapes
import Derived.Deep.Strs
section
/- How many nodes the tree of a grid has. No program. -/
namespace Go.Proofs.YtabclecmehdeoaaGreat
open Oct

open Classical in
/-- how many points of a list lie in a cube -/
noncomputable def cn (L : List Pt) (n : Nat) (a : Pt) : Nat := (L.filter fun p => decide (Tr.InC n a p)).length
open Classical in
theorem cn_cons (p : Pt) (L : List Pt) (n : Nat) (a : Pt) : cn (p :: L) n a = (if Tr.InC n a p then 1 else 0) + cn L n a := by
  unfold cn
  rw [List.filter_cons]
  by_cases h : Tr.InC n a p
  · simp [h]; omega
  · simp [h]
theorem one_of (k : Fin 8) : (List.ofFn fun i : Fin 8 => if i = k then (1 : Nat) else 0).sum = 1 := by revert k; decide
theorem sum_le8 {f g : Fin 8 → Nat} (h : ∀ i, f i ≤ g i) : (List.ofFn f).sum ≤ (List.ofFn g).sum := by
  have h0 := h 0
  have h1 := h 1
  have h2 := h 2
  have h3 := h 3
  have h4 := h 4
  have h5 := h 5
  have h6 := h 6
  have h7 := h 7
  simp only [List.ofFn_succ, List.ofFn_zero, List.sum_cons, List.sum_nil]
  simp only [Fin.reduceSucc, Fin.isValue] at *
  omega
theorem sum_add8 (f g : Fin 8 → Nat) : (List.ofFn fun i => f i + g i).sum = (List.ofFn f).sum + (List.ofFn g).sum := by
  simp only [List.ofFn_succ, List.ofFn_zero, List.sum_cons, List.sum_nil]
  omega
theorem sum_zero8 : (List.ofFn fun _ : Fin 8 => (0 : Nat)).sum = 0 := by decide
theorem cn_kids (n : Nat) (a : Pt) (ha : Tr.Al (n + 1) a) : ∀ L : List Pt, (List.ofFn fun i : Fin 8 => cn L n (Tr.cor a n i.val)).sum ≤ cn L (n + 1) a
  | [] => by
    have : ∀ i : Fin 8, cn [] n (Tr.cor a n i.val) = 0 := fun i => by simp [cn]
    simp only [this]
    rw [sum_zero8]; omega
  | p :: L => by
    classical
    have ih := cn_kids n a ha L
    have e : ∀ i : Fin 8, cn (p :: L) n (Tr.cor a n i.val) = (if Tr.InC n (Tr.cor a n i.val) p then 1 else 0) + cn L n (Tr.cor a n i.val) := fun i => cn_cons p L n _
    simp only [e]
    rw [sum_add8, cn_cons]
    have h1 : (List.ofFn fun i : Fin 8 => if Tr.InC n (Tr.cor a n i.val) p then 1 else 0).sum ≤ if Tr.InC (n + 1) a p then 1 else 0 := by
      by_cases h : Tr.InC (n + 1) a p
      · rw [if_pos h]
        have := sum_le8 (f := fun i : Fin 8 => if Tr.InC n (Tr.cor a n i.val) p then 1 else 0) (g := fun i : Fin 8 => if i = Tr.oct n p then 1 else 0) (fun i => by
          by_cases hi : Tr.InC n (Tr.cor a n i.val) p
          · rw [if_pos hi, if_pos (Tr.inC_other ha hi).1]; omega
          · rw [if_neg hi]; omega)
        rw [one_of] at this
        exact this
      · rw [if_neg h]
        have := sum_le8 (f := fun i : Fin 8 => if Tr.InC n (Tr.cor a n i.val) p then 1 else 0) (g := fun _ => 0) (fun i => by
          by_cases hi : Tr.InC n (Tr.cor a n i.val) p
          · exact absurd (Tr.inC_other ha hi).2 h
          · rw [if_neg hi]; omega)
        rw [sum_zero8] at this
        exact this
    omega
theorem cn_le (L : List Pt) (n : Nat) (a : Pt) : cn L n a ≤ L.length := by unfold cn; exact List.length_filter_le _ _
theorem cn_pos {L : List Pt} {n : Nat} {a p : Pt} (h : p ∈ L) (h' : Tr.InC n a p) : 0 < cn L n a := by
  classical
  unfold cn
  exact List.length_pos_of_mem (List.mem_filter.2 ⟨h, by simpa using h'⟩)
open Classical in
/-- the nodes, and the empty one where it is not there yet -/
noncomputable def phi (ts : List Tr) : Nat := ts.length + if Tr.uni 0 ∈ ts then 0 else 1
theorem phi_le (ts : List Tr) : ts.length ≤ phi ts ∧ phi ts ≤ ts.length + 1 := by unfold phi; split <;> omega
theorem phi_ins (t : Tr) (ts : List Tr) : phi (Tr.ins t ts) ≤ phi ts + 1 := by
  by_cases h : t ∈ ts
  · rw [Tr.ins_of_mem h]; omega
  · rw [Tr.ins_of_not h]
    unfold phi
    rw [List.length_append, List.length_singleton]
    by_cases h0 : Tr.uni 0 ∈ ts
    · rw [if_pos h0, if_pos (by simp [h0])]; omega
    · rw [if_neg h0]; split <;> omega
theorem phi_zero (ts : List Tr) : phi (Tr.add (.uni 0) ts) ≤ phi ts := by
  rw [Tr.add_uni]
  by_cases h : Tr.uni 0 ∈ ts
  · rw [Tr.ins_of_mem h]; omega
  · rw [Tr.ins_of_not h]
    unfold phi
    rw [if_neg h, if_pos (by simp), List.length_append, List.length_singleton]; omega
theorem phi_can {f : Pt → Int} (hf : ∀ p, 0 ≤ f p ∧ f p ≤ 255) (L : List Pt) : ∀ (n : Nat) (a : Pt) (ts : List Tr), n ≤ 200 → Tr.Al n a → Good ts → (∀ p, Tr.InC n a p → f p ≠ 0 → p ∈ L) →
    phi (Tr.add (Tr.can f n a) ts) ≤ phi ts + (n + 1) * cn L n a := by
  intro n
  induction n with
  | zero =>
    intro a ts hn ha hG hL
    by_cases hc : cn L 0 a = 0
    · rw [can_zero 0 a f ha (fun p hp => Classical.byContradiction fun h => by have := cn_pos (hL p hp h) hp; omega)]
      have := phi_zero ts; omega
    · have h1 : phi (Tr.add (Tr.can f 0 a) ts) ≤ phi ts + 1 := by
        unfold Tr.can Tr.mkBrick
        split
        · rw [Tr.add_uni]; exact phi_ins _ _
        · rw [Tr.add_brick]; exact phi_ins _ _
      omega
  | succ n ih =>
    intro a ts hn ha hG hL
    by_cases hc : cn L (n + 1) a = 0
    · rw [can_zero (n + 1) a f ha (fun p hp => Classical.byContradiction fun h => by have := cn_pos (hL p hp h) hp; omega)]
      have := phi_zero ts; omega
    · have hW : ∀ i : Fin 8, Tr.WF (Tr.can f n (Tr.cor a n i.val)) := fun i => wf_can hf n _ (by omega)
      have key : ∀ k, k ≤ 8 → phi (Tr.addK (fun i : Fin 8 => Tr.can f n (Tr.cor a n i.val)) k ts) ≤ phi ts + (n + 1) * ((List.ofFn fun i : Fin 8 => cn L n (Tr.cor a n i.val)).take k).sum := by
        intro k
        induction k with
        | zero => intro _; rw [Tr.addK_zero]; simp
        | succ k ihk =>
          intro hk
          rw [Tr.addK_succ _ (by omega)]
          have h2 := ihk (by omega)
          have h1 := ih (Tr.cor a n k) (Tr.addK (fun i : Fin 8 => Tr.can f n (Tr.cor a n i.val)) k ts) (by omega) (Tr.al_cor ha k) (good_addK hG hW k (by omega)) (fun p hp h => hL p (Tr.inC_other ha (i := ⟨k, by omega⟩) hp).2 h)
          rw [List.take_succ_eq_append_getElem (by simpa using (show k < 8 by omega)), List.sum_append]
          simp only [List.getElem_ofFn, List.sum_cons, List.sum_nil, Nat.add_zero]
          rw [Nat.mul_add]
          omega
      have h8 := key 8 (Nat.le_refl _)
      rw [List.take_of_length_le (by simp)] at h8
      have hk := Nat.mul_le_mul_left (n + 1) (cn_kids n a ha L)
      have hin : phi (Tr.add (Tr.can f (n + 1) a) ts) ≤ phi (Tr.addK (fun i : Fin 8 => Tr.can f n (Tr.cor a n i.val)) 8 ts) + 1 := by
        show phi (Tr.add (Tr.mkInner (n + 3) fun i => Tr.can f n (Tr.cor a n i.val)) ts) ≤ _
        rw [Tr.inner_add hG.closed]
        split
        · omega
        · exact phi_ins _ _
      have e : (n + 1 + 1) * cn L (n + 1) a = (n + 1) * cn L (n + 1) a + cn L (n + 1) a := Nat.succ_mul _ _
      omega
/-- the points of a box -/
def ptsB (b : Box) : List Pt := (List.range (volB b).toNat).map fun i : Nat => atB b (i : Int)
theorem mem_pts {b : Box} {p : Pt} (h : inB p b = true) : p ∈ ptsB b := by
  have hi := indexB_bd h
  refine List.mem_map.2 ⟨(indexB b p).toNat, List.mem_range.2 (by omega), ?_⟩
  rw [Int.toNat_of_nonneg hi.1, at_index h]
/-- **A grid of at most 300 cells makes few nodes.** -/
theorem can_few {b : Box} {xs : List Int} {hcp n : Nat} (HX : GoodG b xs hcp) (hn : n ≤ 12) {ts : List Tr} (hG : Good ts) : (Tr.add (Tr.can (cellG b xs) n ⟨0, 0, 0⟩) ts).length ≤ ts.length + 3901 := by
  have h1 := phi_can HX.range (ptsB b) n ⟨0, 0, 0⟩ ts (by omega) (al_zero n) hG (fun p _ h => mem_pts (by
    cases hp : inB p b with
    | true => rfl
    | false => exact absurd (by unfold cellG; rw [if_neg (by simp [hp])]) h))
  have h2 := cn_le (ptsB b) n ⟨0, 0, 0⟩
  have h3 : (ptsB b).length ≤ 300 := by
    unfold ptsB
    rw [List.length_map, List.length_range, ← HX.len]; exact HX.le
  have h4 := (phi_le (Tr.add (Tr.can (cellG b xs) n ⟨0, 0, 0⟩) ts)).1
  have h5 := (phi_le ts).2
  have h6 : (n + 1) * cn (ptsB b) n ⟨0, 0, 0⟩ ≤ 13 * 300 := Nat.mul_le_mul (by omega) (by omega)
  omega
end Go.Proofs.YtabclecmehdeoaaGreat
end
section
/- built, by the program. -/
namespace Go.Proofs.YtabclecmehdeoaaGreat
open Go.RowKit Go.Sort Go.Maps
open Oct

theorem good_nil : Good [] := ⟨Tr.Closed.nil, fun t h => by cases h⟩
end Go.Proofs.YtabclecmehdeoaaGreat
end
section
/- Get and Set, on the tree of a function. -/
namespace Go.Proofs.YtabclecmehdeoaaGreat
open Go.RowKit
open Oct

/-- a function on a cube's points -/
structure FnC (n : Nat) (f : Pt → Int) : Prop where
  range : ∀ p, 0 ≤ f p ∧ f p ≤ 255
  out : ∀ p, inB p (cubeB (2 ^ (n + 2))) = false → f p = 0
/-- the tree of a function on the cube at the origin -/
noncomputable abbrev trF (n : Nat) (f : Pt → Int) : Tr := Tr.can f n ⟨0, 0, 0⟩
theorem inC_of_in {n : Nat} {p : Pt} (h : inB p (cubeB (2 ^ (n + 2))) = true) : Tr.InC n ⟨0, 0, 0⟩ p := by
  have hl := inB_iff.1 h
  simp only [cubeB, Pt.zero] at hl
  unfold Tr.InC
  simp only [Int.zero_ediv]
  refine ⟨Int.ediv_eq_zero_of_lt (by omega) (by omega), Int.ediv_eq_zero_of_lt (by omega) (by omega), Int.ediv_eq_zero_of_lt (by omega) (by omega)⟩
theorem in_of_inC {n : Nat} {p : Pt} (h : Tr.InC n ⟨0, 0, 0⟩ p) : inB p (cubeB (2 ^ (n + 2))) = true := by
  have := inC_cube (m := 2 ^ (n + 2)) rfl (al_zero n) h
  simpa [cubeB, Pt.zero] using this
theorem FnC.upd {n : Nat} {f : Pt → Int} (h : FnC n f) {p : Pt} (hI : inB p (cubeB (2 ^ (n + 2))) = true) {c : Int} (hc : 0 ≤ c ∧ c ≤ 255) : FnC n (Tr.upd f p c) := by
  refine ⟨fun q => ?_, fun q hq => ?_⟩
  · unfold Tr.upd; split
    · exact hc
    · exact h.range q
  · unfold Tr.upd; split
    · rename_i e; rw [e, hI] at hq; cases hq
    · exact h.out q hq
theorem fnC_eq {n : Nat} {f g : Pt → Int} (hf : FnC n f) (hg : FnC n g) : trF n f = trF n g ↔ f = g := by
  rw [trF, trF, Tr.can_iff n _ (al_zero n)]
  refine ⟨fun h => funext fun p => ?_, fun h p _ => by rw [h]⟩
  cases hI : inB p (cubeB (2 ^ (n + 2))) with
  | true => exact h p (inC_of_in hI)
  | false => rw [hf.out p hI, hg.out p hI]
theorem grid_fn {b : Box} {xs : List Int} {hcp n : Nat} (HX : GoodG b xs hcp) (hC : emptyB b = true ∨ containsB ⟨⟨0, 0, 0⟩, ⟨2 ^ (n + 2), 2 ^ (n + 2), 2 ^ (n + 2)⟩⟩ b = true) : FnC n (cellG b xs) := by
  refine ⟨HX.range, fun p hp => ?_⟩
  cases hb : inB p b with
  | false => unfold cellG; rw [if_neg (by simp [hb])]
  | true =>
    exfalso
    have h1 := inB_iff.1 hb
    rcases hC with hC | hC
    · have := emptyB_iff'.1 hC
      omega
    · unfold containsB at hC
      rw [Bool.or_eq_true] at hC
      rcases hC with hC | hC
      · have := emptyB_iff'.1 hC
        omega
      · have h2 : inB p (meetB ⟨⟨0, 0, 0⟩, ⟨2 ^ (n + 2), 2 ^ (n + 2), 2 ^ (n + 2)⟩⟩ b) = true := by rw [of_decide_eq_true hC]; exact hb
        have h3 : inB p (cubeB (2 ^ (n + 2))) = true := inB_iff.2 (by
          unfold meetB at h2
          split at h2
          · have := inB_iff.1 h2
            simp only [Box.zero, Pt.zero] at this
            omega
          · have := inB_iff.1 h2
            simp only [joinB] at this
            simp only [cubeB, Pt.zero]
            omega)
        rw [hp] at h3; cases h3
theorem set_tr {n : Nat} {f : Pt → Int} {p : Pt} (hI : inB p (cubeB (2 ^ (n + 2))) = true) (c : Int) : Tr.setT n (trF n f) p c = trF n (Tr.upd f p c) := Tr.set_can f c n _ p (al_zero n) (inC_of_in hI)
theorem get_tr {n : Nat} {f : Pt → Int} {p : Pt} (hI : inB p (cubeB (2 ^ (n + 2))) = true) : Tr.getT (trF n f) n p = f p := Tr.get_can f n _ p (al_zero n) (inC_of_in hI)
theorem upd_same {f : Pt → Int} {p : Pt} {c : Int} (h : f p = c) : Tr.upd f p c = f := by
  funext q
  unfold Tr.upd
  split
  · rename_i e; rw [e, h]
  · rfl
theorem upd_back (f : Pt → Int) (p : Pt) (c : Int) : Tr.upd (Tr.upd f p c) p (f p) = f := by
  funext q
  unfold Tr.upd
  split
  · rename_i e; rw [e]
  · rfl
theorem upd_at (f : Pt → Int) (p : Pt) (c : Int) : Tr.upd f p c p = c := if_pos rfl
theorem upd_off {f : Pt → Int} {p q : Pt} {c : Int} (h : q ≠ p) : Tr.upd f p c q = f q := if_neg h
theorem good_fn {n : Nat} {f : Pt → Int} (hn : n ≤ 12) (hF : FnC n f) {ts : List Tr} (hG : Good ts) : Good (Tr.add (trF n f) ts) := good_add _ hG (wf_can hF.range n _ (by omega))
theorem len_fn {n : Nat} {f : Pt → Int} (hn : n ≤ 12) {p : Pt} (hI : inB p (cubeB (2 ^ (n + 2))) = true) {c : Int} (hc : 0 ≤ c ∧ c ≤ 255) {ts : List Tr} (hG : Good ts) (ht : trF n f ∈ ts) : (Tr.add (trF n (Tr.upd f p c)) ts).length ≤ ts.length + 13 := by
  have := set_len hc p n (trF n f) ts (by omega) hG ht (dep_can f n _)
  rw [set_tr hI] at this
  omega
theorem get_fn (w : World) (Far : Nat → Prop) (sb : Nat) (most : Int) (ts : List Tr) (n : Nat) (f : Pt → Int) (hn : n ≤ 12) (hF : FnC n f) (hG : Good ts) (hlen : ts.length ≤ 1000000000000) (ht : trF n f ∈ ts) (px py pz : Int) (hS : StoreIs w Far sb most ts) :
    Calls Tryz.prog 22 #[.pointer (some ⟨sb, 0, none⟩), .int .i64 (idT ts (trF n f) : Int), .int .i64 ((n : Int) + 2), .agg #[.int .i64 px, .int .i64 py, .int .i64 pz]] w fun e w' => e = .returned (.int .i64 (f ⟨px, py, pz⟩)) ∧ Below w.heap.size w w' := by
  cases hI : inB ⟨px, py, pz⟩ (cubeB (2 ^ (n + 2))) with
  | false =>
    rw [hF.out _ hI]
    have := get_out w sb (idT ts (trF n f) : Int) (n + 2) (by omega) px py pz hI
    rwa [show ((n + 2 : Nat) : Int) = (n : Int) + 2 by omega] at this
  | true =>
    have := get_in w Far sb most ts (trF n f) ht n hn (dep_can f n _) hG hlen px py pz hI hS
    rwa [get_tr hI] at this
theorem set_fn (w : World) (Far : Nat → Prop) (sb : Nat) (most : Int) (ts : List Tr) (n : Nat) (f : Pt → Int) (hn : n ≤ 12) (_hF : FnC n f) (hG : Good ts) (hlen : ts.length ≤ 1000000000) (ht : trF n f ∈ ts) (px py pz c : Int) (hI : inB ⟨px, py, pz⟩ (cubeB (2 ^ (n + 2))) = true) (hc : 0 ≤ c ∧ c ≤ 255) (hfit : (ts.length : Int) + 13 ≤ most) (hFar : ∀ k, Far k → k < w.heap.size) (hS : StoreIs w Far sb most ts) :
    Calls Tryz.prog 11 #[.pointer (some ⟨sb, 0, none⟩), .int .i64 (idT ts (trF n f) : Int), .int .i64 ((n : Int) + 2), .agg #[.int .i64 px, .int .i64 py, .int .i64 pz], .int .i64 c] w fun e w' => e = ret2 (idT (Tr.add (trF n (Tr.upd f ⟨px, py, pz⟩ c)) ts) (trF n (Tr.upd f ⟨px, py, pz⟩ c)) : Int) 0 ∧ StoreIs w' Far sb most (Tr.add (trF n (Tr.upd f ⟨px, py, pz⟩ c)) ts) ∧ Keeps Far w w' := by
  by_cases hr : f ⟨px, py, pz⟩ = c
  · have key := set_same w sb n hn px py pz c hI (by simpa using hc) Far most ts (trF n f) ht (dep_can f n _) hG (by omega) hS (by rw [get_tr hI, hr])
    rw [upd_same hr, Tr.add_same _ _ ht]
    exact key.mono fun e w' ⟨h1, h2⟩ => ⟨h1, hS.later h2, Keeps.below h2⟩
  · have hl := len_fn hn hI hc hG ht
    have key := set_new w sb n hn px py pz c hI (by simpa using hc) Far most ts (trF n f) ht (dep_can f n _) hG (by omega) hS (by rw [get_tr hI]; exact hr) (by rw [set_tr hI]; omega) hFar
    rw [set_tr hI] at key
    exact key.mono fun e w' hg => hg.fit (.inr (by omega))
theorem set_no (w : World) (sb n : Nat) (hn : n ≤ 12) (id px py pz c : Int) (h : ¬ (inB ⟨px, py, pz⟩ (cubeB (2 ^ (n + 2))) = true ∧ 0 ≤ c ∧ c ≤ 255)) :
    Calls Tryz.prog 11 #[.pointer (some ⟨sb, 0, none⟩), .int .i64 id, .int .i64 ((n : Int) + 2), .agg #[.int .i64 px, .int .i64 py, .int .i64 pz], .int .i64 c] w fun e w' => e = ret2 0 1 ∧ Below w.heap.size w w' := by
  cases hI : inB ⟨px, py, pz⟩ (cubeB (2 ^ (n + 2))) with
  | false => exact set_out w sb n hn id px py pz c hI
  | true => exact set_bad w sb n hn id px py pz c hI (by
      rw [hI] at h
      simpa using h)
theorem id_eq {ts ts' : List Tr} (hp : ts <+: ts') {t t' : Tr} (h : t ∈ ts) (h' : t' ∈ ts') : (idT ts' t' : Int) = idT ts t ↔ t' = t := by
  rw [← idT_prefix hp h]
  refine ⟨fun e => idT_inj h' (hp.subset h) (by omega), fun e => by rw [e]⟩
end Go.Proofs.YtabclecmehdeoaaGreat
end
section
/- Points, boxes and grids that come in. -/
namespace Go.Proofs.YtabclecmehdeoaaGreat
open Go.RowKit Go.ChangeShapes Go.WideShapes
open Oct

theorem wf_u16 {n : Int} (h : (Lit.int .u16 n).wf = true) : 0 ≤ n ∧ n < 65536 := by
  simp [Lit.wf, IntKind.min, IntKind.max, IntKind.bits, IntKind.signed] at h
  omega
theorem wf_u8 {n : Int} (h : (Lit.int .u8 n).wf = true) : 0 ≤ n ∧ n < 256 := by
  simp [Lit.wf, IntKind.min, IntKind.max, IntKind.bits, IntKind.signed] at h
  omega
theorem cellsPt : Tryz.prog.cellsOf 23 = 3 := by kernel_rfl
theorem cellsBox : Tryz.prog.cellsOf 25 = 6 := by kernel_rfl
theorem cellsGrid : Tryz.prog.cellsOf 28 = 7 := by kernel_rfl
theorem cellsIntT : Tryz.prog.cellsOf 3 = 1 := by kernel_rfl
theorem cellsInts : Tryz.prog.cellsOf 26 = 1 := by kernel_rfl
theorem row_sl {k : IntKind} {w : World} {a : Option Addr} {len cap : Nat} {zs : List Int}
    (h : (a = none ∧ len = 0 ∧ cap = 0 ∧ zs = []) ∨ ∃ x, a = some x ∧ len ≤ cap ∧ cap ≤ maxLen ∧ zs.length = cap ∧ (∀ i, i < zs.length → w.cell? (x.add i) = some (.int k (zs.getD i 0))) ∧ ∀ n ∈ zs, (Lit.int k n).wf = true) :
    ∃ xs : List Int, len = xs.length ∧ Sl w k a xs := by
  rcases h with ⟨rfl, rfl, rfl, rfl⟩ | ⟨x, rfl, hl, hm, hz, hc, hw⟩
  · exact ⟨[], rfl, Sl.nil _ _ _⟩
  · refine ⟨zs.take len, by simp; omega, fun i y hy => ?_⟩
    rw [List.getElem?_take] at hy
    split at hy
    · rename_i hi
      have h1 := hc i (by omega)
      have h2 : w.cell? (x.add i) = some (.int k y) := by rw [h1]; simp [List.getD, hy]
      obtain ⟨b, off, spot⟩ := x
      have hspot : spot = none := by
        have h0 := hc 0 (by omega)
        simpa [Addr.add] using World.cell?_spot h0
      subst hspot
      refine ⟨b, off, rfl, ?_⟩
      have : (⟨b, off, none⟩ : Addr).add i = ⟨b, off + i, none⟩ := by unfold Addr.add; split <;> simp_all
      rwa [this] at h2
    · cases hy
section
variable {H : Type} {enc : TypeId × Value → H} {w : World} {base : Nat} {spare : Nat → Bool} {held : Bool} {fuel : Nat} {x : DataW H × List MemPlace}
theorem trod_int1 {v : Value} (h : DataW.trod enc Tryz.prog w base spare held fuel 3 [v] = some x) : ∃ n : Int, v = .int .i64 n ∧ (Lit.int .i64 n).wf = true := by
  obtain ⟨n, h1, _, h2⟩ := DataW.trod_int Tryz.underlying3 h
  simp only [List.cons.injEq, and_true] at h1
  exact ⟨n, h1, h2⟩
theorem trod_pt {c0 c1 c2 : Value} (h : DataW.trod enc Tryz.prog w base spare held fuel 23 [c0, c1, c2] = some x) :
    ∃ a b c : Int, c0 = .int .i64 a ∧ c1 = .int .i64 b ∧ c2 = .int .i64 c := by
  obtain ⟨y0, y1, y2, n, _, _, h0, h1, h2⟩ := Go.Deep.trod_struct3 Tryz.underlying23 h
  have h0 : DataW.trod enc Tryz.prog w base spare held n 3 [c0] = some y0 := by simpa [cellsIntT] using h0
  have h1 : DataW.trod enc Tryz.prog w base spare held n 3 [c1] = some y1 := by simpa [cellsIntT] using h1
  have h2 : DataW.trod enc Tryz.prog w base spare held n 3 [c2] = some y2 := by simpa [cellsIntT] using h2
  obtain ⟨a, e0, _⟩ := trod_int1 h0
  obtain ⟨b, e1, _⟩ := trod_int1 h1
  obtain ⟨c, e2, _⟩ := trod_int1 h2
  exact ⟨a, b, c, e0, e1, e2⟩
theorem trod_box {c0 c1 c2 c3 c4 c5 : Value} (h : DataW.trod enc Tryz.prog w base spare held fuel 25 [c0, c1, c2, c3, c4, c5] = some x) :
    ∃ a b c d e f : Int, c0 = .int .i64 a ∧ c1 = .int .i64 b ∧ c2 = .int .i64 c ∧ c3 = .int .i64 d ∧ c4 = .int .i64 e ∧ c5 = .int .i64 f := by
  obtain ⟨y0, y1, n, _, _, h0, h1⟩ := trod_struct2 Tryz.underlying25 h
  have h0 : DataW.trod enc Tryz.prog w base spare held n 23 [c0, c1, c2] = some y0 := by simpa [cellsPt] using h0
  have h1 : DataW.trod enc Tryz.prog w base spare held n 23 [c3, c4, c5] = some y1 := by simpa [cellsPt] using h1
  obtain ⟨a, b, c, e0, e1, e2⟩ := trod_pt h0
  obtain ⟨d, e, f, e3, e4, e5⟩ := trod_pt h1
  exact ⟨a, b, c, d, e, f, e0, e1, e2, e3, e4, e5⟩
theorem trod_ints {v : Value} (h : DataW.trod enc Tryz.prog w base (fun _ => true) held fuel 26 [v] = some x) :
    ∃ ha hcp, ∃ xs : List Int, v = .slice ha xs.length hcp ∧ Sl w .i64 ha xs ∧ xs.length ≤ hcp := by
  rcases open_ints Tryz.underlying26 Tryz.underlying3 cellsIntT h with ⟨h1, _⟩ | ⟨a, len, cap, zs, h1, _, hl, hm, hz, _, hc, hw⟩
  · simp only [List.cons.injEq, and_true] at h1
    exact ⟨none, 0, [], h1, Sl.nil _ _ _, by simp⟩
  · simp only [List.cons.injEq, and_true] at h1
    simp only [if_true] at hz
    obtain ⟨xs, e, hs⟩ := row_sl (k := .i64) (w := w) (a := some a) (len := len) (cap := cap) (zs := zs) (Or.inr ⟨a, rfl, hl, hm, hz, hc, hw⟩)
    exact ⟨some a, cap, xs, by rw [h1, e], hs, by omega⟩
theorem cellsEdit : Tryz.prog.cellsOf 44 = 4 := by kernel_rfl
theorem trod_edit {c0 c1 c2 c3 : Value} (h : DataW.trod enc Tryz.prog w base spare held fuel 44 [c0, c1, c2, c3] = some x) :
    ∃ a b c d : Int, c0 = .int .i64 a ∧ c1 = .int .i64 b ∧ c2 = .int .i64 c ∧ c3 = .int .i64 d := by
  obtain ⟨y0, y1, n, _, _, h0, h1⟩ := trod_struct2 Tryz.underlying44 h
  have h0 : DataW.trod enc Tryz.prog w base spare held n 23 [c0, c1, c2] = some y0 := by simpa [cellsPt] using h0
  have h1 : DataW.trod enc Tryz.prog w base spare held n 3 [c3] = some y1 := by simpa [cellsIntT] using h1
  obtain ⟨a, b, c, e0, e1, e2⟩ := trod_pt h0
  obtain ⟨d, e3, _⟩ := trod_int1 h1
  exact ⟨a, b, c, d, e0, e1, e2, e3⟩
theorem list4 {α : Type} {l : List α} (h : l.length = 4) : ∃ a b c d, l = [a, b, c, d] := by
  match l, h with
  | [a, b, c, d], _ => exact ⟨a, b, c, d, rfl⟩
theorem list7 {α : Type} {l : List α} (h : l.length = 7) : ∃ a b c d e f g, l = [a, b, c, d, e, f, g] := by
  match l, h with
  | [a, b, c, d, e, f, g], _ => exact ⟨a, b, c, d, e, f, g, rfl⟩
theorem list3 {α : Type} {l : List α} (h : l.length = 3) : ∃ a b c, l = [a, b, c] := by
  match l, h with
  | [a, b, c], _ => exact ⟨a, b, c, rfl⟩
set_option maxRecDepth 100000 in
theorem open_grid {r : Reach} {b0 : Nat} {v : Value} {d : DataW H} {p : List MemPlace} (hv : Value.okWide Tryz.prog w r b0 28 v) (h : DataW.Trod enc Tryz.prog w base (fun _ => true) held 28 v d p) :
    ∃ (a b c d e f : Int) (ha : Option Addr) (hcp : Nat) (xs : List Int), v = .agg #[.int .i64 a, .int .i64 b, .int .i64 c, .int .i64 d, .int .i64 e, .int .i64 f, .slice ha xs.length hcp] ∧ Sl w .i64 ha xs ∧ xs.length ≤ hcp := by
  obtain ⟨cs, rfl, hsz⟩ := okWide_struct Tryz.underlying28 hv
  obtain ⟨l⟩ := cs
  have hl : l.length = 7 := by rw [cellsGrid] at hsz; exact hsz
  obtain ⟨c0, c1, c2, c3, c4, c5, c6, rfl⟩ := list7 hl
  obtain ⟨fuel, hf⟩ := h
  obtain ⟨y0, y1, n, _, _, h0, h1⟩ := trod_struct2 Tryz.underlying28 hf
  have h0 : DataW.trod enc Tryz.prog w base (fun _ => true) held n 25 [c0, c1, c2, c3, c4, c5] = some y0 := by simpa [Value.cells, cellsBox] using h0
  have h1 : DataW.trod enc Tryz.prog w base (fun _ => true) held n 26 [c6] = some y1 := by simpa [Value.cells, cellsInts] using h1
  obtain ⟨a, b, c, d, e, f, rfl, rfl, rfl, rfl, rfl, rfl⟩ := trod_box h0
  obtain ⟨ha, hcp, xs, rfl, hs, hc⟩ := trod_ints h1
  exact ⟨a, b, c, d, e, f, ha, hcp, xs, rfl, hs, hc⟩
set_option maxRecDepth 100000 in
theorem open_pt {r : Reach} {b0 : Nat} {v : Value} {d : DataW H} {p : List MemPlace} (hv : Value.okWide Tryz.prog w r b0 23 v) (h : DataW.Trod enc Tryz.prog w base spare held 23 v d p) :
    ∃ a b c : Int, v = .agg #[.int .i64 a, .int .i64 b, .int .i64 c] := by
  obtain ⟨cs, rfl, hsz⟩ := okWide_struct Tryz.underlying23 hv
  obtain ⟨l⟩ := cs
  have hl : l.length = 3 := by rw [cellsPt] at hsz; exact hsz
  obtain ⟨c0, c1, c2, rfl⟩ := list3 hl
  obtain ⟨fuel, hf⟩ := h
  obtain ⟨a, b, c, rfl, rfl, rfl⟩ := trod_pt (by simpa [Value.cells] using hf)
  exact ⟨a, b, c, rfl⟩
set_option maxRecDepth 100000 in
theorem open_edit {r : Reach} {b0 : Nat} {v : Value} {d : DataW H} {p : List MemPlace} (hv : Value.okWide Tryz.prog w r b0 44 v) (h : DataW.Trod enc Tryz.prog w base spare held 44 v d p) :
    ∃ a b c e : Int, v = .agg #[.int .i64 a, .int .i64 b, .int .i64 c, .int .i64 e] := by
  obtain ⟨cs, rfl, hsz⟩ := okWide_struct Tryz.underlying44 hv
  obtain ⟨l⟩ := cs
  have hl : l.length = 4 := by rw [cellsEdit] at hsz; exact hsz
  obtain ⟨c0, c1, c2, c3, rfl⟩ := list4 hl
  obtain ⟨fuel, hf⟩ := h
  obtain ⟨a, b, c, e, rfl, rfl, rfl, rfl⟩ := trod_edit (by simpa [Value.cells] using hf)
  exact ⟨a, b, c, e, rfl⟩
end
end Go.Proofs.YtabclecmehdeoaaGreat
end
