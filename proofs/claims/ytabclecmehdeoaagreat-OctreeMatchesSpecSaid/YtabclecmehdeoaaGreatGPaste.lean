import Derived.Test.YtabclecmehdeoaaGreatGNew
import Derived.Lib.SliceRun
import Derived.Test.YtabclecmehdeoaaGreatGBase
section
/- slices.Clone; the copying of rows of cells, by the program. -/
namespace Go.Proofs.YtabclecmehdeoaaGreat
open Go.RowKit Go.Sort

set_option maxHeartbeats 1000000 in
theorem slices_clone (a : Option Addr) (cap : Nat) (xs : List Int) (w : World) (hl : xs.length ≤ 100000000) (h : Sl w .i64 a xs) :
    Calls Tryz.prog 105 #[.slice a xs.length cap] w fun e w' => ∃ v, e = .returned v ∧ Own w' w.heap.size 3 .i64 v xs ∧ Below w.heap.size w w' := by
  have heq := fun (W : World) => Lib.run_eql_slice_nil (P := Tryz.prog) W 26 3 a xs.length cap 0 0 Tryz.underlying26
  generalize hn : xs.length = n at *
  have Hn := Bx.mk hn
  cases a with
  | none =>
    have hnil : xs = [] := by
      cases xs with
      | nil => rfl
      | cons x l => obtain ⟨b, off, h0, _⟩ := h 0 x rfl; cases h0
    have Hnil := Bx.mk hnil
    clear hnil hn h
    go_enter Tryz.func105, Tryz.ntmps105
    go_wp2
    go_ret
    exact ⟨_, rfl, by rw [Hnil.out]; exact Own.nil _ _ _ _, Below.refl _ _⟩
  | some ad =>
    clear hn
    have h0 : Own (w.alloc (.cells #[] 3)) w.heap.size 3 .i64 (.slice (some ⟨w.heap.size, 0, none⟩) 0 0) [] := Own.lit w _ _ _ #[] [] 0 (Nat.le_refl _) (by simp [maxLen]) rfl rfl
    have h1 := h.below ((Below.refl w.heap.size w).alloc (Nat.le_refl _) (.cells #[] 3))
    go_enter Tryz.func105, Tryz.ntmps105
    go_wp2_with (first
      | (at_builtin
         refine wpList_append_ints rfl _ _ 26 rfl 3 .i64 (.int .i64 0) 8 (by omega) Tryz.underlying26 (by kernel_rfl) rfl w.heap.size _ [] rfl h0 xs _ _ cap rfl Hn.out.symm h1 (by have := Hn.out; simp; omega) (le_alloc (Nat.le_refl _) _) ?_
         intro v5 w5 hown5 hg5 _))
    go_ret
    exact ⟨_, rfl, by simpa using hown5, ((Below.refl _ _).alloc (Nat.le_refl _) _).grown hg5 (le_alloc (Nat.le_refl _) _) (fun g hg => (h0.lt g hg).1)⟩

theorem Own.raw {w : World} {B g n cap : Nat} {e : TypeId} {k : IntKind} {xs : List Int} (h : Own w B e k (.slice (some ⟨g, 0, none⟩) n cap) xs) :
    ∃ cur : List Value, w.heap[g]? = some (.cells cur.toArray e (0, 0)) ∧ cur.length = cap ∧ cur.take n = xs.map (Value.int k) ∧ n ≤ cap ∧ cap ≤ maxLen ∧ B ≤ g ∧ n = xs.length := by
  obtain ⟨hl, h⟩ := h
  rcases h with ⟨h, _⟩ | ⟨g', cap', cur, h1, h2, h3, h4, h5, h6, h7⟩
  · cases h
  · injection h1 with e1 e2 e3
    injection e1 with e1
    injection e1 with e1
    subst e1 e2 e3
    refine ⟨cur.toList, by simpa using h3, by simpa using h6, by simpa using h7, h4, h5, h2, rfl⟩
theorem Own.mk' {w : World} {B g n cap : Nat} {e : TypeId} {k : IntKind} {xs : List Int} {cur : List Value} (h1 : w.heap[g]? = some (.cells cur.toArray e (0, 0))) (h2 : cur.length = cap) (h3 : cur.take n = xs.map (Value.int k)) (h4 : n ≤ cap) (h5 : cap ≤ maxLen) (h6 : B ≤ g) (h7 : n = xs.length) :
    Own w B e k (.slice (some ⟨g, 0, none⟩) n cap) xs := by
  subst h7
  exact ⟨by simp, .inr ⟨g, cap, cur.toArray, rfl, h6, h1, h4, h5, by simp [h2], by simpa using h3⟩⟩
/-- a piece of a list is written over a piece of another one -/
def over (ys : List Int) (k : Nat) (cs : List Int) : List Int := splice ys k cs
theorem over_length {ys cs : List Int} {k : Nat} (h : k + cs.length ≤ ys.length) : (over ys k cs).length = ys.length := length_splice ys k cs h
theorem splice_map (cur : List Value) (n : Nat) (ys cs : List Int) (k : Nat) (h : cur.take n = ys.map (Value.int .i64)) (hn : n = ys.length) (hk : k + cs.length ≤ n) :
    (splice cur k (cs.map (Value.int .i64))).take n = (over ys k cs).map (Value.int .i64) := by
  have hcl : n ≤ cur.length := by
    have := congrArg List.length h
    rw [List.length_take, List.length_map] at this
    omega
  have hc : cur = ys.map (Value.int .i64) ++ cur.drop n := by rw [← h, List.take_append_drop]
  have hyl : (ys.map (Value.int .i64)).length = n := by simp [hn]
  unfold over splice
  apply List.ext_getElem?
  intro i
  by_cases hi : i < n
  · rw [List.getElem?_take, if_pos hi]
    simp only [List.map_append, List.map_take, List.map_drop, List.getElem?_append, List.length_take, List.length_map, List.getElem?_take, List.getElem?_drop]
    have e1 : ∀ j, j < n → cur[j]? = (ys.map (Value.int .i64))[j]? := fun j hj => by
      rw [← h, List.getElem?_take, if_pos hj]
    have m1 : min k cur.length = k := by omega
    have m2 : min k ys.length = k := by omega
    rw [m1, m2]
    split
    · exact e1 i hi
    · split
      · rfl
      · rw [e1 _ (by omega)]
  · rw [List.getElem?_take, if_neg hi]
    symm
    rw [List.getElem?_eq_none]
    simp; omega

theorem step_copy_row {P : Program} {ops : Array Oper} {o : Oper} {a : Act} {w : World} {K : Act → World → Prop} {Q : Exit → Act → World → Prop} {E : Prop} (hgd : o.guard = none) (d s : Operand) (dT sT : TypeId)
    (ho : o.op = .call { callee := .builtin .copy, args := #[d, s], argTypes := #[dT, sT] }) (elem : TypeId) (hu : P.underlying dT = some (.slice elem)) (hsz : (P.info? elem).map (·.size) = some 1)
    (g off dLen dCap : Nat) (ad : Addr) (sLen sCap : Nat) (hd : a.eval d = .slice (some ⟨g, off, none⟩) dLen dCap) (hs : a.eval s = .slice (some ad) sLen sCap)
    (cur : List Value) (t : TypeId) (hg : w.heap[g]? = some (.cells cur.toArray t (0, 0))) (cs : List Value) (hn : cs.length = Nat.min sLen dLen)
    (hsrc : ∀ j v, cs[j]? = some v → w.cell? (ad.add j) = some v) (hfit : off + cs.length ≤ cur.length) (h1 : ∀ v ∈ cs, v.oneCell' = true)
    (h : ∀ w', Hid (w'.heap[g]? = some (.cells (splice cur off cs).toArray t (0, 0))) → Hid (w.grownBy w' (some g)) → K (a.put o.dst (goInt cs.length)) w') :
    if Region.wanted o (yielded ops a.tmps) = true then Oper.wp P o a w K Q else E := by
  have hw : Region.wanted o (yielded ops a.tmps) = true := by simp [Region.wanted, hgd]
  rw [if_pos hw]
  have hrun := run_copy_row (P := P) w dT sT o.type elem g off dLen dCap ad sLen sCap cur.toArray t cs hu hsz hg hn hsrc (by simpa using hfit) h1
  unfold Oper.wp
  simp [execOp, ho, resolve, invoke, builtin, hd, hs, hrun, Result.andThen]
  exact h _ (show _ = _ by simpa [splice] using setRow_heap w g _ _ t _ hg) ⟨rfl, rfl, rfl, by simp [World.setRow], fun k hk hne => setRow_other w g k _ (fun e => hne (by rw [e]))⟩
theorem row_len {xs : List Int} {from_ n k : Nat} (hle : from_ + n ≤ xs.length) : (((xs.drop from_).take n).map (Value.int .i64)).length = Nat.min (((from_ : Int) + (n : Int)).toNat - from_) (((k : Int) + (n : Int)).toNat - k) := by
  have e1 : ((from_ : Int) + (n : Int)).toNat - from_ = n := by omega
  have e2 : ((k : Int) + (n : Int)).toNat - k = n := by omega
  rw [e1, e2]
  simp only [List.length_map, List.length_take, List.length_drop, Nat.min_def]
  split <;> split <;> omega
theorem row_src {w : World} {b off from_ n j : Nat} {v : Value} {xs : List Int} (h : Sl w .i64 (some ⟨b, off, none⟩) xs) (hj : (((xs.drop from_).take n).map (Value.int .i64))[j]? = some v) : w.cell? ((⟨b, off + from_, none⟩ : Addr).add j) = some v := by
  rw [List.getElem?_map, Option.map_eq_some_iff] at hj
  obtain ⟨x, hx, rfl⟩ := hj
  rw [List.getElem?_take] at hx
  split at hx
  · rw [List.getElem?_drop] at hx
    obtain ⟨b', off', h1, h2⟩ := h _ _ hx
    injection h1 with h1
    injection h1 with e1 e2
    subst e1 e2
    have e : (⟨b, off + from_, none⟩ : Addr).add j = ⟨b, off + (from_ + j), none⟩ := by unfold Addr.add; split <;> simp_all [Nat.add_assoc]
    rw [e]; exact h2
  · cases hx
theorem row_fit {xs : List Int} {from_ n k N cap : Nat} {cur : List Value} (_hle : from_ + n ≤ xs.length) (h : cur.length = cap) (hk : k + n ≤ N) (hN : N ≤ cap) : k + (((xs.drop from_).take n).map (Value.int .i64)).length ≤ cur.length := by
  simp only [List.length_map, List.length_take, List.length_drop]; omega
theorem row_own {w : World} {B g N cap k n from_ : Nat} {cur : List Value} {ys xs : List Int} (h : Hid (w.heap[g]? = some (.cells (splice cur k (((xs.drop from_).take n).map (Value.int .i64))).toArray 3 (0, 0)))) (h2 : Bx (cur.length = cap))
    (h3 : Bx (cur.take N = ys.map (Value.int .i64))) (h4 : Bx (N ≤ cap)) (h5 : cap ≤ maxLen) (h6 : B ≤ g) (h7 : N = ys.length) (hle : from_ + n ≤ xs.length) (hkn : k + n ≤ N) :
    Own w B 3 .i64 (.slice (some ⟨g, 0, none⟩) N cap) (over ys k ((xs.drop from_).take n)) := by
  have hn : ((xs.drop from_).take n).length = n := by simp only [List.length_take, List.length_drop]; omega
  have := h4.out
  refine Own.mk' h ?_ (splice_map cur N ys _ k h3.out h7 (by omega)) h4.out h5 h6 (by rw [over_length (by omega)]; exact h7)
  rw [length_splice _ _ _ (by rw [List.length_map, h2.out]; omega), h2.out]
theorem row_grown {w w1 w2 : World} {g : Nat} (hB : Below w.heap.size w w1) (h : w1.drew.grownBy w2 (some g)) : w.grownBy w2 (some g) :=
  ⟨h.os.trans hB.os, h.tape.trans hB.tape, h.output.trans hB.output, Nat.le_trans hB.size h.size, fun k hk hne => (h.block k (Nat.lt_of_lt_of_le hk hB.size) hne).trans (hB.block k hk)⟩
theorem row_one {xs : List Int} : ∀ v ∈ xs.map (Value.int .i64), v.oneCell' = true := by
  intro v hv
  obtain ⟨x, _, rfl⟩ := List.mem_map.1 hv
  rfl

set_option maxRecDepth 100000 in
set_option maxHeartbeats 1000000 in
/-- the innermost closure of Paste: a row of cells is copied -/
theorem row_copy (ph pb g k n N cap : Nat) (px py pz a b c d e f : Int) (ha : Option Addr) (hcp : Nat) (xs ys : List Int) (hS : Small ⟨⟨a, b, c⟩, ⟨d, e, f⟩⟩ 1048575) (B from_ : Nat) (w : World)
    (hfrom : indexB ⟨⟨a, b, c⟩, ⟨d, e, f⟩⟩ ⟨px, py, pz⟩ = (from_ : Int)) (hn : 1 ≤ n) (hle : from_ + n ≤ xs.length) (hkn : k + n ≤ N) (hN : N ≤ 4194304) (hxl : xs.length ≤ 4194304) (hcap : xs.length ≤ hcp)
    (kh : Bk w ph #[.int .i64 a, .int .i64 b, .int .i64 c, .int .i64 d, .int .i64 e, .int .i64 f, .slice ha xs.length hcp] 28)
    (kb : Bk w pb #[.slice (some ⟨g, 0, none⟩) N cap] 26) (hx : Sl w .i64 ha xs) (ho : Own w B 3 .i64 (.slice (some ⟨g, 0, none⟩) N cap) ys) (_hgh : g ≠ ph) (_hgb : g ≠ pb) :
    Calls Tryz.prog 93 #[.int .i64 (k : Int), .agg #[.int .i64 px, .int .i64 py, .int .i64 pz], .int .i64 (n : Int), .pointer (some ⟨ph, 0, none⟩), .pointer (some ⟨pb, 0, none⟩)] w fun e w' =>
      e = .returned (.tuple #[]) ∧ Own w' B 3 .i64 (.slice (some ⟨g, 0, none⟩) N cap) (over ys k ((xs.drop from_).take n)) ∧ w.grownBy w' (some g) := by
  have hind := Bx.mk fun W => index_any a b c d e f px py pz hS W
  rw [hfrom] at hind
  clear hfrom hS
  have kh1 := kh.alloc (t := 28) (.cells #[.int .i64 px, .int .i64 py, .int .i64 pz] 23)
  have ch0 := kh1.cell 0 rfl
  have ch1 := kh1.cell 1 rfl
  have ch2 := kh1.cell 2 rfl
  have ch3 := kh1.cell 3 rfl
  have ch4 := kh1.cell 4 rfl
  have ch5 := kh1.cell 5 rfl
  have ch6 := kh1.cell 6 rfl
  go_enter Tryz.func93, Tryz.ntmps93
  go_wp2_with fail
  generalize hW : World.alloc w _ = W
  have hB : Below w.heap.size w W := by rw [← hW]; exact (Below.refl _ _).alloc (Nat.le_refl _) _
  clear hW kh1 ch0 ch1 ch2 ch3 ch4 ch5 ch6
  refine (hind.out _).mono ?_
  rintro e' w1 ⟨rfl, hb⟩
  replace hB := hB.trans (hb.mono hB.size)
  clear hb hind
  have kh2 := kh.later hB
  have kb2 := kb.later hB
  have ho2 := ho.below hB
  have hx2 := hx.below hB
  clear kh kb ho hx
  obtain ⟨cur, r1, r2, r3, r4, r5, r6, r7⟩ := ho2.raw
  obtain ⟨hb0, ho0, rfl⟩ : ∃ hb0 ho0, ha = some ⟨hb0, ho0, none⟩ := by
    obtain ⟨b, off, h0, _⟩ := hx2 0 (xs[0]'(by omega)) (by simp)
    exact ⟨b, off, h0⟩
  have ch0 := kh2.cell 0 rfl
  have ch1 := kh2.cell 1 rfl
  have ch2 := kh2.cell 2 rfl
  have ch3 := kh2.cell 3 rfl
  have ch4 := kh2.cell 4 rfl
  have ch5 := kh2.cell 5 rfl
  have ch6 := kh2.cell 6 rfl
  have cb0 := kb2.cell 0 rfl
  have Kh := Bx.mk kh2
  have Kb := Bx.mk kb2
  have Ho := Bx.mk ho2
  have Hx := Bx.mk hx2
  clear kh2 kb2 ho2 hx2
  have i1 : (0 : Int) ≤ (k : Int) := by omega
  have i5 := IntWalk.i64_in ((k : Int) + (n : Int)) (by omega)
  have i6 := IntWalk.i64_in ((from_ : Int) + (n : Int)) (by omega)
  have i2 : (k : Int) ≤ (k : Int) + (n : Int) := by omega
  have i3 : (k : Int) + (n : Int) ≤ (cap : Int) := by omega
  have j1 : (0 : Int) ≤ (from_ : Int) := by omega
  have j2 : (from_ : Int) ≤ (from_ : Int) + (n : Int) := by omega
  have j3 : (from_ : Int) + (n : Int) ≤ (hcp : Int) := by omega
  have hc1 : ¬ cap = k := by omega
  have hc2 : ¬ hcp = from_ := by omega
  have R1 := Bx.mk r1
  have R2 := Bx.mk r2
  have R3 := Bx.mk r3
  have R4 := Bx.mk r4
  clear r1 r2 r3 r4
  go_wp2_with fail
  go_region_law ((refine step_copy_row rfl (.tmp 18) (.tmp 25) 26 26 rfl 3 Tryz.underlying26 (by kernel_rfl) g k (((k : Int) + (n : Int)).toNat - k) (cap - k) ⟨hb0, ho0 + from_, none⟩ (((from_ : Int) + (n : Int)).toNat - from_) (hcp - from_) (by simp [Act.eval, Act.put]) (by simp [Act.eval, Act.put]) cur 3 R1.out (((xs.drop from_).take n).map (Value.int .i64)) (row_len hle) (fun j v hj => row_src Hx.out hj) (row_fit hle R2.out hkn R4.out) row_one ?_; intro w2 hg2 hb2))
  all_goals (go_wp2_with fail; go_end0; exact ⟨rfl, row_own hg2 R2 R3 R4 r5 r6 r7 hle hkn, row_grown hB hb2.out⟩)
end Go.Proofs.YtabclecmehdeoaaGreat
end
section
/- A region that draws its order, where the tail waits for the head through other operations. -/
namespace Go.Proofs.YtabclecmehdeoaaGreat
open Go.Sort Go.RowKit

/-- each operation of the head is waited for by the first one behind it, or by a later one of the head -/
def tailT (md : Region.Mode) (l : List Oper) (n : Nat) : Bool :=
  ((List.range n).all fun k => Region.waitsFor md l.toArray n k || (List.range n).any fun m => decide (k < m) && Region.waitsFor md l.toArray m k) && (List.range l.length).all fun t => decide (t ≤ n) || Region.waitsFor md l.toArray t (t - 1)
def headT (l : List Oper) (n : Nat) : Bool :=
  decide (n < l.length) && backB .any l n && tailT .any l n && Region.lexB .any (l.take n).toArray && Region.seqB .any l.toArray (l.length - n) n (Array.replicate n true ++ Array.replicate (l.length - n) false)
section
variable {P : Program} {md : Region.Mode} {l : List Oper} {n : Nat} {C : World → Prop}
/-- what is listed has all that it waits for listed -/
def Shut (md : Region.Mode) (l : List Oper) (s : Array Bool) : Prop := ∀ m k, s.getD m false = true → Region.waitsFor md l.toArray m k = true → s.getD k false = true
theorem not_first {s : Array Bool} (hs : s.size = n) {g : Nat} (hsh : Shut md l s) (ht : tailT md l n = true) (h : n ∈ Region.ready md l.toArray (s ++ Array.replicate g false)) : ∀ (d k : Nat), n - k ≤ d → k < n → s.getD k false = false → False
  | 0, k, h1, h2, _ => by omega
  | d + 1, k, hd, hk, hun => by
    obtain ⟨h1, o, ho, h2⟩ := mem_ready.1 h
    have ht' := ht
    simp only [tailT, Bool.and_eq_true] at ht'
    have h3 := List.all_eq_true.1 ht'.1 k (List.mem_range.2 hk)
    simp only [Bool.or_eq_true] at h3
    rcases h3 with h3 | h3
    · obtain ⟨o', ho', e, he, hbi, hon⟩ := Region.waitsFor_spec h3
      obtain rfl : o' = o := Option.some.inj (ho'.symm.trans ho)
      have := h2 e he hbi
      rw [hon, app_get hs hk, hun] at this
      cases this
    · obtain ⟨m, hm, h4⟩ := List.any_eq_true.1 h3
      simp only [Bool.and_eq_true, decide_eq_true_eq] at h4
      have hmn := List.mem_range.1 hm
      refine not_first hs hsh ht h d m (by omega) hmn ?_
      cases hx : s.getD m false with
      | false => rfl
      | true => have := hsh m k hx h4.2; rw [hun] at this; cases this
theorem ready_not_tailT {s : Array Bool} (hs : s.size = n) (hsh : Shut md l s) {g i k : Nat} (hk : k < n) (hun : s.getD k false = false) (ht : tailT md l n = true) (h : i ∈ Region.ready md l.toArray (s ++ Array.replicate g false)) : i < n := by
  obtain ⟨h1, o, ho, h2⟩ := mem_ready.1 h
  rcases Nat.lt_or_ge i n with hlt | hge
  · exact hlt
  · exfalso
    have hil : i < l.length := by have := (Array.getElem?_eq_some_iff.1 ho).1; simpa using this
    by_cases hin : i = n
    · subst hin
      exact not_first hs hsh ht h (i - k) k (Nat.le_refl _) hk hun
    · have ht' := ht
      simp only [tailT, Bool.and_eq_true] at ht'
      have h3 := List.all_eq_true.1 ht'.2 i (List.mem_range.2 hil)
      simp only [Bool.or_eq_true, decide_eq_true_eq] at h3
      rcases h3 with h3 | h3
      · omega
      · obtain ⟨o', ho', e, he, hbi, hon⟩ := Region.waitsFor_spec h3
        obtain rfl : o' = o := Option.some.inj (ho'.symm.trans ho)
        have := h2 e he hbi
        rw [hon, app_tail hs (by omega)] at this
        cases this
theorem shut_set {s : Array Bool} {i : Nat} (hsh : Shut md l s) (hi : i ∈ Region.ready md (l.take n).toArray s) (hin : i < n) : Shut md l (s.setIfInBounds i true) := by
  intro m k hm hw
  have keep : ∀ j, s.getD j false = true → (s.setIfInBounds i true).getD j false = true := by
    intro j hj
    simp only [Array.getD_eq_getD_getElem?, Array.getElem?_setIfInBounds] at hj ⊢
    split
    · split
      · rfl
      · rename_i h; rw [Array.getElem?_eq_none (by omega)] at hj; exact hj
    · exact hj
  by_cases e : i = m
  · subst e
    obtain ⟨_, o, ho, h2⟩ := mem_ready.1 hi
    obtain ⟨o', ho', e, he, hbi, hon⟩ := Region.waitsFor_spec hw
    rw [take_get hin] at ho
    obtain rfl : o' = o := Option.some.inj (ho'.symm.trans ho)
    exact keep k (hon ▸ h2 e he hbi)
  · refine keep k (hsh m k ?_ hw)
    simpa [Array.getD_eq_getD_getElem?, Array.getElem?_setIfInBounds, e] using hm
theorem wpAny_of_headT {Qa : Act → Prop} {Q : Exit → Act → World → Prop} {g : Nat} (hn : n ≤ l.length) (hb : backB md l n = true) (ht : tailT md l n = true)
    (hend : ∀ a w, C w → Qa a → wpAny P md l.toArray Q g (Array.replicate n true ++ Array.replicate g false) a w) :
    ∀ (f : Nat) (s : Array Bool) (a : Act) (w : World), s.size = n → Shut md l s → unl s = f → C w → wpAnyQ P md (l.take n).toArray C Qa f s a →
      wpAny P md l.toArray Q (f + g) (s ++ Array.replicate g false) a w
  | 0, s, a, w, hs, _, hu, hw, h => by
    rw [Nat.zero_add, unl_zero hu, hs]
    exact hend a w hw h.2
  | f + 1, s, a, w, hs, hsh, hu, hw, h => by
    obtain ⟨k, hk, hun⟩ := unl_pos (s := s) (by omega)
    rw [show f + 1 + g = (f + g) + 1 by omega]
    refine ⟨fun h0 => ?_, fun i hi => ?_⟩
    · obtain ⟨i, hi⟩ := ready_some (g := g) hs hn hb (k + 1) k (by omega) (by omega) hun
      rw [h0] at hi; cases hi
    · have hin := ready_not_tailT hs hsh (by omega : k < n) hun ht hi
      have hr := ready_head hs hin hb hi
      have hq := h.2 i hr
      obtain ⟨hiu, o, ho, _⟩ := mem_ready.1 hr
      have ho' : l.toArray[i]? = some o := by rw [← take_get hin]; exact ho
      have step : ∀ a' w', C w' → wpAnyQ P md (l.take n).toArray C Qa f (s.setIfInBounds i true) a' → wpAny P md l.toArray Q (f + g) ((s ++ Array.replicate g false).setIfInBounds i true) a' w' := by
        intro a' w' hw' h'
        rw [app_set (by omega)]
        refine wpAny_of_headT hn hb ht hend f _ a' w' (by simpa using hs) (shut_set hsh hr hin) ?_ hw' h'
        have := unl_set (s := s) (by omega) hiu
        omega
      have hq' : qOp P l.toArray C i (wpAnyQ P md (l.take n).toArray C Qa f (s.setIfInBounds i true)) a := by
        unfold qOp at hq ⊢
        simp only [ho] at hq
        simp only [ho']
        rwa [wanted_head hb hin ho'] at hq
      exact wpOp_of_qOp hw step hq'
theorem wp_region_headT {id : Nat} {Q : Exit → Act → World → Prop} {a : Act} {w : World} (n : Nat) (hm : P.follows .mixedOrders = true) (hB : headT l n = true) (hC : C { w with drawn := w.drawn + 1 })
    (h : wpQuiet P (l.take n).toArray C (fun a' => ∀ w', C w' → wpList P l.toArray Q (l.drop n) a' w') (l.take n) a) : (Code.region id l.toArray true).wp P Q a w := by
  simp only [headT, Bool.and_eq_true, decide_eq_true_eq] at hB
  obtain ⟨⟨⟨⟨hn, hb⟩, ht⟩, hlex⟩, hseq⟩ := hB
  simp only [Region.lexB, Bool.and_eq_true] at hlex
  refine wp_region_any hm ?_
  have hsz : (l.take n).toArray.size = n := by simp; omega
  have hq := wpAnyQ_lex (P := P) (C := C) (md := .any) hlex.1 (l.take n) 0 (Array.replicate n false) a (by simp) (by have := hlex.2; rw [hsz] at this; simpa [show (l.take n).length = n by simp; omega] using this) h
  rw [show (l.take n).length = n by simp; omega] at hq
  have := wpAny_of_headT (g := l.length - n) (Q := Q) (md := .any) (by omega) hb ht (fun a w hw hQa => by
    have := wpAny_of_seq (P := P) (md := .any) (ops := l.toArray) (Q' := Q) (l.drop n) n (Array.replicate n true ++ Array.replicate (l.length - n) false) a w (fun j => by simp [List.getElem?_drop]) (by simpa using hseq) (hQa w hw)
    simpa using this) n (Array.replicate n false) a _ (by simp) (fun m k h => by
      simp only [Array.getD_eq_getD_getElem?, Array.getElem?_replicate] at h
      split at h <;> simp at h) (by simp [unl]) hC hq
  have e : Array.replicate n false ++ Array.replicate (l.length - n) false = Array.replicate l.toArray.size false := by
    rw [Array.replicate_append_replicate]; congr 1; simp; omega
  rw [e, show n + (l.length - n) = l.toArray.size by simp; omega] at this
  exact this
theorem wp_region_headT_below {id : Nat} {Q : Exit → Act → World → Prop} {a : Act} {w : World} (n : Nat) (hm : P.follows .mixedOrders = true) (hB : headT l n = true)
    (h : wpQuiet P (l.take n).toArray (fun w' => ∃ p : Regrown, w' = grow (redrawn w p.d) p.os) (fun a' => ∀ w', (∃ p : Regrown, w' = grow (redrawn w p.d) p.os) → wpList P l.toArray Q (l.drop n) a' w') (l.take n) a) :
    (Code.region id l.toArray true).wp P Q a w :=
  wp_region_headT (C := fun w' => ∃ p : Regrown, w' = grow (redrawn w p.d) p.os) n hm hB ⟨⟨w.drawn + 1, #[]⟩, by rw [grow_empty]; rfl⟩ h
end
end Go.Proofs.YtabclecmehdeoaaGreat
end
section
/- The rows of a box in a grid; Paste, by the program. -/
namespace Go.Proofs.YtabclecmehdeoaaGreat
open Go.RowKit Go.Sort

theorem Bk.grown {w w' : World} {b g : Nat} {vs : Array Value} {t : TypeId} (h : Bk w b vs t) (hg : w.grownBy w' (some g)) (hne : b ≠ g) : Bk w' b vs t := by
  have hlt : b < w.heap.size := (Array.getElem?_eq_some_iff.1 h).1
  exact (hg.block b hlt (fun e => hne (by injection e))).trans h
theorem grown_below {w w1 w2 : World} {g : Nat} (h : w.grownBy w1 (some g)) (hb : Below w1.heap.size w1 w2) : w.grownBy w2 (some g) :=
  ⟨hb.os.trans h.os, hb.tape.trans h.tape, hb.output.trans h.output, Nat.le_trans h.size hb.size, fun k hk hne => (hb.block k (Nat.lt_of_lt_of_le hk h.size)).trans (h.block k hk hne)⟩
theorem grown_trans {w w1 w2 : World} {g : Nat} (h : w.grownBy w1 (some g)) (hb : w1.grownBy w2 (some g)) : w.grownBy w2 (some g) :=
  ⟨hb.os.trans h.os, hb.tape.trans h.tape, hb.output.trans h.output, Nat.le_trans h.size hb.size, fun k hk hne => (hb.block k (Nat.lt_of_lt_of_le hk h.size) hne).trans (h.block k hk hne)⟩

set_option maxRecDepth 100000 in
set_option maxHeartbeats 2000000 in
theorem rows_paste (ph pb g : Nat) (a b c d e f a2 b2 c2 d2 e2 f2 la lb lc ld le lf : Int) (cs : Value) (hS : Small ⟨⟨a, b, c⟩, ⟨d, e, f⟩⟩ 1048575)
    (hM : meetB ⟨⟨a, b, c⟩, ⟨d, e, f⟩⟩ ⟨⟨a2, b2, c2⟩, ⟨d2, e2, f2⟩⟩ = ⟨⟨la, lb, lc⟩, ⟨ld, le, lf⟩⟩) (hbd : -1048576 ≤ la ∧ -1048576 ≤ lb ∧ -1048576 ≤ lc ∧ ld ≤ 1048576 ∧ le ≤ 1048576 ∧ lf ≤ 1048576 ∧ la ≤ ld ∧ lb ≤ le ∧ lc ≤ lf)
    (I : Int → Int → World → Prop) (w : World) (hg : g < w.heap.size) (hI : ∀ z y W W', I z y W → Below W.heap.size W W' → I z y W') (h0 : I lc lb w)
    (hcall : ∀ z y W, lc ≤ z → z < lf → lb ≤ y → y < le → I z y W → w.grownBy W (some g) → Calls Tryz.prog 93 #[.int .i64 (indexB ⟨⟨a, b, c⟩, ⟨d, e, f⟩⟩ ⟨la, y, z⟩), .agg #[.int .i64 la, .int .i64 y, .int .i64 z], .int .i64 (ld - la), .pointer (some ⟨ph, 0, none⟩), .pointer (some ⟨pb, 0, none⟩)] W fun e' W' => e' = .returned (.tuple #[]) ∧ I z (y + 1) W' ∧ W.grownBy W' (some g))
    (hnext : ∀ z W, lc ≤ z → z < lf → I z le W → I (z + 1) lb W) :
    Calls Tryz.prog 92 #[.agg #[.int .i64 a, .int .i64 b, .int .i64 c, .int .i64 d, .int .i64 e, .int .i64 f, cs], .agg #[.int .i64 a2, .int .i64 b2, .int .i64 c2, .int .i64 d2, .int .i64 e2, .int .i64 f2], .func (.func 93) #[] #[.pointer (some ⟨ph, 0, none⟩), .pointer (some ⟨pb, 0, none⟩)]] w fun e' w' => e' = .returned (.tuple #[]) ∧ I lf lb w' ∧ w.grownBy w' (some g) := by
  have HI := Bx.mk hI
  have H0 := Bx.mk h0
  have Hc := Bx.mk hcall
  have Hn := Bx.mk hnext
  have hmeet := Bx.mk fun W => meet_any a b c d e f a2 b2 c2 d2 e2 f2 W
  rw [hM] at hmeet
  have hind := Bx.mk fun y z W => index_any a b c d e f la y z hS W
  clear hI h0 hcall hnext hM hS
  go_enter Tryz.func92, Tryz.ntmps92
  go_wp2_with fail
  generalize hW : World.alloc (World.alloc w _) _ = W
  have hSz : w.heap.size + 1 + 1 ≤ W.heap.size := by rw [← hW]; simp
  have hB : Below w.heap.size w W := by rw [← hW]; exact ((Below.refl _ _).alloc (Nat.le_refl _) _).alloc (by simp) _
  have kg : Bk W (w.heap.size) #[.int .i64 a, .int .i64 b, .int .i64 c, .int .i64 d, .int .i64 e, .int .i64 f, cs] 28 := by rw [← hW]; exact blk_old (blk_new _ _ _ (by simp))
  have kb : Bk W (w.heap.size + 1) #[.int .i64 a2, .int .i64 b2, .int .i64 c2, .int .i64 d2, .int .i64 e2, .int .i64 f2] 25 := by rw [← hW]; exact blk_new _ _ _ (by simp)
  clear hW
  have cg0 := kg.cell 0 rfl
  have cg1 := kg.cell 1 rfl
  have cg2 := kg.cell 2 rfl
  have cg3 := kg.cell 3 rfl
  have cg4 := kg.cell 4 rfl
  have cg5 := kg.cell 5 rfl
  have cg6 := kg.cell 6 rfl
  have cb0 := kb.cell 0 rfl
  have cb1 := kb.cell 1 rfl
  have cb2 := kb.cell 2 rfl
  have cb3 := kb.cell 3 rfl
  have cb4 := kb.cell 4 rfl
  have cb5 := kb.cell 5 rfl
  go_wp2_with fail
  refine (hmeet.out _).mono ?_
  rintro e' w1 ⟨rfl, hb⟩
  clear hmeet
  clear cg0 cg1 cg2 cg3 cg4 cg5 cg6 cb0 cb1 cb2 cb3 cb4 cb5
  replace hB := hB.trans (hb.mono hB.size)
  replace kg := kg.later hb
  replace kb := kb.later hb
  replace hSz := Nat.le_trans hSz hb.size
  clear hb
  obtain ⟨gm, hgm⟩ : ∃ gm, gm = w1.heap.size := ⟨_, rfl⟩
  clear kb
  have b1 := hbd.1
  go_wp2_with fail
  generalize hW2 : World.alloc w1 _ = W2
  have km : Bk W2 gm #[.int .i64 la, .int .i64 lb, .int .i64 lc, .int .i64 ld, .int .i64 le, .int .i64 lf] 25 := by rw [hgm, ← hW2]; exact blk_new _ _ _ rfl
  have hb : Below w1.heap.size w1 W2 := by rw [← hW2]; exact (Below.refl _ _).alloc (Nat.le_refl _) _
  rw [← hgm]
  have hgg : g < gm := by omega
  replace hB := hB.trans (hb.mono hB.size)
  replace kg := kg.later hb
  have hG : w.grownBy W2 (some g) := ⟨hB.os, hB.tape, hB.output, hB.size, fun k hk _ => hB.block k hk⟩
  have hJ := HI.out _ _ _ _ H0.out hB
  clear hW2 hb hB H0 hSz hgm
  have Hbd := Bx.mk hbd
  clear hbd b1
  go_loopw [7] (fun i wr => ∃ z : Int, lc ≤ z ∧ z ≤ lf ∧ i = .int .i64 z ∧ Bk wr w.heap.size #[.int .i64 a, .int .i64 b, .int .i64 c, .int .i64 d, .int .i64 e, .int .i64 f, cs] 28 ∧ Bk wr gm #[.int .i64 la, .int .i64 lb, .int .i64 lc, .int .i64 ld, .int .i64 le, .int .i64 lf] 25 ∧ I z lb wr ∧ w.grownBy wr (some g)) (fun i _ => (lf - intOf i).toNat)
  case atStart => exact ⟨lc, by omega, Hbd.out.2.2.2.2.2.2.2.2, rfl, kg, km, hJ, hG⟩
  case round =>
    clear kg km hJ hG
    obtain ⟨z, z1, z2, rfl, kg, km, hJ, hG⟩ := hrel
    have hJ' := Bx.mk hJ
    have hG' := Bx.mk hG
    clear hJ hG
    have cm0 := km.cell 0 rfl
    have cm1 := km.cell 1 rfl
    have cm2 := km.cell 2 rfl
    have cm3 := km.cell 3 rfl
    have cm4 := km.cell 4 rfl
    have cm5 := km.cell 5 rfl
    by_cases hz : z < lf
    · go_wp2_with fail
      clear cm0 cm1 cm2 cm3 cm4 cm5
      obtain ⟨wo, hwo⟩ : ∃ wo : World, wo = wr := ⟨_, rfl⟩
      rw [← hwo] at kg km hJ' hG'
      have Kgo := Bx.mk kg
      have Kmo := Bx.mk km
      clear kg km
      go_loopw [8] (fun i wr => ∃ y : Int, lb ≤ y ∧ y ≤ le ∧ i = .int .i64 y ∧ Bk wr w.heap.size #[.int .i64 a, .int .i64 b, .int .i64 c, .int .i64 d, .int .i64 e, .int .i64 f, cs] 28 ∧ Bk wr gm #[.int .i64 la, .int .i64 lb, .int .i64 lc, .int .i64 ld, .int .i64 le, .int .i64 lf] 25 ∧ I z y wr ∧ w.grownBy wr (some g)) (fun i _ => (le - intOf i).toNat)
      case atStart => subst hwo; exact ⟨lb, by omega, Hbd.out.2.2.2.2.2.2.2.1, rfl, Kgo.out, Kmo.out, hJ'.out, hG'.out⟩
      case round =>
        clear Kgo Kmo hJ' hG' hwo
        obtain ⟨y, y1, y2, rfl, kg, km, hJ, hG⟩ := hrel
        by_cases hy : y < le
        · have hB := Below.refl wr.heap.size wr
          have hSz := Nat.le_refl wr.heap.size
          have hgw : w.heap.size ≤ wr.heap.size := hG.size
          have hJ' := Bx.mk hJ
          have hG' := Bx.mk hG
          clear hJ hG
          have cm0 := km.cell 0 rfl
          have cm1 := km.cell 1 rfl
          have cm2 := km.cell 2 rfl
          have cm3 := km.cell 3 rfl
          have cm4 := km.cell 4 rfl
          have cm5 := km.cell 5 rfl
          go_wp2_with fail
          generalize hW : World.alloc wr _ = W
          have hb : Below wr.heap.size wr W := by rw [← hW]; exact (Below.refl _ _).alloc (Nat.le_refl _) _
          have kp : Bk W wr.heap.size #[.int .i64 la, .int .i64 y, .int .i64 z] 23 := by rw [← hW]; exact blk_new _ _ _ rfl
          clear hW hSz cm0 cm1 cm2 cm3 cm4 cm5
          replace hB := hb
          replace kg := kg.later hb
          replace km := km.later hb
          have hSz := hb.size
          have i1 := IntWalk.i64_in (ld - la) (by have := Hbd.out; omega)
          have cg0 : ∀ dk osk, (grow (redrawn W dk) osk).cell? ⟨w.heap.size, 0, none⟩ = some (.int .i64 a) := cell_regrown (kg.cell 0 rfl)
          have cg1 : ∀ dk osk, (grow (redrawn W dk) osk).cell? ⟨w.heap.size, 1, none⟩ = some (.int .i64 b) := cell_regrown (kg.cell 1 rfl)
          have cg2 : ∀ dk osk, (grow (redrawn W dk) osk).cell? ⟨w.heap.size, 2, none⟩ = some (.int .i64 c) := cell_regrown (kg.cell 2 rfl)
          have cg3 : ∀ dk osk, (grow (redrawn W dk) osk).cell? ⟨w.heap.size, 3, none⟩ = some (.int .i64 d) := cell_regrown (kg.cell 3 rfl)
          have cg4 : ∀ dk osk, (grow (redrawn W dk) osk).cell? ⟨w.heap.size, 4, none⟩ = some (.int .i64 e) := cell_regrown (kg.cell 4 rfl)
          have cg5 : ∀ dk osk, (grow (redrawn W dk) osk).cell? ⟨w.heap.size, 5, none⟩ = some (.int .i64 f) := cell_regrown (kg.cell 5 rfl)
          have cg6 : ∀ dk osk, (grow (redrawn W dk) osk).cell? ⟨w.heap.size, 6, none⟩ = some (cs) := cell_regrown (kg.cell 6 rfl)
          have cm0 : ∀ dk osk, (grow (redrawn W dk) osk).cell? ⟨gm, 0, none⟩ = some (.int .i64 la) := cell_regrown (km.cell 0 rfl)
          have cm1 : ∀ dk osk, (grow (redrawn W dk) osk).cell? ⟨gm, 1, none⟩ = some (.int .i64 lb) := cell_regrown (km.cell 1 rfl)
          have cm2 : ∀ dk osk, (grow (redrawn W dk) osk).cell? ⟨gm, 2, none⟩ = some (.int .i64 lc) := cell_regrown (km.cell 2 rfl)
          have cm3 : ∀ dk osk, (grow (redrawn W dk) osk).cell? ⟨gm, 3, none⟩ = some (.int .i64 ld) := cell_regrown (km.cell 3 rfl)
          have cm4 : ∀ dk osk, (grow (redrawn W dk) osk).cell? ⟨gm, 4, none⟩ = some (.int .i64 le) := cell_regrown (km.cell 4 rfl)
          have cm5 : ∀ dk osk, (grow (redrawn W dk) osk).cell? ⟨gm, 5, none⟩ = some (.int .i64 lf) := cell_regrown (km.cell 5 rfl)
          have cp0 : ∀ dk osk, (grow (redrawn W dk) osk).cell? ⟨wr.heap.size, 0, none⟩ = some (.int .i64 la) := cell_regrown (kp.cell 0 rfl)
          have cp1 : ∀ dk osk, (grow (redrawn W dk) osk).cell? ⟨wr.heap.size, 1, none⟩ = some (.int .i64 y) := cell_regrown (kp.cell 1 rfl)
          have cp2 : ∀ dk osk, (grow (redrawn W dk) osk).cell? ⟨wr.heap.size, 2, none⟩ = some (.int .i64 z) := cell_regrown (kp.cell 2 rfl)
          have q0 := Bx.mk fun dk osk => Calls.regrown_of (hind.out y z (grow (redrawn W dk) osk))
          refine wp_region_headT_below 13 (by kernel_rfl) (by kernel_rfl) ?_
          simp only [List.take_succ_cons, List.take_zero, List.drop_succ_cons, List.drop_zero]
          repeat (first | go_big_quiet_step ((first | with_reducible exact q0.out _ _)) | quiet_step (first | with_reducible exact q0.out _ _))
          refine wpQuiet_nil ?_
          rintro _ ⟨⟨dq, osq⟩, rfl⟩
          have hb := below_regrown W dq osq
          replace hB := hB.trans (hb.mono hB.size)
          clear cg0 cg1 cg2 cg3 cg4 cg5 cg6
          clear cm0 cm1 cm2 cm3 cm4 cm5
          clear cp0 cp1 cp2
          clear q0
          replace kg := kg.later hb
          replace km := km.later hb
          replace kp := kp.later hb
          replace hSz := Nat.le_trans hSz hb.size
          clear hb
          generalize grow (redrawn W dq) osq = W1 at *
          go_wp2_with fail
          refine (Hc.out z y W1 z1 hz y1 hy (HI.out _ _ _ _ hJ'.out hB) (grown_below hG'.out hB)).mono ?_
          rintro e' w3 ⟨rfl, hJ, hb⟩
          replace kg := kg.grown hb (by omega)
          replace km := km.grown hb (by omega)
          have hG := grown_trans (grown_below hG'.out hB) hb
          have hJ' := Bx.mk hJ
          have Kg := Bx.mk kg
          have Km := Bx.mk km
          have HG := Bx.mk hG
          clear hJ hG kg km hb hG' hB kp
          have i2 := IntWalk.i64_in (y + 1) (by have := Hbd.out; omega)
          go_wp2_with fail
          go_roundw
          case rel => exact ⟨y + 1, by omega, by omega, rfl, Kg.out, Km.out, hJ'.out, HG.out⟩
          case measure => simp [intOf]; omega
        · obtain rfl : y = le := by omega
          have hN := HI.out _ _ _ _ (Hn.out z wr z1 hz hJ) (Below.refl _ _)
          have Kg := Bx.mk kg
          have Km := Bx.mk km
          have HN := Bx.mk hN
          have HG := Bx.mk hG
          clear hJ hG kg km hN
          have cm := Km.out
          have cm0 := cm.cell 0 rfl
          have cm1 := cm.cell 1 rfl
          have cm2 := cm.cell 2 rfl
          have cm3 := cm.cell 3 rfl
          have cm4 := cm.cell 4 rfl
          have cm5 := cm.cell 5 rfl
          clear cm
          have i2 := IntWalk.i64_in (z + 1) (by have := Hbd.out; omega)
          go_wp2_with fail
          go_roundw
          case rel => exact ⟨z + 1, by omega, by omega, rfl, Kg.out, Km.out, HN.out, HG.out⟩
          case measure => simp [intOf]; omega
    · obtain rfl : z = lf := by omega
      go_wp2_with fail
      go_end0
      exact ⟨rfl, hJ'.out, hG'.out⟩
end Go.Proofs.YtabclecmehdeoaaGreat
end
section
/- Grids as functions of points: pasting row by row. No program. -/
namespace Go.Proofs.YtabclecmehdeoaaGreat
open Go.Sort

theorem at_index {p : Pt} {b : Box} (h : inB p b = true) : atB b (indexB b p) = p := by
  have he := in_not_empty h
  have hb := indexB_bd h
  have h' := inB_iff.1 h
  unfold atB
  rw [if_pos hb]
  have hi : indexB b p = ((p.z - b.lo.z) * (b.hi.y - b.lo.y) + (p.y - b.lo.y)) * (b.hi.x - b.lo.x) + (p.x - b.lo.x) := by
    unfold indexB; rw [if_pos h, sizeB_full he]; rfl
  rw [hi, sizeB_full he]
  simp only [Pt.sub]
  obtain ⟨px, py, pz⟩ := p
  simp only at *
  have e1 : ∀ t sx dx : Int, 0 ≤ dx → dx < sx → (t * sx + dx) % sx = dx ∧ (t * sx + dx) / sx = t := by
    intro t sx dx h1 h2
    constructor
    · rw [Int.add_comm, Int.add_mul_emod_self_right, Int.emod_eq_of_lt h1 h2]
    · rw [Int.add_comm, Int.add_mul_ediv_right _ _ (by omega), Int.ediv_eq_zero_of_lt h1 h2]; omega
  have f1 := e1 ((pz - b.lo.z) * (b.hi.y - b.lo.y) + (py - b.lo.y)) (b.hi.x - b.lo.x) (px - b.lo.x) (by omega) (by omega)
  have f2 := e1 (pz - b.lo.z) (b.hi.y - b.lo.y) (py - b.lo.y) (by omega) (by omega)
  rw [f1.1, f1.2, f2.1, f2.2]
  simp; omega
theorem index_row {b : Box} {x y z j : Int} (h : inB ⟨x, y, z⟩ b = true) (h' : inB ⟨x + j, y, z⟩ b = true) : indexB b ⟨x + j, y, z⟩ = indexB b ⟨x, y, z⟩ + j := by
  unfold indexB
  rw [if_pos h, if_pos h']
  simp only; omega
theorem in_join {p : Pt} {a b : Box} : inB p (joinB a b) = true ↔ inB p a = true ∧ inB p b = true := by
  simp only [inB_iff, joinB]; omega
theorem in_meet {p : Pt} {a b : Box} (h : inB p a = true) (h' : inB p b = true) : inB p (meetB a b) = true ∧ meetB a b = joinB a b := by
  have hj := in_join.2 ⟨h, h'⟩
  have e : meetB a b = joinB a b := by
    unfold meetB
    rw [if_neg (by rw [in_not_empty hj]; decide)]
  exact ⟨by rw [e]; exact hj, e⟩
theorem meet_join {a b : Box} (h : emptyB (meetB a b) = false) : meetB a b = joinB a b := by
  unfold meetB at h ⊢
  split
  · rename_i he; rw [if_pos he] at h; exact absurd h (by decide)
  · rfl
/-- the cell of a grid at a point -/
def cellG (b : Box) (xs : List Int) (p : Pt) : Int := if inB p b = true then xs.getD (indexB b p).toNat 0 else 0
/-- the cells of a box, by a function -/
def cellsOf (b : Box) (f : Pt → Int) : List Int := (List.range (volB b).toNat).map fun i : Nat => f (atB b (i : Int))
theorem cellsOf_length (b : Box) (f : Pt → Int) : (cellsOf b f).length = (volB b).toNat := by simp [cellsOf]
theorem cellsOf_get {b : Box} {f : Pt → Int} {i : Nat} (h : i < (volB b).toNat) : (cellsOf b f)[i]? = some (f (atB b i)) := by
  unfold cellsOf
  rw [List.getElem?_map, List.getElem?_range h]; rfl
theorem at_nat {b : Box} {i : Nat} (h : i < (volB b).toNat) : inB (atB b i) b = true ∧ indexB b (atB b i) = i := atB_in (by omega) (by omega)
theorem cellG_cellsOf {b : Box} {f : Pt → Int} {p : Pt} (h : inB p b = true) : cellG b (cellsOf b f) p = f p := by
  have hb := indexB_bd h
  unfold cellG
  rw [if_pos h, List.getD_eq_getElem?_getD, cellsOf_get (by omega), Int.toNat_of_nonneg hb.1, at_index h]; rfl
theorem cellsOf_cellG {b : Box} {xs : List Int} (h : xs.length = (volB b).toNat) : cellsOf b (cellG b xs) = xs := by
  apply List.ext_getElem?
  intro i
  by_cases hi : i < (volB b).toNat
  · rw [cellsOf_get hi]
    obtain ⟨h1, h2⟩ := at_nat hi
    unfold cellG
    rw [if_pos h1, h2, Int.toNat_natCast, List.getD_eq_getElem?_getD, List.getElem?_eq_getElem (by omega)]; rfl
  · rw [List.getElem?_eq_none (by rw [cellsOf_length]; omega), List.getElem?_eq_none (by omega)]
theorem cellsOf_congr {b : Box} {f g : Pt → Int} (h : ∀ p, inB p b = true → f p = g p) : cellsOf b f = cellsOf b g := by
  unfold cellsOf
  apply List.map_congr_left
  intro i hi
  exact h _ (at_nat (List.mem_range.1 hi)).1
theorem cellsOf_inj {b : Box} {f g : Pt → Int} (h : cellsOf b f = cellsOf b g) {p : Pt} (hp : inB p b = true) : f p = g p := by
  rw [← cellG_cellsOf (f := f) hp, ← cellG_cellsOf (f := g) hp, h]
/-- a grid pasted over a grid -/
def pasteL (A B : Box) (xs ys : List Int) : List Int := cellsOf A fun p => if inB p B = true then cellG B ys p else cellG A xs p
/-- .. as far as the rows ahead of (z, y) -/
def partL (A B : Box) (xs ys : List Int) (z y : Int) : List Int := cellsOf A fun p => if inB p B = true ∧ (p.z < z ∨ (p.z = z ∧ p.y < y)) then cellG B ys p else cellG A xs p
theorem partL_start {A B : Box} {xs ys : List Int} (h : xs.length = (volB A).toNat) : partL A B xs ys (meetB A B).lo.z (meetB A B).lo.y = xs := by
  refine Eq.trans (cellsOf_congr fun p hp => ?_) (cellsOf_cellG h)
  refine if_neg fun ⟨h1, h2⟩ => ?_
  have := inB_iff.1 (in_meet hp h1).1
  omega
theorem partL_end {A B : Box} {xs ys : List Int} : partL A B xs ys (meetB A B).hi.z (meetB A B).lo.y = pasteL A B xs ys := by
  refine cellsOf_congr fun p hp => ?_
  by_cases h1 : inB p B = true
  · have := inB_iff.1 (in_meet hp h1).1
    rw [if_pos h1, if_pos ⟨h1, by omega⟩]
  · rw [if_neg h1, if_neg (fun h => h1 h.1)]
theorem partL_next {A B : Box} {xs ys : List Int} {z : Int} : partL A B xs ys z (meetB A B).hi.y = partL A B xs ys (z + 1) (meetB A B).lo.y := by
  refine cellsOf_congr fun p hp => ?_
  by_cases h1 : inB p B = true
  · have := inB_iff.1 (in_meet hp h1).1
    have e : (p.z < z ∨ p.z = z ∧ p.y < (meetB A B).hi.y) ↔ (p.z < z + 1 ∨ p.z = z + 1 ∧ p.y < (meetB A B).lo.y) := by omega
    simp only [e]
  · rw [if_neg (fun h => h1 h.1), if_neg (fun h => h1 h.1)]
/-- a row lies in both grids -/
theorem row_in {A B : Box} {la lb lc ld le lf z y : Int} (hM : meetB A B = ⟨⟨la, lb, lc⟩, ⟨ld, le, lf⟩⟩) (hz : lc ≤ z ∧ z < lf) (hy : lb ≤ y ∧ y < le) : la < ld ∧ ∀ j, 0 ≤ j → j < ld - la → inB ⟨la + j, y, z⟩ A = true ∧ inB ⟨la + j, y, z⟩ B = true := by
  have hlt : la < ld := by
    unfold meetB at hM
    split at hM
    · simp [Box.zero, Pt.zero] at hM; omega
    · rename_i he
      have := emptyB_iff.1 (by simpa using he)
      rw [hM] at this
      exact this.1
  refine ⟨hlt, fun j h1 h2 => ?_⟩
  have hne : emptyB (meetB A B) = false := by rw [hM, emptyB_iff]; simp only; omega
  rw [meet_join hne] at hM
  refine in_join.1 ?_
  rw [hM, inB_iff]
  simp only; omega
theorem partL_row {A B : Box} {xs ys : List Int} {la lb lc ld le lf z y : Int} {k from_ n : Nat} (hM : meetB A B = ⟨⟨la, lb, lc⟩, ⟨ld, le, lf⟩⟩) (hz : lc ≤ z ∧ z < lf) (hy : lb ≤ y ∧ y < le)
    (hk : indexB A ⟨la, y, z⟩ = (k : Int)) (hf : indexB B ⟨la, y, z⟩ = (from_ : Int)) (hn : ld - la = (n : Int)) (hyl : ys.length = (volB B).toNat) :
    1 ≤ n ∧ from_ + n ≤ ys.length ∧ k + n ≤ (volB A).toNat ∧ over (partL A B xs ys z y) k ((ys.drop from_).take n) = partL A B xs ys z (y + 1) := by
  obtain ⟨hlt, hrow⟩ := row_in hM hz hy
  have hr0 := hrow 0 (by omega) (by omega)
  rw [Int.add_zero] at hr0
  have ka : ∀ j, 0 ≤ j → j < (n : Int) → indexB A ⟨la + j, y, z⟩ = (k : Int) + j := fun j h1 h2 => by
    rw [index_row hr0.1 (hrow j h1 (by omega)).1, hk]
  have kb : ∀ j, 0 ≤ j → j < (n : Int) → indexB B ⟨la + j, y, z⟩ = (from_ : Int) + j := fun j h1 h2 => by
    rw [index_row hr0.2 (hrow j h1 (by omega)).2, hf]
  have e1 := indexB_bd (hrow ((n : Int) - 1) (by omega) (by omega)).1
  have e2 := indexB_bd (hrow ((n : Int) - 1) (by omega) (by omega)).2
  rw [ka _ (by omega) (by omega)] at e1
  rw [kb _ (by omega) (by omega)] at e2
  have hfn : from_ + n ≤ ys.length := by omega
  have hkn : k + n ≤ (volB A).toNat := by omega
  refine ⟨by omega, hfn, hkn, ?_⟩
  have hcl : ((ys.drop from_).take n).length = n := by simp only [List.length_take, List.length_drop]; omega
  have hpl : (partL A B xs ys z y).length = (volB A).toNat := cellsOf_length _ _
  apply List.ext_getElem?
  intro i
  by_cases hi : i < (volB A).toNat
  · obtain ⟨a1, a2⟩ := at_nat hi
    have hrhs : (partL A B xs ys z (y + 1))[i]? = _ := cellsOf_get hi
    have hlhs : (partL A B xs ys z y)[i]? = _ := cellsOf_get hi
    rw [hrhs]
    unfold over splice
    by_cases hin : k ≤ i ∧ i < k + n
    · -- in the row
      have hp : atB A i = ⟨la + ((i : Int) - k), y, z⟩ := by
        have := at_index (hrow ((i : Int) - k) (by omega) (by omega)).1
        rw [ka _ (by omega) (by omega)] at this
        rw [show (k : Int) + ((i : Int) - k) = i by omega] at this
        exact this
      have hB := (hrow ((i : Int) - k) (by omega) (by omega)).2
      rw [hp, if_pos ⟨hB, Or.inr ⟨rfl, show y < y + 1 by omega⟩⟩]
      unfold cellG
      rw [if_pos hB, kb _ (by omega) (by omega)]
      have hmin : (List.take k (partL A B xs ys z y)).length = k := by rw [List.length_take]; omega
      have hik : i - k < ((ys.drop from_).take n).length := by omega
      rw [List.getElem?_append_right (by omega), hmin, List.getElem?_append_left hik, List.getElem?_take, if_pos (by omega), List.getElem?_drop]
      rw [show from_ + (i - k) = ((from_ : Int) + ((i : Int) - k)).toNat by omega, List.getD_eq_getElem?_getD, List.getElem?_eq_getElem (by omega)]
      rfl
    · have hl : (List.take k (partL A B xs ys z y) ++ (List.take n (List.drop from_ ys) ++ List.drop (k + (List.take n (List.drop from_ ys)).length) (partL A B xs ys z y)))[i]? = (partL A B xs ys z y)[i]? := by
        rw [hcl]
        by_cases hik : i < k
        · rw [List.getElem?_append_left (by rw [List.length_take]; omega), List.getElem?_take, if_pos hik]
        · rw [List.getElem?_append_right (by rw [List.length_take]; omega), List.length_take, List.getElem?_append_right (by omega), List.getElem?_drop, hcl]
          congr 1; omega
      rw [hl, hlhs]
      congr 1
      by_cases hB : inB (atB A i) B = true
      · have hm := inB_iff.1 (in_meet a1 hB).1
        rw [hM] at hm
        simp only at hm
        have hno : ¬((atB A i).z = z ∧ (atB A i).y = y) := by
          rintro ⟨h1, h2⟩
          have hp : atB A i = ⟨la + ((atB A i).x - la), y, z⟩ := by
            rw [← h1, ← h2, show la + ((atB A i).x - la) = (atB A i).x by omega]
          have := ka ((atB A i).x - la) (by omega) (by omega)
          rw [← hp, a2] at this
          omega
        have e : ((atB A i).z < z ∨ (atB A i).z = z ∧ (atB A i).y < y) ↔ ((atB A i).z < z ∨ (atB A i).z = z ∧ (atB A i).y < y + 1) := by omega
        simp only [e]
      · rw [if_neg (fun h => hB h.1), if_neg (fun h => hB h.1)]
  · rw [List.getElem?_eq_none (by rw [over_length (by omega)]; omega), List.getElem?_eq_none (by rw [show (partL A B xs ys z (y + 1)).length = _ from cellsOf_length _ _]; omega)]
end Go.Proofs.YtabclecmehdeoaaGreat
end
