/- A region that draws its order: its reads and calls in any order, then what ends it. -/
import Derived.Test.YtaajkhdmeghnbaaProg
import Derived.WalkKit
import Derived.Lib.QuietBelow
import Derived.StillTail
import Derived.BigQuiet
namespace Go.Proofs.Ytaajkhdmeghnbaa
open Go.Sort Go.RowKit

/-- operation j of the head leans on earlier ones alone -/
def backB (md : Region.Mode) (l : List Oper) (n : Nat) : Bool :=
  (List.range n).all fun j => match l[j]? with
    | some o => (o.after.all fun e => !Region.binds md e || decide (e.on < j)) && (match o.guard with | some g => decide (g.1 < j) | none => true)
    | none => false
/-- the first operation behind the head waits for the whole head, each later one for the one ahead of it -/
def tailB (md : Region.Mode) (l : List Oper) (n : Nat) : Bool :=
  ((List.range n).all fun i => Region.waitsFor md l.toArray n i) && (List.range l.length).all fun t => decide (t ≤ n) || Region.waitsFor md l.toArray t (t - 1)
def headB (l : List Oper) (n : Nat) : Bool :=
  decide (n < l.length) && backB .any l n && tailB .any l n && Region.lexB .any (l.take n).toArray && Region.seqB .any l.toArray (l.length - n) n (Array.replicate n true ++ Array.replicate (l.length - n) false)

section
variable {P : Program} {md : Region.Mode} {l : List Oper} {n : Nat} {C : World → Prop}

theorem take_get {j : Nat} (hj : j < n) : (l.take n).toArray[j]? = l.toArray[j]? := by simp [hj]
theorem app_get {s : Array Bool} (hs : s.size = n) {g j : Nat} (hj : j < n) (d : Bool) : (s ++ Array.replicate g false).getD j d = s.getD j d := by
  have h1 : j < s.size := by omega
  simp [Array.getD_eq_getD_getElem?, Array.getElem?_append, h1]
theorem app_tail {s : Array Bool} (hs : s.size = n) {g j : Nat} (hj : n ≤ j) : (s ++ Array.replicate g false).getD j false = false := by
  have h1 : ¬ j < s.size := by omega
  simp only [Array.getD_eq_getD_getElem?, Array.getElem?_append, h1, if_false, Array.getElem?_replicate]
  split <;> rfl
theorem back_of {j : Nat} {o : Oper} (hb : backB md l n = true) (hj : j < n) (ho : l.toArray[j]? = some o) :
    (∀ e ∈ o.after, Region.binds md e = true → e.on < j) ∧ ∀ g, o.guard = some g → g.1 < j := by
  have h := List.all_eq_true.1 hb j (List.mem_range.2 hj)
  have ho' : l[j]? = some o := by simpa using ho
  simp only [ho', Bool.and_eq_true, Array.all_eq_true'] at h
  refine ⟨fun e he hbi => ?_, fun g hg => ?_⟩
  · have := h.1 e he
    simpa [hbi] using this
  · have := h.2
    rw [hg] at this
    simpa using this
theorem ready_head {s : Array Bool} (hs : s.size = n) {g i : Nat} (hi : i < n) (hb : backB md l n = true) (h : i ∈ Region.ready md l.toArray (s ++ Array.replicate g false)) : i ∈ Region.ready md (l.take n).toArray s := by
  obtain ⟨h1, o, ho, h2⟩ := mem_ready.1 h
  rw [app_get hs hi] at h1
  refine mem_ready.2 ⟨h1, o, by rw [take_get hi]; exact ho, fun e he hbi => ?_⟩
  have h3 := (back_of hb hi ho).1 e he hbi
  have := h2 e he hbi
  rwa [app_get hs (by omega)] at this
theorem ready_not_tail {s : Array Bool} (hs : s.size = n) {g i k : Nat} (hk : k < n) (hun : s.getD k false = false) (ht : tailB md l n = true) (h : i ∈ Region.ready md l.toArray (s ++ Array.replicate g false)) : i < n := by
  obtain ⟨h1, o, ho, h2⟩ := mem_ready.1 h
  rcases Nat.lt_or_ge i n with hlt | hge
  · exact hlt
  · exfalso
    have hil : i < l.length := by have := (Array.getElem?_eq_some_iff.1 ho).1; simpa using this
    simp only [tailB, Bool.and_eq_true] at ht
    by_cases hin : i = n
    · subst hin
      have h3 := List.all_eq_true.1 ht.1 k (List.mem_range.2 hk)
      obtain ⟨o', ho', e, he, hbi, hon⟩ := Region.waitsFor_spec h3
      obtain rfl : o' = o := Option.some.inj (ho'.symm.trans ho)
      have := h2 e he hbi
      rw [hon, app_get hs hk, hun] at this
      cases this
    · have h3 := List.all_eq_true.1 ht.2 i (List.mem_range.2 hil)
      simp only [Bool.or_eq_true, decide_eq_true_eq] at h3
      rcases h3 with h3 | h3
      · omega
      · obtain ⟨o', ho', e, he, hbi, hon⟩ := Region.waitsFor_spec h3
        obtain rfl : o' = o := Option.some.inj (ho'.symm.trans ho)
        have := h2 e he hbi
        rw [hon, app_tail hs (by omega)] at this
        cases this
/-- something of the head may come up as long as not all has -/
theorem ready_some {s : Array Bool} (hs : s.size = n) (hn : n ≤ l.length) {g : Nat} (hb : backB md l n = true) : ∀ (d k : Nat), k < d → k < n → s.getD k false = false → ∃ i, i ∈ Region.ready md l.toArray (s ++ Array.replicate g false)
  | 0, _, h, _, _ => by omega
  | d + 1, k, hd, hk, hun => by
    obtain ⟨o, ho⟩ : ∃ o, l.toArray[k]? = some o := ⟨_, Array.getElem?_eq_getElem (by simp; omega)⟩
    by_cases hall : ∀ e ∈ o.after, Region.binds md e = true → s.getD e.on false = true
    · refine ⟨k, mem_ready.2 ⟨?_, o, ho, fun e he hbi => ?_⟩⟩
      · rw [app_get hs hk]; exact getD_in (by omega) hun
      · have := (back_of hb hk ho).1 e he hbi
        rw [app_get hs (by omega)]; exact hall e he hbi
    · have ⟨e, he, hbi, hne⟩ : ∃ e, e ∈ o.after ∧ Region.binds md e = true ∧ s.getD e.on false = false := by
        refine Classical.byContradiction fun hno => hall fun e he hbi => ?_
        cases hx : s.getD e.on false with
        | true => rfl
        | false => exact absurd ⟨e, he, hbi, hx⟩ hno
      have := (back_of hb hk ho).1 e he hbi
      exact ready_some hs hn hb d e.on (by omega) (by omega) hne
theorem wanted_head {j : Nat} {o : Oper} {tmps : Array Value} (hb : backB md l n = true) (hj : j < n) (ho : l.toArray[j]? = some o) :
    Region.wanted o (yielded (l.take n).toArray tmps) = Region.wanted o (yielded l.toArray tmps) := by
  have hg := (back_of hb hj ho).2
  unfold Region.wanted
  cases hgd : o.guard with
  | none => rfl
  | some g =>
    have := hg g hgd
    have hy : yielded (l.take n).toArray tmps g.1 = yielded l.toArray tmps g.1 := by unfold yielded; rw [take_get (by omega)]
    obtain ⟨g1, g2⟩ := g
    simp only at hy ⊢
    rw [hy]
/-- how many are still to come -/
def unl (s : Array Bool) : Nat := s.toList.count false
theorem unl_set {s : Array Bool} {i : Nat} (hi : i < s.size) (h : s.getD i true = false) : unl (s.setIfInBounds i true) + 1 = unl s := by
  unfold unl
  have hx : s[i] = false := by simpa [hi] using h
  have hmem : false ∈ s.toList := by rw [← hx]; exact Array.getElem_mem_toList hi
  have hpos := List.count_pos_iff.2 hmem
  rw [Array.toList_setIfInBounds, List.count_set (by simpa using hi), Array.getElem_toList, hx]
  simp only [beq_self_eq_true, if_true]
  rw [if_neg (by decide)]
  omega
theorem unl_zero {s : Array Bool} (h : unl s = 0) : s = Array.replicate s.size true := by
  apply Array.ext
  · simp
  · intro i h1 h2
    simp only [Array.getElem_replicate]
    cases hx : s[i] with
    | true => rfl
    | false =>
      have : false ∈ s.toList := by rw [← hx]; exact Array.getElem_mem_toList h1
      have := List.count_pos_iff.2 this
      unfold unl at h; omega
theorem unl_pos {s : Array Bool} (h : 0 < unl s) : ∃ k, k < s.size ∧ s.getD k false = false := by
  have := List.count_pos_iff.1 h
  obtain ⟨k, hk, hx⟩ := List.getElem_of_mem this
  refine ⟨k, by simpa using hk, ?_⟩
  have hk' : k < s.size := by simpa using hk
  have : s[k] = false := by simpa using hx
  simp [hk', this]
theorem app_set {s : Array Bool} {g i : Nat} (hi : i < s.size) : (s ++ Array.replicate g false).setIfInBounds i true = s.setIfInBounds i true ++ Array.replicate g false := by
  apply Array.ext_getElem?
  intro j
  simp only [Array.getElem?_setIfInBounds, Array.getElem?_append, Array.size_setIfInBounds, Array.size_append, Array.size_replicate]
  by_cases e : i = j
  · subst e; simp [hi]; omega
  · simp [e]
theorem wpAny_of_headQ {Qa : Act → Prop} {Q : Exit → Act → World → Prop} {g : Nat} (hn : n ≤ l.length) (hb : backB md l n = true) (ht : tailB md l n = true)
    (hend : ∀ a w, C w → Qa a → wpAny P md l.toArray Q g (Array.replicate n true ++ Array.replicate g false) a w) :
    ∀ (f : Nat) (s : Array Bool) (a : Act) (w : World), s.size = n → unl s = f → C w → wpAnyQ P md (l.take n).toArray C Qa f s a →
      wpAny P md l.toArray Q (f + g) (s ++ Array.replicate g false) a w
  | 0, s, a, w, hs, hu, hw, h => by
    rw [Nat.zero_add, unl_zero hu, hs]
    exact hend a w hw h.2
  | f + 1, s, a, w, hs, hu, hw, h => by
    obtain ⟨k, hk, hun⟩ := unl_pos (s := s) (by omega)
    rw [show f + 1 + g = (f + g) + 1 by omega]
    refine ⟨fun h0 => ?_, fun i hi => ?_⟩
    · obtain ⟨i, hi⟩ := ready_some (g := g) hs hn hb (k + 1) k (by omega) (by omega) hun
      rw [h0] at hi; cases hi
    · have hin := ready_not_tail hs (by omega : k < n) hun ht hi
      have hr := ready_head hs hin hb hi
      have hq := h.2 i hr
      obtain ⟨hiu, o, ho, _⟩ := mem_ready.1 hr
      have ho' : l.toArray[i]? = some o := by rw [← take_get hin]; exact ho
      have step : ∀ a' w', C w' → wpAnyQ P md (l.take n).toArray C Qa f (s.setIfInBounds i true) a' → wpAny P md l.toArray Q (f + g) ((s ++ Array.replicate g false).setIfInBounds i true) a' w' := by
        intro a' w' hw' h'
        rw [app_set (by omega)]
        refine wpAny_of_headQ hn hb ht hend f _ a' w' (by simpa using hs) ?_ hw' h'
        have := unl_set (s := s) (by omega) hiu
        omega
      have hq' : qOp P l.toArray C i (wpAnyQ P md (l.take n).toArray C Qa f (s.setIfInBounds i true)) a := by
        unfold qOp at hq ⊢
        simp only [ho] at hq
        simp only [ho']
        rwa [wanted_head hb hin ho'] at hq
      exact wpOp_of_qOp hw step hq'
/-- **The reads and calls of the head in any order, each of which leaves a world of the class; then the tail.** -/
theorem wp_region_head {id : Nat} {Q : Exit → Act → World → Prop} {a : Act} {w : World} (n : Nat) (hm : P.follows .mixedOrders = true) (hB : headB l n = true) (hC : C { w with drawn := w.drawn + 1 })
    (h : wpQuiet P (l.take n).toArray C (fun a' => ∀ w', C w' → wpList P l.toArray Q (l.drop n) a' w') (l.take n) a) : (Code.region id l.toArray true).wp P Q a w := by
  simp only [headB, Bool.and_eq_true, decide_eq_true_eq] at hB
  obtain ⟨⟨⟨⟨hn, hb⟩, ht⟩, hlex⟩, hseq⟩ := hB
  simp only [Region.lexB, Bool.and_eq_true] at hlex
  refine wp_region_any hm ?_
  have hsz : (l.take n).toArray.size = n := by simp; omega
  have hq := wpAnyQ_lex (P := P) (C := C) (md := .any) hlex.1 (l.take n) 0 (Array.replicate n false) a (by simp) (by have := hlex.2; rw [hsz] at this; simpa [show (l.take n).length = n by simp; omega] using this) h
  rw [show (l.take n).length = n by simp; omega] at hq
  have := wpAny_of_headQ (g := l.length - n) (Q := Q) (md := .any) (by omega) hb ht (fun a w hw hQa => by
    have := wpAny_of_seq (P := P) (md := .any) (ops := l.toArray) (Q' := Q) (l.drop n) n (Array.replicate n true ++ Array.replicate (l.length - n) false) a w (fun j => by simp [List.getElem?_drop]) (by simpa using hseq) (hQa w hw)
    simpa using this) n (Array.replicate n false) a _ (by simp) (by simp [unl]) hC hq
  have e : Array.replicate n false ++ Array.replicate (l.length - n) false = Array.replicate l.toArray.size false := by
    rw [Array.replicate_append_replicate]; congr 1; simp; omega
  rw [e, show n + (l.length - n) = l.toArray.size by simp; omega] at this
  exact this
/-- the same, where the calls of the head make new memory -/
theorem wp_region_head_below {id : Nat} {Q : Exit → Act → World → Prop} {a : Act} {w : World} (n : Nat) (hm : P.follows .mixedOrders = true) (hB : headB l n = true)
    (h : wpQuiet P (l.take n).toArray (fun w' => ∃ p : Regrown, w' = grow (redrawn w p.d) p.os) (fun a' => ∀ w', (∃ p : Regrown, w' = grow (redrawn w p.d) p.os) → wpList P l.toArray Q (l.drop n) a' w') (l.take n) a) :
    (Code.region id l.toArray true).wp P Q a w :=
  wp_region_head (C := fun w' => ∃ p : Regrown, w' = grow (redrawn w p.d) p.os) n hm hB ⟨⟨w.drawn + 1, #[]⟩, by rw [grow_empty]; rfl⟩ h
end
end Go.Proofs.Ytaajkhdmeghnbaa
