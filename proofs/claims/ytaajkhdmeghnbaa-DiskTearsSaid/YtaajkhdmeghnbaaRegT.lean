/- A region that draws its order, where the tail waits for the head through other operations. -/
import Derived.Test.YtaajkhdmeghnbaaReg
namespace Go.Proofs.Ytaajkhdmeghnbaa
open Go.Sort Go.RowKit

/-- each operation of the head is waited for by the first one behind it, or by a later one of the head -/
def tailT (md : Region.Mode) (l : List Oper) (n : Nat) : Bool :=
  ((List.range n).all fun k => Region.waitsFor md l.toArray n k || (List.range n).any fun m => decide (k < m) && Region.waitsFor md l.toArray m k) && (List.range l.length).all fun t => decide (t ≤ n) || Region.waitsFor md l.toArray t (t - 1)
def headT (l : List Oper) (n : Nat) : Bool :=
  decide (n < l.length) && backB .any l n && tailT .any l n && Region.lexB .any (l.take n).toArray && Region.seqB .any l.toArray (l.length - n) n (Array.replicate n true ++ Array.replicate (l.length - n) false)
section
variable {P : Program} {md : Region.Mode} {l : List Oper} {n : Nat} {C : World → Prop}
/-- what is listed has all that it waits for listed -/
def Shut (md : Region.Mode) (l : List Oper) (s : Array Bool) : Prop := ∀ m k, s.getD m false = true → Region.waitsFor md l.toArray m k = true → s.getD k false = true
theorem not_first {s : Array Bool} (hs : s.size = n) {g : Nat} (hsh : Shut md l s) (ht : tailT md l n = true) (h : n ∈ Region.ready md l.toArray (s ++ Array.replicate g false)) : ∀ (d k : Nat), n - k ≤ d → k < n → s.getD k false = false → False
  | 0, k, h1, h2, _ => by omega
  | d + 1, k, hd, hk, hun => by
    obtain ⟨h1, o, ho, h2⟩ := mem_ready.1 h
    have ht' := ht
    simp only [tailT, Bool.and_eq_true] at ht'
    have h3 := List.all_eq_true.1 ht'.1 k (List.mem_range.2 hk)
    simp only [Bool.or_eq_true] at h3
    rcases h3 with h3 | h3
    · obtain ⟨o', ho', e, he, hbi, hon⟩ := Region.waitsFor_spec h3
      obtain rfl : o' = o := Option.some.inj (ho'.symm.trans ho)
      have := h2 e he hbi
      rw [hon, app_get hs hk, hun] at this
      cases this
    · obtain ⟨m, hm, h4⟩ := List.any_eq_true.1 h3
      simp only [Bool.and_eq_true, decide_eq_true_eq] at h4
      have hmn := List.mem_range.1 hm
      refine not_first hs hsh ht h d m (by omega) hmn ?_
      cases hx : s.getD m false with
      | false => rfl
      | true => have := hsh m k hx h4.2; rw [hun] at this; cases this
theorem ready_not_tailT {s : Array Bool} (hs : s.size = n) (hsh : Shut md l s) {g i k : Nat} (hk : k < n) (hun : s.getD k false = false) (ht : tailT md l n = true) (h : i ∈ Region.ready md l.toArray (s ++ Array.replicate g false)) : i < n := by
  obtain ⟨h1, o, ho, h2⟩ := mem_ready.1 h
  rcases Nat.lt_or_ge i n with hlt | hge
  · exact hlt
  · exfalso
    have hil : i < l.length := by have := (Array.getElem?_eq_some_iff.1 ho).1; simpa using this
    by_cases hin : i = n
    · subst hin
      exact not_first hs hsh ht h (i - k) k (Nat.le_refl _) hk hun
    · have ht' := ht
      simp only [tailT, Bool.and_eq_true] at ht'
      have h3 := List.all_eq_true.1 ht'.2 i (List.mem_range.2 hil)
      simp only [Bool.or_eq_true, decide_eq_true_eq] at h3
      rcases h3 with h3 | h3
      · omega
      · obtain ⟨o', ho', e, he, hbi, hon⟩ := Region.waitsFor_spec h3
        obtain rfl : o' = o := Option.some.inj (ho'.symm.trans ho)
        have := h2 e he hbi
        rw [hon, app_tail hs (by omega)] at this
        cases this
theorem shut_set {s : Array Bool} {i : Nat} (hsh : Shut md l s) (hi : i ∈ Region.ready md (l.take n).toArray s) (hin : i < n) : Shut md l (s.setIfInBounds i true) := by
  intro m k hm hw
  have keep : ∀ j, s.getD j false = true → (s.setIfInBounds i true).getD j false = true := by
    intro j hj
    simp only [Array.getD_eq_getD_getElem?, Array.getElem?_setIfInBounds] at hj ⊢
    split
    · split
      · rfl
      · rename_i h; rw [Array.getElem?_eq_none (by omega)] at hj; exact hj
    · exact hj
  by_cases e : i = m
  · subst e
    obtain ⟨_, o, ho, h2⟩ := mem_ready.1 hi
    obtain ⟨o', ho', e, he, hbi, hon⟩ := Region.waitsFor_spec hw
    rw [take_get hin] at ho
    obtain rfl : o' = o := Option.some.inj (ho'.symm.trans ho)
    exact keep k (hon ▸ h2 e he hbi)
  · refine keep k (hsh m k ?_ hw)
    simpa [Array.getD_eq_getD_getElem?, Array.getElem?_setIfInBounds, e] using hm
theorem wpAny_of_headT {Qa : Act → Prop} {Q : Exit → Act → World → Prop} {g : Nat} (hn : n ≤ l.length) (hb : backB md l n = true) (ht : tailT md l n = true)
    (hend : ∀ a w, C w → Qa a → wpAny P md l.toArray Q g (Array.replicate n true ++ Array.replicate g false) a w) :
    ∀ (f : Nat) (s : Array Bool) (a : Act) (w : World), s.size = n → Shut md l s → unl s = f → C w → wpAnyQ P md (l.take n).toArray C Qa f s a →
      wpAny P md l.toArray Q (f + g) (s ++ Array.replicate g false) a w
  | 0, s, a, w, hs, _, hu, hw, h => by
    rw [Nat.zero_add, unl_zero hu, hs]
    exact hend a w hw h.2
  | f + 1, s, a, w, hs, hsh, hu, hw, h => by
    obtain ⟨k, hk, hun⟩ := unl_pos (s := s) (by omega)
    rw [show f + 1 + g = (f + g) + 1 by omega]
    refine ⟨fun h0 => ?_, fun i hi => ?_⟩
    · obtain ⟨i, hi⟩ := ready_some (g := g) hs hn hb (k + 1) k (by omega) (by omega) hun
      rw [h0] at hi; cases hi
    · have hin := ready_not_tailT hs hsh (by omega : k < n) hun ht hi
      have hr := ready_head hs hin hb hi
      have hq := h.2 i hr
      obtain ⟨hiu, o, ho, _⟩ := mem_ready.1 hr
      have ho' : l.toArray[i]? = some o := by rw [← take_get hin]; exact ho
      have step : ∀ a' w', C w' → wpAnyQ P md (l.take n).toArray C Qa f (s.setIfInBounds i true) a' → wpAny P md l.toArray Q (f + g) ((s ++ Array.replicate g false).setIfInBounds i true) a' w' := by
        intro a' w' hw' h'
        rw [app_set (by omega)]
        refine wpAny_of_headT hn hb ht hend f _ a' w' (by simpa using hs) (shut_set hsh hr hin) ?_ hw' h'
        have := unl_set (s := s) (by omega) hiu
        omega
      have hq' : qOp P l.toArray C i (wpAnyQ P md (l.take n).toArray C Qa f (s.setIfInBounds i true)) a := by
        unfold qOp at hq ⊢
        simp only [ho] at hq
        simp only [ho']
        rwa [wanted_head hb hin ho'] at hq
      exact wpOp_of_qOp hw step hq'
theorem wp_region_headT {id : Nat} {Q : Exit → Act → World → Prop} {a : Act} {w : World} (n : Nat) (hm : P.follows .mixedOrders = true) (hB : headT l n = true) (hC : C { w with drawn := w.drawn + 1 })
    (h : wpQuiet P (l.take n).toArray C (fun a' => ∀ w', C w' → wpList P l.toArray Q (l.drop n) a' w') (l.take n) a) : (Code.region id l.toArray true).wp P Q a w := by
  simp only [headT, Bool.and_eq_true, decide_eq_true_eq] at hB
  obtain ⟨⟨⟨⟨hn, hb⟩, ht⟩, hlex⟩, hseq⟩ := hB
  simp only [Region.lexB, Bool.and_eq_true] at hlex
  refine wp_region_any hm ?_
  have hsz : (l.take n).toArray.size = n := by simp; omega
  have hq := wpAnyQ_lex (P := P) (C := C) (md := .any) hlex.1 (l.take n) 0 (Array.replicate n false) a (by simp) (by have := hlex.2; rw [hsz] at this; simpa [show (l.take n).length = n by simp; omega] using this) h
  rw [show (l.take n).length = n by simp; omega] at hq
  have := wpAny_of_headT (g := l.length - n) (Q := Q) (md := .any) (by omega) hb ht (fun a w hw hQa => by
    have := wpAny_of_seq (P := P) (md := .any) (ops := l.toArray) (Q' := Q) (l.drop n) n (Array.replicate n true ++ Array.replicate (l.length - n) false) a w (fun j => by simp [List.getElem?_drop]) (by simpa using hseq) (hQa w hw)
    simpa using this) n (Array.replicate n false) a _ (by simp) (fun m k h => by
      simp only [Array.getD_eq_getD_getElem?, Array.getElem?_replicate] at h
      split at h <;> simp at h) (by simp [unl]) hC hq
  have e : Array.replicate n false ++ Array.replicate (l.length - n) false = Array.replicate l.toArray.size false := by
    rw [Array.replicate_append_replicate]; congr 1; simp; omega
  rw [e, show n + (l.length - n) = l.toArray.size by simp; omega] at this
  exact this
theorem wp_region_headT_below {id : Nat} {Q : Exit → Act → World → Prop} {a : Act} {w : World} (n : Nat) (hm : P.follows .mixedOrders = true) (hB : headT l n = true)
    (h : wpQuiet P (l.take n).toArray (fun w' => ∃ p : Regrown, w' = grow (redrawn w p.d) p.os) (fun a' => ∀ w', (∃ p : Regrown, w' = grow (redrawn w p.d) p.os) → wpList P l.toArray Q (l.drop n) a' w') (l.take n) a) :
    (Code.region id l.toArray true).wp P Q a w :=
  wp_region_headT (C := fun w' => ∃ p : Regrown, w' = grow (redrawn w p.d) p.os) n hm hB ⟨⟨w.drawn + 1, #[]⟩, by rw [grow_empty]; rfl⟩ h
end
end Go.Proofs.Ytaajkhdmeghnbaa
