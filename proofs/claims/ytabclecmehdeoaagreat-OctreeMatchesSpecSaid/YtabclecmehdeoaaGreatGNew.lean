import Derived.Test.YtabclecmehdeoaaGreatGGrdB
import Derived.Deep.RegionLaw
import Derived.Laws.CopyOwn
import Derived.Laws.BitsAllLaws
import Derived.Test.YtabclecmehdeoaaGreatGPnt
section
/- slices.Repeat of one material. -/
namespace Go.Proofs.YtabclecmehdeoaaGreat
open Go.RowKit Go.Sort

theorem mul64_one (n : Nat) (hn : n ≤ 4194304) (w : World) :
    Calls Tryz.prog 103 #[.int .u64 1, .int .u64 (n : Int)] w fun e w' => e = .returned (.tuple #[.int .u64 0, .int .u64 (n : Int)]) ∧ w = w' := by
  have b1 : bits .and .u64 1 4294967295 = 1 := by decide
  have b0 : bits .and .u64 0 4294967295 = 0 := by decide
  have bn : bits .and .u64 (n : Int) 4294967295 = (n : Int) := by
    have h := u64_and_nat n 4294967295 (by omega) (by decide)
    have h2 : n &&& 4294967295 = n := by
      have := Nat.and_two_pow_sub_one_eq_mod n 32
      rw [show 2 ^ 32 - 1 = 4294967295 by decide] at this
      rw [this]; exact Nat.mod_eq_of_lt (by omega)
    rw [h2] at h; exact h
  have d1 : (n : Int) / 4294967296 = 0 := by omega
  have k1 : (0 : Int) ≤ (n : Int) := by omega
  have k2 : (n : Int) ≤ 4194304 := by omega
  go_enter Tryz.func103, Tryz.ntmps103
  go_wp2_with fail
  go_ret2
  exact ⟨rfl, rfl⟩
theorem mul_one' (n : Nat) (hn : n ≤ 4194304) (w : World) :
    Calls Tryz.prog 79 #[.int .u64 1, .int .u64 (n : Int)] w fun e w' => e = .returned (.tuple #[.int .u64 0, .int .u64 (n : Int)]) ∧ w = w' := by
  have hm := Bx.mk (mul64_one n hn)
  go_enter Tryz.func79, Tryz.ntmps79
  go_wp2_with fail
  refine (hm.out _).mono ?_
  rintro e w1 ⟨rfl, rfl⟩
  go_wp2_with fail
  go_ret2
  exact ⟨rfl, rfl⟩
def rep (c : Int) (k n : Nat) : List Value := List.replicate k (.int .i64 c) ++ List.replicate (n - k) (.int .i64 0)
theorem rep_length (c : Int) {k n : Nat} (h : k ≤ n) : (rep c k n).length = n := by simp [rep]; omega
theorem rep_made (c : Int) (n : Nat) : madeCells #[.int .i64 0] n = (rep c 0 n).toArray := by
  apply Array.ext'
  simp only [madeCells, rep, List.replicate_zero, List.nil_append, Nat.sub_zero]
  apply List.ext_getElem?
  intro i
  by_cases h : i < n
  · simp [h, Nat.mod_one]
  · simp [h]
theorem splice_rep (c : Int) {k m n : Nat} (_h : k + m ≤ n) : splice (rep c k n) k (List.replicate m (.int .i64 c)) = rep c (k + m) n := by
  unfold splice rep
  have e1 : (List.replicate k (Value.int .i64 c) ++ List.replicate (n - k) (Value.int .i64 0)).take k = List.replicate k (Value.int .i64 c) := by simp
  have e2 : (List.replicate k (Value.int .i64 c) ++ List.replicate (n - k) (Value.int .i64 0)).drop (k + (List.replicate m (Value.int .i64 c)).length) = List.replicate (n - (k + m)) (Value.int .i64 0) := by
    rw [List.length_replicate, List.drop_append, List.drop_eq_nil_of_le (by simp), List.nil_append, List.drop_replicate]
    congr 1
    simp; omega
  rw [e1, e2, ← List.append_assoc, List.replicate_append_replicate]
theorem rep_cell (c : Int) {k n i : Nat} (hi : i < k) : (rep c k n)[i]? = some (.int .i64 c) := by
  simp [rep, List.getElem?_append, hi]
theorem own_rep {w : World} {B g : Nat} {c : Int} {n : Nat} (h : Bk w g (rep c n n).toArray 3) (hB : B ≤ g) (hn : n ≤ maxLen) : Own w B 3 .i64 (.slice (some ⟨g, 0, none⟩) n n) (List.replicate n c) := by
  refine ⟨by simp, .inr ⟨g, n, (rep c n n).toArray, by simp, hB, h, by simp, hn, by simp [rep], by simp [rep]⟩⟩
theorem cp_src (w : World) (ad : Addr) (c : Int) (n : Nat) (hc : w.cell? ad = some (.int .i64 c)) : 0 < [Value.int .i64 c].length → (some (⟨w.heap.size, 0, none⟩ : Addr)) = some ⟨w.heap.size, 0, none⟩ ∧ ∃ ad', some ad = some ad' ∧
    ∀ j v, [Value.int .i64 c][j]? = some v → (w.alloc (.cells (rep c 0 n).toArray 3)).cell? (ad'.add j) = some v :=
  fun _ => ⟨rfl, ad, rfl, fun j v hj => by
    cases j with
    | zero => simp at hj; subst hj; simpa [Addr.add] using cell_later ((Below.refl _ _).alloc (Nat.le_refl _) _) hc
    | succ j => simp at hj⟩
theorem cp_src2 (w : World) (g : Nat) (c : Int) (k m n : Nat) (hm : m ≤ k) (kw : Bx (Bk w g (rep c k n).toArray 3)) : 0 < (List.replicate m (Value.int .i64 c)).length → (some (⟨g, k, none⟩ : Addr)) = some ⟨g, k, none⟩ ∧ ∃ ad', (some (⟨g, 0, none⟩ : Addr)) = some ad' ∧
    ∀ j v, (List.replicate m (Value.int .i64 c))[j]? = some v → w.cell? (ad'.add j) = some v :=
  fun _ => ⟨rfl, ⟨g, 0, none⟩, rfl, fun j v hj => by
    rw [List.getElem?_replicate] at hj
    split at hj
    · rename_i h
      have e : (⟨g, 0, none⟩ : Addr).add j = ⟨g, j, none⟩ := by unfold Addr.add; split <;> simp_all
      rw [e, ← hj]
      exact kw.out.cell j (by simpa using rep_cell c (by omega))
    · cases hj⟩
theorem cp_len (c : Int) (k m n : Nat) (h : m = min k (n - k)) : (List.replicate m (Value.int .i64 c)).length = Nat.min k (n - k) := by rw [List.length_replicate, h]
theorem cp_fit (c : Int) (k m n : Nat) (h : k + m ≤ n) : k + (List.replicate m (Value.int .i64 c)).length ≤ (rep c k n).length := by rw [rep_length c (by omega), List.length_replicate]; exact h
theorem cp_one (c : Int) (m : Nat) : ∀ v ∈ List.replicate m (Value.int .i64 c), v.oneCell' = true := by
  intro v hv
  rw [(List.mem_replicate.1 hv).2]; rfl
set_option maxRecDepth 100000 in
set_option maxHeartbeats 1000000 in
theorem repeat_one (ad : Addr) (cap : Nat) (c : Int) (n : Nat) (h1 : 1 ≤ n) (hn : n ≤ 4194304) (w : World) (hc : w.cell? ad = some (.int .i64 c)) :
    Calls Tryz.prog 42 #[.slice (some ad) 1 cap, .int .i64 (n : Int)] w fun e w' => ∃ v, e = .returned v ∧ Own w' w.heap.size 3 .i64 v (List.replicate n c) ∧ Below w.heap.size w w' := by
  have hm := Bx.mk (mul_one' n hn)
  have k1 : (1 : Int) ≤ (n : Int) := by omega
  have k2 : (n : Int) ≤ 4194304 := by omega
  have hmk : ∀ W, (Instr.makeSlice 26 (.int .i64 (n : Int)) (.int .i64 (n : Int))).run Tryz.prog W = .ok (.slice (some ⟨W.heap.size, 0, none⟩) n n) (W.alloc (.cells (rep c 0 n).toArray 3)) :=
    fun W => by rw [← rep_made]; exact run_make_row' (P := Tryz.prog) 26 3 (.int .i64 0) 8 Tryz.underlying26 (by kernel_rfl) rfl .i64 .i64 n (by omega) (by omega) W
  go_enter Tryz.func42, Tryz.ntmps42
  go_wp2_with fail
  refine (hm.out _).mono ?_
  rintro e w1 ⟨rfl, rfl⟩
  have hb0 : Below w.heap.size w (w.alloc (.cells (rep c 0 n).toArray 3)) := (Below.refl _ _).alloc (Nat.le_refl _) _
  have c1 := Bx.mk (show [Value.int .i64 c].length = Nat.min 1 n by show 1 = min 1 n; omega)
  have c3 := Bx.mk (show 0 + [Value.int .i64 c].length ≤ (rep c 0 n).length by rw [rep_length c (by omega)]; simp; omega)
  have c4 := Bx.mk (show ∀ v ∈ [Value.int .i64 c], v.oneCell' = true by simp [Value.oneCell'])
  go_wp2_with (refine wpList_copy_splice rfl (.tmp 31) (.tmp 32) 26 26 rfl 3 Tryz.underlying26 (by kernel_rfl) (some ⟨w.heap.size, 0, none⟩) (some ad) n n 1 cap rfl rfl w.heap.size 0 (rep c 0 n) 3 (heap_alloc_new w _) [.int .i64 c] c1.out (cp_src w ad c n hc) c3.out c4.out w.heap.size w hb0 (Nat.le_refl _) ?_)
  clear c1 c3 c4 hb0
  intro w1 hg1 hb1
  have kg : Bx (Bk w1 w.heap.size (rep c 1 n).toArray 3) := ⟨by have := hg1.out; rw [show [Value.int .i64 c] = List.replicate 1 (.int .i64 c) from rfl, splice_rep c (by omega)] at this; exact this⟩
  clear hg1 hmk hm
  go_wp2_with fail
  go_loopw [8] (fun i wr => ∃ k : Nat, 1 ≤ k ∧ k ≤ n ∧ i = .int .i64 k ∧ Bk wr w.heap.size (rep c k n).toArray 3 ∧ Below w.heap.size w wr) (fun i _ => n - (intOf i).toNat)
  case atStart => exact ⟨1, by omega, h1, rfl, kg.out, hb1⟩
  case round =>
    obtain ⟨k, hk1, hk, rfl, kw, hB⟩ := hrel
    clear kg hb1
    have Kw := Bx.mk kw
    clear kw
    have b1 : (0 : Int) ≤ (k : Int) := by omega
    have b2 : (k : Int) ≤ (n : Int) := by omega
    by_cases hlt : k < n
    · have hlt' : (k : Int) < (n : Int) := by omega
      have hne : ¬ n = k := by omega
      obtain ⟨m, hm⟩ : ∃ m, m = min k (n - k) := ⟨_, rfl⟩
      have hmk : m ≤ k ∧ k + m ≤ n ∧ 1 ≤ m := by omega
      have hwr : IntKind.i64.wrap ((k : Int) + (m : Int)) = (k : Int) + (m : Int) := IntWalk.i64_in _ (by omega)
      have Hm := Bx.mk hm
      clear hm
      go_wp2_with fail
      go_region_law ((refine step_copy_splice rfl (.tmp 41) (.tmp 44) 26 26 rfl 3 Tryz.underlying26 (by kernel_rfl) (some ⟨w.heap.size, k, none⟩) (some ⟨w.heap.size, 0, none⟩) (n - k) (n - k) k n (by simp [Act.eval, Act.put]) (by simp [Act.eval, Act.put]) w.heap.size k (rep c k n) 3 Kw.out (List.replicate m (.int .i64 c)) (cp_len c k m n Hm.out) (cp_src2 wr.drew w.heap.size c k m n hmk.1 Kw) (cp_fit c k m n hmk.2.1) (cp_one c m) w.heap.size w hB.drew (Nat.le_refl _) ?_; intro w2 hg2 hb2))
      have kg : Bx (Bk w2 w.heap.size (rep c (k + m) n).toArray 3) := ⟨by have := hg2.out; rw [splice_rep c (by omega)] at this; exact this⟩
      clear hg2 Kw
      simp only [List.getElem_toArray, List.getElem_cons_succ, List.getElem_cons_zero, Act.put]
      go_wp2_with fail
      go_frame
      go_roundw
      case rel => exact ⟨k + m, by omega, by omega, by go_num, kg.out, hb2⟩
      case measure => simp [intOf]; omega
    · obtain rfl : k = n := by omega
      go_wp2_with fail
      go_ret
      refine ⟨_, rfl, own_rep Kw.out (Nat.le_refl _) (by simp only [maxLen]; omega), hB⟩
end Go.Proofs.YtabclecmehdeoaaGreat
end
section
/- A region that draws its order, whose head reads, makes new memory and calls: each operation's value is told by a relation that new memory does not harm. -/
namespace Go.Proofs.YtabclecmehdeoaaGreat
open Go.Sort Go.RowKit

/-- what an operation hands back, and that what was there stays -/
@[go_sem] def relUpon (P : Program) (w : World) (R : Value → World → Prop) : Result Next → Prop
  | .ok (.value u) w' => Below w.heap.size w w' ∧ R u w'
  | .ok (.enter f args) w' => w' = w ∧ Calls P f args w (fun e w'' => ∃ v, e = .returned v ∧ Below w.heap.size w w'' ∧ R v w'')
  | _ => False
/-- the head's operation that lays a slot -/
def maker (l : List Oper) (n : Nat) (d : Tmp) : Option Nat := (List.range n).find? fun j => decide (dstAt l j = some d)
/-- what is known of a slot that operation i reads -/
def Known (l : List Oper) (n : Nat) (R : Nat → Value → World → Prop) (a : Act) (d : Tmp) (v : Value) (w : World) : Prop :=
  match maker l n d with
  | some j => R j v w
  | none => v = a.eval (.tmp d)
def relB (l : List Oper) (n : Nat) : Bool :=
  Region.noSelect l.toArray &&
  ((List.range n).all fun i => match l[i]? with
    | some o => o.guard.isNone && o.dst.isSome && o.op.operands.toList.all fun x => match x with
      | .tmp d => (List.range n).all fun j => !decide (dstAt l j = some d) || (decide (j < i) && Region.waitsFor .any l.toArray i j)
      | _ => true
    | none => false) &&
  ((List.range n).all fun i => (List.range n).all fun j => decide (i = j) || !decide (dstAt l i = dstAt l j))
structure RelB (l : List Oper) (n : Nat) : Prop where
  nosel : Region.noSelect l.toArray = true
  guard : ∀ i o, i < n → l[i]? = some o → o.guard = none
  dst : ∀ i o, i < n → l[i]? = some o → ∃ d, o.dst = some d
  data : ∀ i o d j, i < n → l[i]? = some o → .tmp d ∈ o.op.operands → j < n → dstAt l j = some d → j < i ∧ Region.waitsFor .any l.toArray i j = true
  dist : ∀ i j d, i < n → j < n → i ≠ j → dstAt l i = some d → dstAt l j ≠ some d
theorem relB_spec {l : List Oper} {n : Nat} (h : relB l n = true) : RelB l n := by
  simp only [relB, Bool.and_eq_true] at h
  obtain ⟨⟨h3, h4⟩, h5⟩ := h
  refine ⟨h3, fun i o hi ho => ?_, fun i o hi ho => ?_, fun i o d j hi ho hd hj hdj => ?_, fun i j d hi hj hne hdi hdj => ?_⟩
  · have := List.all_eq_true.1 h4 i (List.mem_range.2 hi)
    simp only [ho, Bool.and_eq_true, Option.isNone_iff_eq_none] at this
    exact this.1.1
  · have := List.all_eq_true.1 h4 i (List.mem_range.2 hi)
    simp only [ho, Bool.and_eq_true] at this
    exact Option.isSome_iff_exists.1 this.1.2
  · have := List.all_eq_true.1 h4 i (List.mem_range.2 hi)
    simp only [ho, Bool.and_eq_true] at this
    have := List.all_eq_true.1 this.2 (.tmp d) (by simpa using hd)
    have := List.all_eq_true.1 this j (List.mem_range.2 hj)
    simpa [hdj] using this
  · have := List.all_eq_true.1 (List.all_eq_true.1 h5 i (List.mem_range.2 hi)) j (List.mem_range.2 hj)
    simp [hne, hdi, hdj] at this
def Firm (R : Value → World → Prop) : Prop := ∀ v w w', Below w.heap.size w w' → R v w → R v w'
structure RI (l : List Oper) (n : Nat) (R : Nat → Value → World → Prop) (W : World) (a : Act) (s : Array Bool) (a' : Act) (w' : World) : Prop where
  tsize : a'.tmps.size = a.tmps.size
  defers : a'.defers = a.defers
  old : ∀ x : Nat, (∀ i, i < n → s.getD i false = true → dstAt l i ≠ some x) → a'.tmps[x]? = a.tmps[x]?
  head : ∀ i d, i < n → s.getD i false = true → dstAt l i = some d → ∃ v, a'.tmps[d]? = some v ∧ R i v w'
  below : Below W.heap.size W w'
section
variable {P : Program} {l : List Oper} {n : Nat} {R : Nat → Value → World → Prop} {W : World} {a : Act}
theorem maker_spec {d : Tmp} {j : Nat} (h : maker l n d = some j) : j < n ∧ dstAt l j = some d := by
  unfold maker at h
  exact ⟨List.mem_range.1 (List.mem_of_find?_eq_some h), by simpa using List.find?_some h⟩
theorem maker_none {d : Tmp} (h : maker l n d = none) : ∀ j, j < n → dstAt l j ≠ some d := by
  unfold maker at h
  intro j hj e
  have := List.find?_eq_none.1 h j (List.mem_range.2 hj)
  simp [e] at this
theorem ri_step (B : RelB l n) (hf : ∀ i, i < n → Firm (R i)) (hd : ∀ i d, i < n → dstAt l i = some d → d < a.tmps.size)
    (hop : ∀ i o, i < n → l[i]? = some o → ∀ (ρ : Operand → Value) w, Below W.heap.size W w → (∀ v, ρ (.const v) = v) → (∀ g, ρ (.global g) = .pointer (some ⟨g, 0, none⟩)) → (∀ f, ρ (.func f) = .func (.func f) #[] #[]) →
      (∀ d, .tmp d ∈ o.op.operands → Known l n R a d (ρ (.tmp d)) w) → relUpon P w (R i) ((execOp ρ o).run P w))
    {Q : Exit → Act → World → Prop} {s : Array Bool} (hs : s.size = n) {a' : Act} {w' : World} (I : RI l n R W a s a' w') {i : Nat} (hin : i < n) (hr : i ∈ Region.ready .any l.toArray (s ++ Array.replicate (l.length - n) false)) (hun : s.getD i true = false) :
    wpOp P l.toArray Q i (fun a'' w'' => RI l n R W a (s.setIfInBounds i true) a'' w'') a' w' := by
  obtain ⟨_, o, ho, hall⟩ := mem_ready.1 hr
  have hol : l[i]? = some o := by simpa using ho
  have hdo : dstAt l i = o.dst := by simp [dstAt, hol]
  obtain ⟨di, hdi⟩ := B.dst i o hin hol
  have hself := getD_set_self (s := s) (i := i) (by omega)
  have hnew : ∀ j, j ≠ i → (s.setIfInBounds i true).getD j false = s.getD j false := fun j hj => getD_set_ne false (Ne.symm hj)
  unfold wpOp
  simp only [ho]
  have hw : Region.wanted o (yielded l.toArray a'.tmps) = true := by simp [Region.wanted, B.guard i o hin hol]
  rw [if_pos hw]
  left
  have hk : ∀ d, .tmp d ∈ o.op.operands → Known l n R a d (a'.eval (.tmp d)) w' := by
    intro d hd'
    unfold Known
    cases hm : maker l n d with
    | some j =>
      obtain ⟨hj, hdj⟩ := maker_spec hm
      obtain ⟨hji, hwt⟩ := B.data i o d j hin hol hd' hj hdj
      have hlj := waits_listed hwt hr
      rw [app_get hs hj] at hlj
      obtain ⟨v, h1, h2⟩ := I.head j d hj hlj hdj
      have : a'.eval (.tmp d) = v := by simp [Act.eval, Array.getD_eq_getD_getElem?, h1]
      rw [this]; exact h2
    | none => exact eval_tmp (I.old d fun j hj _ e => maker_none hm j hj e)
  have hrun := hop i o hin hol a'.eval w' I.below (fun _ => rfl) (fun _ => rfl) (fun _ => rfl) hk
  have post : ∀ v w'', Below w'.heap.size w' w'' → R i v w'' → RI l n R W a (s.setIfInBounds i true) (a'.put o.dst v) w'' := by
    intro v w'' hb hR
    refine ⟨by rw [put_size, I.tsize], by rw [put_defers, I.defers], fun x hx => ?_, fun j d hj hs' hdj => ?_, I.below.trans (hb.mono I.below.size)⟩
    · rw [put_other v (fun e => hx i hin hself (by rw [hdo]; exact e))]
      refine I.old x fun j hj hs' => hx j hj ?_
      by_cases e : j = i
      · subst e; exact hself
      · rw [hnew j e]; exact hs'
    · by_cases e : j = i
      · subst e
        rw [hdo] at hdj
        rw [hdj, put_same v (by rw [I.tsize]; exact hd j d hin (by rw [hdo]; exact hdj))]
        exact ⟨v, rfl, hR⟩
      · rw [hnew j e] at hs'
        obtain ⟨u, h1, h2⟩ := I.head j d hj hs' hdj
        rw [put_other v (fun e' => B.dist j i d hj hin e hdj (by rw [hdo]; exact e'))]
        exact ⟨u, h1, hf j hj u w' w'' hb h2⟩
  unfold Oper.wp
  generalize (execOp a'.eval o).run P w' = r at hrun
  cases r with
  | ok nx w'' =>
    cases nx <;> simp only [relUpon] at hrun <;> simp only [Oper.upon]
    case value u => exact post _ _ hrun.1 hrun.2
    case enter f args =>
      obtain ⟨rfl, hc⟩ := hrun
      refine hc.mono fun e w3 ⟨v, he, hb, hR⟩ => ?_
      subst he
      exact post _ _ hb hR
  | halt x w'' => simp only [relUpon] at hrun
theorem ri_any (hn : n ≤ l.length) (B : RelB l n) (hb : backB .any l n = true) (ht : tailB .any l n = true) (hf : ∀ i, i < n → Firm (R i)) (hd : ∀ i d, i < n → dstAt l i = some d → d < a.tmps.size)
    (hop : ∀ i o, i < n → l[i]? = some o → ∀ (ρ : Operand → Value) w, Below W.heap.size W w → (∀ v, ρ (.const v) = v) → (∀ g, ρ (.global g) = .pointer (some ⟨g, 0, none⟩)) → (∀ f, ρ (.func f) = .func (.func f) #[] #[]) →
      (∀ d, .tmp d ∈ o.op.operands → Known l n R a d (ρ (.tmp d)) w) → relUpon P w (R i) ((execOp ρ o).run P w))
    {Q : Exit → Act → World → Prop} (hend : ∀ a' w', RI l n R W a (Array.replicate n true) a' w' → wpAny P .any l.toArray Q (l.length - n) (Array.replicate n true ++ Array.replicate (l.length - n) false) a' w') :
    ∀ (f : Nat) (s : Array Bool) (a' : Act) (w' : World), s.size = n → unl s = f → RI l n R W a s a' w' → wpAny P .any l.toArray Q (f + (l.length - n)) (s ++ Array.replicate (l.length - n) false) a' w'
  | 0, s, a', w', hs, hu, I => by
    have e : s = Array.replicate n true := by rw [← hs]; exact unl_zero hu
    rw [Nat.zero_add, e]
    rw [e] at I
    exact hend a' w' I
  | f + 1, s, a', w', hs, hu, I => by
    obtain ⟨k, hk, hun⟩ := unl_pos (s := s) (by omega)
    rw [show f + 1 + (l.length - n) = (f + (l.length - n)) + 1 by omega]
    refine ⟨fun h0 => ?_, fun i hi => ?_⟩
    · obtain ⟨i, hi⟩ := ready_some (g := l.length - n) hs hn hb (k + 1) k (by omega) (by omega) hun
      rw [h0] at hi; cases hi
    · have hin := ready_not_tail hs (by omega : k < n) hun ht hi
      have hiu : s.getD i true = false := by have := (mem_ready.1 hi).1; rwa [app_get hs hin] at this
      refine wpOp_mono (fun a'' w'' I' => ?_) (ri_step B hf hd hop hs I hin hi hiu)
      rw [app_set (by omega)]
      refine ri_any hn B hb ht hf hd hop hend f _ a'' w'' (by simpa using hs) ?_ I'
      have := unl_set (s := s) (by omega) hiu
      omega
def headR (l : List Oper) (n : Nat) : Bool :=
  decide (n < l.length) && backB .any l n && tailB .any l n && relB l n && Region.seqB .any l.toArray (l.length - n) n (Array.replicate n true ++ Array.replicate (l.length - n) false)
/-- **The head in any order, each value told by its relation; then the tail.** -/
theorem wp_region_rel {id : Nat} {Q : Exit → Act → World → Prop} (n : Nat) (R : Nat → Value → World → Prop) (hm : P.follows .mixedOrders = true) (hB : headR l n = true) (m : Nat) (hdm : dstB l m = true) (ham : a.tmps.size = m)
    (hf : ∀ i, i < n → Firm (R i))
    (hop : ∀ i o, i < n → l[i]? = some o → ∀ (ρ : Operand → Value) w, Below W.heap.size W w → (∀ v, ρ (.const v) = v) → (∀ g, ρ (.global g) = .pointer (some ⟨g, 0, none⟩)) → (∀ f, ρ (.func f) = .func (.func f) #[] #[]) →
      (∀ d, .tmp d ∈ o.op.operands → Known l n R a d (ρ (.tmp d)) w) → relUpon P w (R i) ((execOp ρ o).run P w))
    (h : ∀ (vs : List Value) w', vs.length = n → Below W.heap.size W w' → (∀ i v, vs[i]? = some v → R i v w') → wpList P l.toArray Q (l.drop n) (puts (((l.take n).map (·.dst)).zip vs) a) w') : (Code.region id l.toArray true).wp P Q a W := by
  simp only [headR, Bool.and_eq_true, decide_eq_true_eq] at hB
  obtain ⟨⟨⟨⟨hn, hb⟩, ht⟩, hrel⟩, hseq⟩ := hB
  have B := relB_spec hrel
  have hd : ∀ i d, i < n → dstAt l i = some d → d < a.tmps.size := fun i d _ hd => by rw [ham]; exact dstB_spec hdm hd
  refine wp_region_any hm ?_
  have := ri_any (Q := Q) (by omega) B hb ht hf hd hop (fun a' w' I => ?_) n (Array.replicate n false) a { W with drawn := W.drawn + 1 } (by simp) (by simp [unl])
    ⟨rfl, rfl, fun x _ => rfl, fun i d _ hs => (by rw [getD_replicate_false] at hs; cases hs), ⟨rfl, rfl, rfl, Nat.le_refl _, fun _ _ => rfl⟩⟩
  · have e : Array.replicate n false ++ Array.replicate (l.length - n) false = Array.replicate l.toArray.size false := by
      rw [Array.replicate_append_replicate]; congr 1; simp; omega
    rw [e, show n + (l.length - n) = l.toArray.size by simp; omega] at this
    exact this
  · have hv : ∀ i, ∃ v, i < n → (∃ d, dstAt l i = some d ∧ a'.tmps[d]? = some v) ∧ R i v w' := by
      intro i
      by_cases hi : i < n
      · obtain ⟨o, ho⟩ : ∃ o, l[i]? = some o := ⟨_, List.getElem?_eq_getElem (by omega)⟩
        obtain ⟨d, hdd⟩ := B.dst i o hi ho
        have hdl : dstAt l i = some d := by simp [dstAt, ho, hdd]
        obtain ⟨v, h1, h2⟩ := I.head i d hi (by simp [hi]) hdl
        exact ⟨v, fun _ => ⟨⟨d, hdl, h1⟩, h2⟩⟩
      · exact ⟨undef, fun h => absurd h hi⟩
    obtain ⟨g, hg⟩ := Classical.axiomOfChoice hv
    have hlen : ((List.range n).map g).length = n := by simp
    have hz : ∀ i, i < n → (((l.take n).map (·.dst)).zip ((List.range n).map g))[i]? = some (dstAt l i, g i) := by
      intro i hi
      rw [(List.getElem?_zip_eq_some (z := (dstAt l i, g i))).2]
      refine ⟨?_, by simp [hi]⟩
      rw [List.getElem?_map, List.getElem?_take, if_pos hi]
      unfold dstAt
      rw [List.getElem?_eq_getElem (show i < l.length by omega)]; rfl
    have hlt : ∀ {i p}, (((l.take n).map (·.dst)).zip ((List.range n).map g))[i]? = some p → i < n := by
      intro i p hp
      have := (List.getElem?_eq_some_iff.1 hp).1
      simp at this; omega
    have heq : a' = puts (((l.take n).map (·.dst)).zip ((List.range n).map g)) a := by
      refine act_ext ?_ fun x => ?_
      · rw [(puts_size _ _).2]; exact I.defers
      · by_cases hx : ∃ i, i < n ∧ dstAt l i = some x
        · obtain ⟨i, hi, hdx⟩ := hx
          obtain ⟨⟨d, h1, h2⟩, _⟩ := hg i hi
          rw [hdx] at h1
          obtain rfl := Option.some.inj h1
          rw [h2]
          symm
          refine puts_in _ a x _ (hd i x hi hdx) ?_ (List.mem_iff_getElem?.2 ⟨i, by rw [hz i hi, hdx]⟩)
          rw [List.pairwise_iff_getElem]
          intro p q hp hq hpq d' e1 e2
          have n1 := hz p (hlt (List.getElem?_eq_getElem hp))
          have n2 := hz q (hlt (List.getElem?_eq_getElem hq))
          rw [List.getElem?_eq_getElem hp] at n1
          rw [List.getElem?_eq_getElem hq] at n2
          rw [Option.some.inj n1] at e1
          rw [Option.some.inj n2] at e2
          exact B.dist p q d' (hlt (List.getElem?_eq_getElem hp)) (hlt (List.getElem?_eq_getElem hq)) (by omega) e1 e2
        · rw [puts_out _ _ x (fun p hp e => by
            obtain ⟨i, hi⟩ := List.mem_iff_getElem?.1 hp
            have hin := hlt hi
            rw [hz i hin] at hi
            have := Option.some.inj hi
            subst this
            exact hx ⟨i, hin, e⟩)]
          exact I.old x fun i hi _ e => hx ⟨i, hi, e⟩
    have hres := h ((List.range n).map g) w' hlen I.below (fun i v hi => by
      have hin : i < n := by have := (List.getElem?_eq_some_iff.1 hi).1; simpa using this
      have : v = g i := by simpa [hin] using hi.symm
      rw [this]; exact (hg i hin).2)
    rw [← heq] at hres
    have := wpAny_of_seq (P := P) (md := .any) (ops := l.toArray) (Q' := Q) (l.drop n) n (Array.replicate n true ++ Array.replicate (l.length - n) false) a' w' (fun j => by simp [List.getElem?_drop]) (by simpa using hseq) hres
    simpa using this
end
end Go.Proofs.YtabclecmehdeoaaGreat
end
section
/- grid.New, by the program. -/
namespace Go.Proofs.YtabclecmehdeoaaGreat
open Go.RowKit Go.Sort

set_option maxHeartbeats 400000 in
theorem check_any (a b c d e f m : Int) (w : World) :
    Calls Tryz.prog 89 #[.agg #[.int .i64 a, .int .i64 b, .int .i64 c, .int .i64 d, .int .i64 e, .int .i64 f], .int .i64 m] w fun e' w' => e' = .returned (.int .i64 (newE ⟨⟨a, b, c⟩, ⟨d, e, f⟩⟩ m)) ∧ Below w.heap.size w w' := by
  have hr := Bx.mk fun W => ranged_any a b c d e f W
  have hm := Bx.mk fun W => material_any m W
  have hvol : Bx (okB ⟨⟨a, b, c⟩, ⟨d, e, f⟩⟩ = true → ∀ W, Calls Tryz.prog 52 #[.agg #[.int .i64 a, .int .i64 b, .int .i64 c, .int .i64 d, .int .i64 e, .int .i64 f]] W fun e' w' => e' = .returned (.int .i64 (volB ⟨⟨a, b, c⟩, ⟨d, e, f⟩⟩)) ∧ Below W.heap.size W w') := ⟨fun h W => volume_any a b c d e f (okB_small h) W⟩
  have hE := Bx.mk (show newE ⟨⟨a, b, c⟩, ⟨d, e, f⟩⟩ m = if okB ⟨⟨a, b, c⟩, ⟨d, e, f⟩⟩ = false ∨ Pal.cell m = false then 1 else if 2097152 < volB ⟨⟨a, b, c⟩, ⟨d, e, f⟩⟩ then 2 else 0 from rfl)
  rw [← Pal.cell_eq] at hm
  generalize okB ⟨⟨a, b, c⟩, ⟨d, e, f⟩⟩ = r1 at *
  generalize volB ⟨⟨a, b, c⟩, ⟨d, e, f⟩⟩ = v at *
  generalize Pal.cell m = r2 at *
  generalize newE ⟨⟨a, b, c⟩, ⟨d, e, f⟩⟩ m = ee at *
  cases r1 with
  | false =>
    clear hvol
    go_enter Tryz.func89, Tryz.ntmps89
    go_wp2_with fail
    generalize hW : World.alloc w _ = W
    have hSz : w.heap.size + 1 ≤ W.heap.size := by rw [← hW]; simp
    have hB : Below w.heap.size w W := by rw [← hW]; exact (Below.refl _ _).alloc (Nat.le_refl _) _
    have kb : Bk W (w.heap.size) #[.int .i64 a, .int .i64 b, .int .i64 c, .int .i64 d, .int .i64 e, .int .i64 f] 25 := by rw [← hW]; exact blk_new _ _ _ (by simp)
    clear hW
    refine (hr.out _).mono ?_
    rintro e' w1 ⟨rfl, hb⟩
    replace hB := hB.trans (hb.mono hB.size)
    replace kb := kb.later hb
    replace hSz := Nat.le_trans hSz hb.size
    clear hb
    have cb0 := kb.cell 0 rfl
    have cb1 := kb.cell 1 rfl
    have cb2 := kb.cell 2 rfl
    have cb3 := kb.cell 3 rfl
    have cb4 := kb.cell 4 rfl
    have cb5 := kb.cell 5 rfl
    go_wp2_with fail
    go_ret
    exact ⟨ret_int (by rw [hE.out]; simp), hB⟩
  | true =>
    replace hvol := Bx.mk (hvol.out rfl)
    cases r2 with
    | false =>
      go_enter Tryz.func89, Tryz.ntmps89
      go_wp2_with fail
      generalize hW : World.alloc w _ = W
      have hSz : w.heap.size + 1 ≤ W.heap.size := by rw [← hW]; simp
      have hB : Below w.heap.size w W := by rw [← hW]; exact (Below.refl _ _).alloc (Nat.le_refl _) _
      have kb : Bk W (w.heap.size) #[.int .i64 a, .int .i64 b, .int .i64 c, .int .i64 d, .int .i64 e, .int .i64 f] 25 := by rw [← hW]; exact blk_new _ _ _ (by simp)
      clear hW
      refine (hr.out _).mono ?_
      rintro e' w1 ⟨rfl, hb⟩
      replace hB := hB.trans (hb.mono hB.size)
      replace kb := kb.later hb
      replace hSz := Nat.le_trans hSz hb.size
      clear hb
      have cb0 := kb.cell 0 rfl
      have cb1 := kb.cell 1 rfl
      have cb2 := kb.cell 2 rfl
      have cb3 := kb.cell 3 rfl
      have cb4 := kb.cell 4 rfl
      have cb5 := kb.cell 5 rfl
      go_wp2_with fail
      refine (hm.out _).mono ?_
      rintro e' w2 ⟨rfl, rfl⟩
      go_wp2_with fail
      go_ret
      exact ⟨ret_int (by rw [hE.out]; simp), hB⟩
    | true =>
      by_cases hv : 2097152 < v
      · have hE2 : Bx (ee = 2) := ⟨by rw [hE.out]; simp [hv]⟩
        go_enter Tryz.func89, Tryz.ntmps89
        go_wp2_with fail
        generalize hW : World.alloc w _ = W
        have hSz : w.heap.size + 1 ≤ W.heap.size := by rw [← hW]; simp
        have hB : Below w.heap.size w W := by rw [← hW]; exact (Below.refl _ _).alloc (Nat.le_refl _) _
        have kb : Bk W (w.heap.size) #[.int .i64 a, .int .i64 b, .int .i64 c, .int .i64 d, .int .i64 e, .int .i64 f] 25 := by rw [← hW]; exact blk_new _ _ _ (by simp)
        clear hW
        refine (hr.out _).mono ?_
        rintro e' w1 ⟨rfl, hb⟩
        replace hB := hB.trans (hb.mono hB.size)
        replace kb := kb.later hb
        replace hSz := Nat.le_trans hSz hb.size
        clear hb
        have cb0 := kb.cell 0 rfl
        have cb1 := kb.cell 1 rfl
        have cb2 := kb.cell 2 rfl
        have cb3 := kb.cell 3 rfl
        have cb4 := kb.cell 4 rfl
        have cb5 := kb.cell 5 rfl
        go_wp2_with fail
        refine (hm.out _).mono ?_
        rintro e' w2 ⟨rfl, rfl⟩
        go_wp2_with fail
        refine (hvol.out _).mono ?_
        rintro e' w3 ⟨rfl, hb⟩
        clear cb0 cb1 cb2 cb3 cb4 cb5
        replace hB := hB.trans (hb.mono hB.size)
        replace kb := kb.later hb
        replace hSz := Nat.le_trans hSz hb.size
        clear hb
        go_wp2_with fail
        go_ret
        exact ⟨ret_int hE2.out.symm, hB⟩
      · have hE2 : Bx (ee = 0) := ⟨by rw [hE.out]; simp [hv]⟩
        go_enter Tryz.func89, Tryz.ntmps89
        go_wp2_with fail
        generalize hW : World.alloc w _ = W
        have hSz : w.heap.size + 1 ≤ W.heap.size := by rw [← hW]; simp
        have hB : Below w.heap.size w W := by rw [← hW]; exact (Below.refl _ _).alloc (Nat.le_refl _) _
        have kb : Bk W (w.heap.size) #[.int .i64 a, .int .i64 b, .int .i64 c, .int .i64 d, .int .i64 e, .int .i64 f] 25 := by rw [← hW]; exact blk_new _ _ _ (by simp)
        clear hW
        refine (hr.out _).mono ?_
        rintro e' w1 ⟨rfl, hb⟩
        replace hB := hB.trans (hb.mono hB.size)
        replace kb := kb.later hb
        replace hSz := Nat.le_trans hSz hb.size
        clear hb
        have cb0 := kb.cell 0 rfl
        have cb1 := kb.cell 1 rfl
        have cb2 := kb.cell 2 rfl
        have cb3 := kb.cell 3 rfl
        have cb4 := kb.cell 4 rfl
        have cb5 := kb.cell 5 rfl
        go_wp2_with fail
        refine (hm.out _).mono ?_
        rintro e' w2 ⟨rfl, rfl⟩
        go_wp2_with fail
        refine (hvol.out _).mono ?_
        rintro e' w3 ⟨rfl, hb⟩
        clear cb0 cb1 cb2 cb3 cb4 cb5
        replace hB := hB.trans (hb.mono hB.size)
        replace kb := kb.later hb
        replace hSz := Nat.le_trans hSz hb.size
        clear hb
        go_wp2_with fail
        go_ret
        exact ⟨ret_int hE2.out.symm, hB⟩
theorem new_err (a b c d e f m : Int) (hne : newE ⟨⟨a, b, c⟩, ⟨d, e, f⟩⟩ m ≠ 0) (w : World) :
    Calls Tryz.prog 62 #[.agg #[.int .i64 a, .int .i64 b, .int .i64 c, .int .i64 d, .int .i64 e, .int .i64 f], .int .i64 m] w fun e' w' => e' = .returned (.tuple #[.agg #[.int .i64 0, .int .i64 0, .int .i64 0, .int .i64 0, .int .i64 0, .int .i64 0, .slice none 0 0], .int .i64 (newE ⟨⟨a, b, c⟩, ⟨d, e, f⟩⟩ m)]) ∧ Below w.heap.size w w' := by
  have hc := Bx.mk fun W => check_any a b c d e f m W
  generalize newE ⟨⟨a, b, c⟩, ⟨d, e, f⟩⟩ m = ee at *
  have hb : (ee != 0) = true := by simp [hne]
  clear hne
  go_enter Tryz.func62, Tryz.ntmps62
  go_wp2_with fail
  generalize hW : World.alloc (World.alloc w _) _ = W
  have hSz : w.heap.size + 1 + 1 ≤ W.heap.size := by rw [← hW]; simp
  have hB : Below w.heap.size w W := by rw [← hW]; exact ((Below.refl _ _).alloc (Nat.le_refl _) _).alloc (by simp) _
  have kb : Bk W (w.heap.size) #[.int .i64 a, .int .i64 b, .int .i64 c, .int .i64 d, .int .i64 e, .int .i64 f] 25 := by rw [← hW]; exact blk_old (blk_new _ _ _ (by simp))
  have kg : Bk W (w.heap.size + 1) #[.int .i64 0, .int .i64 0, .int .i64 0, .int .i64 0, .int .i64 0, .int .i64 0, .slice none 0 0] 28 := by rw [← hW]; exact blk_new _ _ _ (by simp)
  clear hW
  refine (hc.out _).mono ?_
  rintro e' w1 ⟨rfl, hb⟩
  replace hB := hB.trans (hb.mono hB.size)
  replace kb := kb.later hb
  replace kg := kg.later hb
  replace hSz := Nat.le_trans hSz hb.size
  clear hb
  have cb0 := kb.cell 0 rfl
  have cb1 := kb.cell 1 rfl
  have cb2 := kb.cell 2 rfl
  have cb3 := kb.cell 3 rfl
  have cb4 := kb.cell 4 rfl
  have cb5 := kb.cell 5 rfl
  clear cb0 cb1 cb2 cb3 cb4 cb5
  have cg0 := kg.cell 0 rfl
  have cg1 := kg.cell 1 rfl
  have cg2 := kg.cell 2 rfl
  have cg3 := kg.cell 3 rfl
  have cg4 := kg.cell 4 rfl
  have cg5 := kg.cell 5 rfl
  have cg6 := kg.cell 6 rfl
  have fg0 := kg.frozen 0
  have fg1 := kg.frozen 1
  have fg2 := kg.frozen 2
  have fg3 := kg.frozen 3
  have fg4 := kg.frozen 4
  have fg5 := kg.frozen 5
  have fg6 := kg.frozen 6
  go_wp2_with fail
  replace kg := kg.put7 (.int .i64 0) (.int .i64 0) (.int .i64 0) (.int .i64 0) (.int .i64 0) (.int .i64 0) (.slice none 0 0)
  have z0 := kg.cell 0 rfl
  have z1 := kg.cell 1 rfl
  have z2 := kg.cell 2 rfl
  have z3 := kg.cell 3 rfl
  have z4 := kg.cell 4 rfl
  have z5 := kg.cell 5 rfl
  have z6 := kg.cell 6 rfl
  exact bodyPost_ret (v := .tuple #[.agg #[.int .i64 0, .int .i64 0, .int .i64 0, .int .i64 0, .int .i64 0, .int .i64 0, .slice none 0 0], .int .i64 ee]) (by simp [results, Tryz.results62, go_sem, z0, z1, z2, z3, z4, z5, z6]) rfl ⟨rfl, blw7 hB (by omega) _ _ _ _ _ _ _⟩
theorem new_empty (a b c d e f m : Int) (h0 : newE ⟨⟨a, b, c⟩, ⟨d, e, f⟩⟩ m = 0) (hem : emptyB ⟨⟨a, b, c⟩, ⟨d, e, f⟩⟩ = true) (w : World) :
    Calls Tryz.prog 62 #[.agg #[.int .i64 a, .int .i64 b, .int .i64 c, .int .i64 d, .int .i64 e, .int .i64 f], .int .i64 m] w fun e' w' => e' = .returned (.tuple #[.agg #[.int .i64 0, .int .i64 0, .int .i64 0, .int .i64 0, .int .i64 0, .int .i64 0, .slice none 0 0], .int .i64 0]) ∧ Below w.heap.size w w' := by
  have hc := Bx.mk fun W => check_any a b c d e f m W
  have he := Bx.mk fun W => empty_any a b c d e f W
  rw [h0] at hc
  rw [hem] at he
  clear h0 hem
  go_enter Tryz.func62, Tryz.ntmps62
  go_wp2_with fail
  generalize hW : World.alloc (World.alloc w _) _ = W
  have hSz : w.heap.size + 1 + 1 ≤ W.heap.size := by rw [← hW]; simp
  have hB : Below w.heap.size w W := by rw [← hW]; exact ((Below.refl _ _).alloc (Nat.le_refl _) _).alloc (by simp) _
  have kb : Bk W (w.heap.size) #[.int .i64 a, .int .i64 b, .int .i64 c, .int .i64 d, .int .i64 e, .int .i64 f] 25 := by rw [← hW]; exact blk_old (blk_new _ _ _ (by simp))
  have kg : Bk W (w.heap.size + 1) #[.int .i64 0, .int .i64 0, .int .i64 0, .int .i64 0, .int .i64 0, .int .i64 0, .slice none 0 0] 28 := by rw [← hW]; exact blk_new _ _ _ (by simp)
  clear hW
  refine (hc.out _).mono ?_
  rintro e' w1 ⟨rfl, hb⟩
  replace hB := hB.trans (hb.mono hB.size)
  replace kb := kb.later hb
  replace kg := kg.later hb
  replace hSz := Nat.le_trans hSz hb.size
  clear hb
  have cb0 := kb.cell 0 rfl
  have cb1 := kb.cell 1 rfl
  have cb2 := kb.cell 2 rfl
  have cb3 := kb.cell 3 rfl
  have cb4 := kb.cell 4 rfl
  have cb5 := kb.cell 5 rfl
  go_wp2_with fail
  refine (he.out _).mono ?_
  rintro e' w2 ⟨rfl, hb⟩
  clear cb0 cb1 cb2 cb3 cb4 cb5
  replace hB := hB.trans (hb.mono hB.size)
  replace kb := kb.later hb
  replace kg := kg.later hb
  replace hSz := Nat.le_trans hSz hb.size
  clear hb
  have cg0 := kg.cell 0 rfl
  have cg1 := kg.cell 1 rfl
  have cg2 := kg.cell 2 rfl
  have cg3 := kg.cell 3 rfl
  have cg4 := kg.cell 4 rfl
  have cg5 := kg.cell 5 rfl
  have cg6 := kg.cell 6 rfl
  have fg0 := kg.frozen 0
  have fg1 := kg.frozen 1
  have fg2 := kg.frozen 2
  have fg3 := kg.frozen 3
  have fg4 := kg.frozen 4
  have fg5 := kg.frozen 5
  have fg6 := kg.frozen 6
  go_wp2_with fail
  replace kg := kg.put7 (.int .i64 0) (.int .i64 0) (.int .i64 0) (.int .i64 0) (.int .i64 0) (.int .i64 0) (.slice none 0 0)
  have z0 := kg.cell 0 rfl
  have z1 := kg.cell 1 rfl
  have z2 := kg.cell 2 rfl
  have z3 := kg.cell 3 rfl
  have z4 := kg.cell 4 rfl
  have z5 := kg.cell 5 rfl
  have z6 := kg.cell 6 rfl
  exact bodyPost_ret (v := .tuple #[.agg #[.int .i64 0, .int .i64 0, .int .i64 0, .int .i64 0, .int .i64 0, .int .i64 0, .slice none 0 0], .int .i64 0]) (by simp [results, Tryz.results62, go_sem, z0, z1, z2, z3, z4, z5, z6]) rfl ⟨rfl, blw7 hB (by omega) _ _ _ _ _ _ _⟩
/-- a grid and an error are returned; the cells lie in a row of the call's own -/
def RetG (a b c d e f : Int) (xs : List Int) (er : Int) (w : World) (E : Ending) (w' : World) : Prop :=
  ∃ pa pc, E = .returned (.tuple #[.agg #[.int .i64 a, .int .i64 b, .int .i64 c, .int .i64 d, .int .i64 e, .int .i64 f, .slice pa xs.length pc], .int .i64 er]) ∧ Own w' w.heap.size 3 .i64 (.slice pa xs.length pc) xs ∧ Below w.heap.size w w'
set_option maxRecDepth 100000 in
set_option maxHeartbeats 1000000 in
theorem new_full (a b c d e f m : Int) (h0 : newE ⟨⟨a, b, c⟩, ⟨d, e, f⟩⟩ m = 0) (hem : emptyB ⟨⟨a, b, c⟩, ⟨d, e, f⟩⟩ = false) (n : Nat) (hn : volB ⟨⟨a, b, c⟩, ⟨d, e, f⟩⟩ = (n : Int)) (w : World) :
    Calls Tryz.prog 62 #[.agg #[.int .i64 a, .int .i64 b, .int .i64 c, .int .i64 d, .int .i64 e, .int .i64 f], .int .i64 m] w (RetG a b c d e f (List.replicate n m) 0 w) := by
  have hc := Bx.mk fun W => check_any a b c d e f m W
  have he := Bx.mk fun W => empty_any a b c d e f W
  have hok : okB ⟨⟨a, b, c⟩, ⟨d, e, f⟩⟩ = true ∧ volB ⟨⟨a, b, c⟩, ⟨d, e, f⟩⟩ ≤ 2097152 := by
    unfold newE at h0
    split at h0
    · cases h0
    · rename_i h1
      split at h0
      · cases h0
      · exact ⟨by cases h : okB ⟨⟨a, b, c⟩, ⟨d, e, f⟩⟩ <;> simp_all, by omega⟩
  have hvol := Bx.mk fun W => volume_any a b c d e f (okB_small hok.1) W
  have hpos : 1 ≤ n := by
    have h := atB_pos hem
    omega
  have hle : n ≤ 4194304 := by omega
  rw [hn] at hvol
  rw [h0] at hc
  rw [hem] at he
  clear h0 hem hok hn
  go_enter Tryz.func62, Tryz.ntmps62
  go_wp2_with fail
  generalize hW : World.alloc (World.alloc w _) _ = W
  have hSz : w.heap.size + 1 + 1 ≤ W.heap.size := by rw [← hW]; simp
  have hB : Below w.heap.size w W := by rw [← hW]; exact ((Below.refl _ _).alloc (Nat.le_refl _) _).alloc (by simp) _
  have kb : Bk W (w.heap.size) #[.int .i64 a, .int .i64 b, .int .i64 c, .int .i64 d, .int .i64 e, .int .i64 f] 25 := by rw [← hW]; exact blk_old (blk_new _ _ _ (by simp))
  have kg : Bk W (w.heap.size + 1) #[.int .i64 0, .int .i64 0, .int .i64 0, .int .i64 0, .int .i64 0, .int .i64 0, .slice none 0 0] 28 := by rw [← hW]; exact blk_new _ _ _ (by simp)
  clear hW
  refine (hc.out _).mono ?_
  rintro e' w1 ⟨rfl, hb⟩
  replace hB := hB.trans (hb.mono hB.size)
  replace kb := kb.later hb
  replace kg := kg.later hb
  replace hSz := Nat.le_trans hSz hb.size
  clear hb
  have cb0 := kb.cell 0 rfl
  have cb1 := kb.cell 1 rfl
  have cb2 := kb.cell 2 rfl
  have cb3 := kb.cell 3 rfl
  have cb4 := kb.cell 4 rfl
  have cb5 := kb.cell 5 rfl
  go_wp2_with fail
  refine (he.out _).mono ?_
  rintro e' w2 ⟨rfl, hb⟩
  clear cb0 cb1 cb2 cb3 cb4 cb5
  replace hB := hB.trans (hb.mono hB.size)
  replace kb := kb.later hb
  replace kg := kg.later hb
  replace hSz := Nat.le_trans hSz hb.size
  clear hb
  have cb0 := kb.cell 0 rfl
  have cb1 := kb.cell 1 rfl
  have cb2 := kb.cell 2 rfl
  have cb3 := kb.cell 3 rfl
  have cb4 := kb.cell 4 rfl
  have cb5 := kb.cell 5 rfl
  go_wp2_with fail
  have kB := Bx.mk kb
  refine wp_region_rel 7 (fun i v w' => match i with
    | 0 => v = .agg #[.int .i64 a, .int .i64 b, .int .i64 c, .int .i64 d, .int .i64 e, .int .i64 f]
    | 1 => v = .int .i64 m
    | 2 => ∃ g, v = .slice (some ⟨g, 0, none⟩) 1 1 ∧ w'.cell? ⟨g, 0, none⟩ = some (.int .i64 m)
    | 3 => v = .agg #[.int .i64 a, .int .i64 b, .int .i64 c, .int .i64 d, .int .i64 e, .int .i64 f]
    | 4 => v = .int .i64 (n : Int)
    | 5 => ∃ pa pc, v = .slice pa n pc ∧ Own w' w2.heap.size 3 .i64 (.slice pa n pc) (List.replicate n m)
    | _ => ∃ pa pc, v = .agg #[.int .i64 a, .int .i64 b, .int .i64 c, .int .i64 d, .int .i64 e, .int .i64 f, .slice pa n pc] ∧ Own w' w2.heap.size 3 .i64 (.slice pa n pc) (List.replicate n m)) (by kernel_rfl) (by kernel_rfl) 25 (by kernel_rfl) (by rfl) ?_ ?_ ?_
  · intro i hi v u1 u2 hb h
    match i, hi with
    | 0, _ => exact h
    | 1, _ => exact h
    | 2, _ => obtain ⟨g, h1, h2⟩ := h; exact ⟨g, h1, cell_later hb h2⟩
    | 3, _ => exact h
    | 4, _ => exact h
    | 5, _ => obtain ⟨pa, pc, h1, h2⟩ := h; exact ⟨pa, pc, h1, h2.below hb⟩
    | 6, _ => obtain ⟨pa, pc, h1, h2⟩ := h; exact ⟨pa, pc, h1, h2.below hb⟩
  · intro i o hi ho ρ w1 hb hc1 hc2 hc3 hk
    match i, hi with
    | 0, _ =>
      obtain rfl := Option.some.inj ho
      have h2 : ρ (.tmp 2) = .pointer (some ⟨w.heap.size, 0, none⟩) := hk 2 (by simp [Op.operands])
      have k1 := kB.out.later hb
      have c0 := k1.cell 0 rfl
      have c1 := k1.cell 1 rfl
      have c2 := k1.cell 2 rfl
      have c3 := k1.cell 3 rfl
      have c4 := k1.cell 4 rfl
      have c5 := k1.cell 5 rfl
      clear hk hb hvol hc he kg hB
      go_simp
      exact Below.refl _ _
    | 1, _ =>
      obtain rfl := Option.some.inj ho
      have h2 : ρ (.tmp 1) = .int .i64 m := hk 1 (by simp [Op.operands])
      clear hk hb hvol hc he kg hB
      go_simp
      exact Below.refl _ _
    | 2, _ =>
      obtain rfl := Option.some.inj ho
      have h2 : ρ (.tmp 19) = .int .i64 m := hk 19 (by simp [Op.operands])
      clear hk hb hvol hc he kg hB
      go_simp
      exact (Below.refl _ _).alloc (Nat.le_refl _) _
    | 3, _ =>
      obtain rfl := Option.some.inj ho
      have h2 : ρ (.tmp 2) = .pointer (some ⟨w.heap.size, 0, none⟩) := hk 2 (by simp [Op.operands])
      have k1 := kB.out.later hb
      have c0 := k1.cell 0 rfl
      have c1 := k1.cell 1 rfl
      have c2 := k1.cell 2 rfl
      have c3 := k1.cell 3 rfl
      have c4 := k1.cell 4 rfl
      have c5 := k1.cell 5 rfl
      clear hk hb hvol hc he kg hB
      go_simp
      exact Below.refl _ _
    | 4, _ =>
      obtain rfl := Option.some.inj ho
      have h2 : ρ (.tmp 21) = .agg #[.int .i64 a, .int .i64 b, .int .i64 c, .int .i64 d, .int .i64 e, .int .i64 f] := hk 21 (by simp [Op.operands, Call.operands])
      have H3 := Bx.mk (hvol.out w1)
      clear hk hb hvol hc he kg hB
      go_simp
      exact H3.out
    | 5, _ =>
      obtain rfl := Option.some.inj ho
      obtain ⟨g, h2, h2'⟩ : ∃ g, ρ (.tmp 20) = .slice (some ⟨g, 0, none⟩) 1 1 ∧ w1.cell? ⟨g, 0, none⟩ = some (.int .i64 m) := hk 20 (by simp [Op.operands, Call.operands])
      have h3 : ρ (.tmp 22) = .int .i64 (n : Int) := hk 22 (by simp [Op.operands, Call.operands])
      have h4 := (repeat_one ⟨g, 0, none⟩ 1 m n hpos hle w1 h2').mono (R' := fun e w'' => ∃ v, e = .returned v ∧ Below w1.heap.size w1 w'' ∧ ∃ pa pc, v = .slice pa n pc ∧ Own w'' w2.heap.size 3 .i64 (.slice pa n pc) (List.replicate n m)) (fun e w'' ⟨v, x, y, z⟩ => by
        obtain ⟨pa, pc, hv, _⟩ := y.form
        rw [List.length_replicate] at hv
        subst hv
        exact ⟨_, x, z, pa, pc, rfl, y.base hb.size⟩)
      have H4 := Bx.mk h4
      clear hk hb hvol hc he kg hB h4 h2'
      go_simp
      exact H4.out
    | 6, _ =>
      obtain rfl := Option.some.inj ho
      have h2 : ρ (.tmp 18) = .agg #[.int .i64 a, .int .i64 b, .int .i64 c, .int .i64 d, .int .i64 e, .int .i64 f] := hk 18 (by simp [Op.operands])
      obtain ⟨pa, pc, h3, h4⟩ : ∃ pa pc, ρ (.tmp 23) = .slice pa n pc ∧ Own w1 w2.heap.size 3 .i64 (.slice pa n pc) (List.replicate n m) := hk 23 (by simp [Op.operands])
      have H4 := Bx.mk h4
      clear hk hb hvol hc he kg hB h4
      go_simp
      exact ⟨Below.refl _ _, pa, pc, ⟨rfl, rfl⟩, H4.out⟩
  · intro vs W1 hlen hb hR
    match vs, hlen with
    | [v0, v1, v2, v3, v4, v5, v6], _ =>
      have r0 : v0 = .agg #[.int .i64 a, .int .i64 b, .int .i64 c, .int .i64 d, .int .i64 e, .int .i64 f] := hR 0 v0 rfl
      have r1 : v1 = .int .i64 m := hR 1 v1 rfl
      obtain ⟨g2, r2, _⟩ : ∃ g, v2 = .slice (some ⟨g, 0, none⟩) 1 1 ∧ W1.cell? ⟨g, 0, none⟩ = some (.int .i64 m) := hR 2 v2 rfl
      have r3 : v3 = .agg #[.int .i64 a, .int .i64 b, .int .i64 c, .int .i64 d, .int .i64 e, .int .i64 f] := hR 3 v3 rfl
      have r4 : v4 = .int .i64 (n : Int) := hR 4 v4 rfl
      obtain ⟨p5, c5, r5, _⟩ : ∃ pa pc, v5 = .slice pa n pc ∧ Own W1 w2.heap.size 3 .i64 (.slice pa n pc) (List.replicate n m) := hR 5 v5 rfl
      obtain ⟨pa, pc, r6, hown⟩ : ∃ pa pc, v6 = .agg #[.int .i64 a, .int .i64 b, .int .i64 c, .int .i64 d, .int .i64 e, .int .i64 f, .slice pa n pc] ∧ Own W1 w2.heap.size 3 .i64 (.slice pa n pc) (List.replicate n m) := hR 6 v6 rfl
      subst r0 r1 r2 r3 r4 r5 r6
      clear hR kb kB
      have hBase := hB.size
      have kg1 := kg.later hb
      have hB1 := hB.trans (hb.mono hB.size)
      have cg0 := kg1.cell 0 rfl
      have fg0 := kg1.frozen 0
      have cg1 := kg1.cell 1 rfl
      have fg1 := kg1.frozen 1
      have cg2 := kg1.cell 2 rfl
      have fg2 := kg1.frozen 2
      have cg3 := kg1.cell 3 rfl
      have fg3 := kg1.frozen 3
      have cg4 := kg1.cell 4 rfl
      have fg4 := kg1.frozen 4
      have cg5 := kg1.cell 5 rfl
      have fg5 := kg1.frozen 5
      have cg6 := kg1.cell 6 rfl
      have fg6 := kg1.frozen 6
      clear kg hb hB hvol hc he
      have Hown := Bx.mk hown
      clear hown
      simp only [puts, List.take_succ_cons, List.take_zero, List.drop_succ_cons, List.drop_zero, List.map_cons, List.map_nil, List.zip_cons_cons, List.zip_nil_right, List.foldl_cons, List.foldl_nil]
      go_wp2_with fail
      replace kg1 := kg1.put7 (.int .i64 a) (.int .i64 b) (.int .i64 c) (.int .i64 d) (.int .i64 e) (.int .i64 f) (.slice pa n pc)
      have z0 := kg1.cell 0 rfl
      have z1 := kg1.cell 1 rfl
      have z2 := kg1.cell 2 rfl
      have z3 := kg1.cell 3 rfl
      have z4 := kg1.cell 4 rfl
      have z5 := kg1.cell 5 rfl
      have z6 := kg1.cell 6 rfl
      exact bodyPost_ret (v := .tuple #[.agg #[.int .i64 a, .int .i64 b, .int .i64 c, .int .i64 d, .int .i64 e, .int .i64 f, .slice pa n pc], .int .i64 0]) (by simp [results, Tryz.results62, go_sem, z0, z1, z2, z3, z4, z5, z6]) rfl ⟨pa, pc, by simp, by
        have := Hown.out
        simp only [List.length_replicate]
        exact (((((((this.setBelow (by simp; omega) _).setBelow (by simp; omega) _).setBelow (by simp; omega) _).setBelow (by simp; omega) _).setBelow (by simp; omega) _).setBelow (by simp; omega) _).setBelow (by simp; omega) _).base hBase, blw7 hB1 (by omega) _ _ _ _ _ _ _⟩
end Go.Proofs.YtabclecmehdeoaaGreat
end
