/- What a change of some blocks leaves; arrays as values. -/
import Derived.Test.YtaajkhdmeghnbaaDk
import Derived.Test.YtaajkhdmeghnbaaReg
import Derived.Deep.MidRow
import Derived.Laws.Tables
import Derived.Maps.OwnSet
import Derived.Deep.QuietTactic
import Derived.Laws.CopyRow
namespace Go.Proofs.Ytaajkhdmeghnbaa
open Go.RowKit

/-- the value of an array of these numbers -/
def arrV (k : IntKind) (xs : List Int) : Value := .agg (xs.map (Value.int k)).toArray
theorem one_ints (k : IntKind) (xs : List Int) : (xs.map (Value.int k)).toArray.all (·.oneCell') = true := by
  rw [Array.all_eq_true_iff_forall_mem]
  intro v hv
  simp only [List.mem_toArray, List.mem_map] at hv
  obtain ⟨x, _, rfl⟩ := hv
  rfl
/-- a whole array, or struct, out of its block -/
theorem wpList_load_whole {P : Program} {ops : Array Oper} {rest : List Oper} {op : Oper} {a : Act} {w : World} {Q : Exit → Act → World → Prop} (hgd : op.guard = none) (ty : TypeId) (x : Operand) (ho : op.op = .load ty x)
    (g : Nat) (hx : a.eval x = .pointer (some ⟨g, 0, none⟩)) (cs : Array Value) (t : TypeId) (hg : w.heap[g]? = some (.cells cs t (0, 0))) (d : TypeDesc)
    (hu : P.underlying ty = some d) (hd : (match d with | .struct _ | .array _ _ => true | _ => false) = true) (hi : (P.info? ty).map (·.size) = some cs.size)
    (h : wpList P ops Q rest (a.put op.dst (.agg cs)) w) : wpList P ops Q (op :: rest) a w := by
  refine wpList_plain hgd fun K hK => ?_
  unfold Oper.wp execOp
  simp only [ho, hx, Instr.loadAt, Instr.sureAddr, Sem.run_bind, Sem.run_pure, Result.andThen_ok, run_loadVar_row w g t ty cs (0, 0) d hg hu hd hi]
  exact hK _ _ h
/-- a whole array into its block -/
theorem wpList_store_whole {P : Program} {ops : Array Oper} {rest : List Oper} {op : Oper} {a : Act} {w : World} {Q : Exit → Act → World → Prop} (hgd : op.guard = none) (ty : TypeId) (x y : Operand) (ho : op.op = .store ty x y)
    (g : Nat) (hx : a.eval x = .pointer (some ⟨g, 0, none⟩)) (cs cs' : Array Value) (hy : a.eval y = .agg cs') (t : TypeId) (hg : w.heap[g]? = some (.cells cs t (0, 0)))
    (hi : (P.info? ty).map (·.size) = some cs'.size) (hs : cs.size = cs'.size) (h1 : cs'.all (·.oneCell') = true)
    (h : wpList P ops Q rest (a.put op.dst undef) (w.setRow g cs')) : wpList P ops Q (op :: rest) a w := by
  refine wpList_plain hgd fun K hK => ?_
  unfold Oper.wp execOp
  have hr := run_storeVar_row (P := P) w g t ty cs cs' hg hi hs h1
  simp only [ho, hx, hy, Instr.storeAt, Instr.sureAddr, Sem.run_bind, Sem.run_pure, Result.andThen_ok, hr]
  exact hK _ _ h
theorem first_str {P : Program} (w : World) (s : List Int) (hs : Byt s) : (Builtin.firstCells 1 s.length (.string (strOfNums s))).run P w = .ok (s.map (Value.int .u8)).toArray w := by
  have h1 : (strOfNums s).extract 0 s.length = strOfNums s := by
    rw [str_extract, List.drop_zero, Nat.sub_zero, List.take_length]
  show (pure (((strOfNums s).extract 0 s.length).data.map fun b => Value.int .u8 (b.toNat : Int)) : Sem (Array Value)).run P w = _
  rw [h1]
  have h2 : ((strOfNums s).data.map fun b => Value.int .u8 (b.toNat : Int)) = (s.map (Value.int .u8)).toArray := by
    have h3 := bs_str hs
    apply Array.ext'
    rw [Array.toList_map]
    conv => rhs; rw [← h3]
    unfold bs
    rw [List.map_map]
    rfl
  rw [h2]
  rfl
theorem put_cells (ys : List Int) (o : Nat) (s : List Int) : (((ys.map (Value.int .u8)).toArray.toList.take o ++ s.map (Value.int .u8) ++ (ys.map (Value.int .u8)).toArray.toList.drop (o + (s.map (Value.int .u8)).length)).toArray) = ((put ys o s).map (Value.int .u8)).toArray := by
  unfold put
  simp
theorem run_copy_str {P : Program} (w : World) (dT sT ty elem : TypeId) (g o dLen dCap : Nat) (t : TypeId) (ys s : List Int) (hs : Byt s)
    (hu : P.underlying dT = some (.slice elem)) (hsz : (P.info? elem).map (·.size) = some 1) (hg : w.heap[g]? = some (.cells (ys.map (Value.int .u8)).toArray t (0, 0))) (hn : s.length ≤ dLen) (hfit : o + s.length ≤ ys.length) :
    (Builtin.copy_ #[dT, sT] ty #[.slice (some ⟨g, o, none⟩) dLen dCap, .string (strOfNums s)]).run P w = .ok (goInt s.length) (w.setRow g ((put ys o s).map (Value.int .u8)).toArray) := by
  have hst := run_storeCells_at P g o t (s.map (Value.int .u8)) 0 _ w hg (by simpa using hfit) (fun v hv => by
    obtain ⟨x, _, rfl⟩ := List.mem_map.1 hv
    rfl)
  have hf := first_str (P := P) w s hs
  have hm : Nat.min (strOfNums s).size dLen = s.length := by rw [strOfNums_size]; exact Nat.min_eq_left hn
  rw [Nat.add_zero, put_cells] at hst
  cases hq : P.info? elem with
  | none => simp [hq] at hsz
  | some i =>
    have hi : i.size = 1 := by simpa [hq] using hsz
    simp [Builtin.copy_, run_underlying hu, Builtin.lenOf, sizeOf, typeInfo, hq, hi, hm, hf, hst]
theorem wpList_copy_str {P : Program} {w : World} {ops : Array Oper} {rest : List Oper} {o : Oper} {a : Act} {Q : Exit → Act → World → Prop} (hgd : o.guard = none) (d s : Operand) (dT sT : TypeId)
    (ho : o.op = .call { callee := .builtin .copy, args := #[d, s], argTypes := #[dT, sT] }) (elem : TypeId) (hu : P.underlying dT = some (.slice elem)) (hsz : (P.info? elem).map (·.size) = some 1)
    (g off dLen dCap : Nat) (hd : a.eval d = .slice (some ⟨g, off, none⟩) dLen dCap) (ys xs : List Int) (hx : Byt xs) (hs : a.eval s = .string (strOfNums xs)) (t : TypeId)
    (hg : w.heap[g]? = some (.cells (ys.map (Value.int .u8)).toArray t (0, 0))) (hn : xs.length ≤ dLen) (hfit : off + xs.length ≤ ys.length)
    (h : wpList P ops Q rest (a.put o.dst (goInt xs.length)) (w.setRow g ((put ys off xs).map (Value.int .u8)).toArray)) : wpList P ops Q (o :: rest) a w := by
  refine wpList_plain hgd fun K hK => ?_
  have hr := run_copy_str (P := P) w dT sT o.type elem g off dLen dCap t ys xs hx hu hsz hg hn hfit
  unfold Oper.wp execOp
  simp only [ho, resolve, invoke, builtin, Sem.run_bind, Sem.run_pure, Result.andThen_ok, List.map_toArray, List.map_cons, List.map_nil, hd, hs, hr]
  exact hK _ _ h
/-- in the head of a region that draws its order: a whole array out of the midst of a block -/
theorem wpQuiet_load_mid {P : Program} {ops : Array Oper} {C : World → Prop} {Q : Act → Prop} {a : Act} {o : Oper} {rest : List Oper} (hgd : o.guard = none) (ty : TypeId) (x : Operand) (ho : o.op = .load ty x)
    (b off : Nat) (hx : a.eval x = .pointer (some ⟨b, off, none⟩)) (cs : List Value) (d : TypeDesc) (hc : ∀ w, C w → w.rangeAt b off cs)
    (hu : P.underlying ty = some d) (hd : d.isRow = true) (hi : (P.info? ty).map (·.size) = some cs.length)
    (h : wpQuiet P ops C Q rest (a.put o.dst (.agg cs.toArray))) : wpQuiet P ops C Q (o :: rest) a := by
  refine wpQuiet_step fun K hK => ?_
  have hw : Region.wanted o (yielded ops a.tmps) = true := by unfold Region.wanted; rw [hgd]
  rw [if_pos hw]
  refine ⟨.agg cs.toArray, fun w hCw => ?_, hK _ h⟩
  unfold Oper.quietAt execOp
  simp only [ho, hx, Instr.loadAt, Instr.sureAddr, Sem.run_bind, Sem.run_pure, Result.andThen_ok, run_loadVar_mid w b off ty cs d (hc w hCw) hu hd hi]
  exact ⟨rfl, rfl⟩
/-- all but the blocks of S, and new ones, is as it was -/
structure Chg (S : Nat → Prop) (w w' : World) : Prop where
  os : w'.os = w.os
  tape : w'.tape = w.tape
  output : w'.output = w.output
  size : w.heap.size ≤ w'.heap.size
  block : ∀ k, k < w.heap.size → ¬ S k → w'.heap[k]? = w.heap[k]?
section
variable {S T : Nat → Prop} {w w1 w' : World}
theorem Chg.refl (S : Nat → Prop) (w : World) : Chg S w w := ⟨rfl, rfl, rfl, Nat.le_refl _, fun _ _ _ => rfl⟩
theorem Chg.ofBelow (h : Below w.heap.size w w') (S : Nat → Prop) : Chg S w w' := ⟨h.os, h.tape, h.output, h.size, fun k hk _ => h.block k hk⟩
theorem Chg.ofGrown {b : Nat} (h : w.grownBy w' (some b)) : Chg (· = b) w w' := ⟨h.os, h.tape, h.output, h.size, fun k hk hn => h.block k hk (by simpa using hn)⟩
theorem Chg.ofBlock {b : Nat} {es : Array MapEntry} {c : Nat} (_h : w.heap[b]? = some (.map es c)) (o : Obj) : Chg (· = b) w (Go.ChangeMaps.setBlock w b o) :=
  ⟨rfl, rfl, rfl, by simp [Go.ChangeMaps.setBlock], fun k _ hn => by simp only [Go.ChangeMaps.setBlock]; rw [Array.getElem?_setIfInBounds_ne (fun e => hn e.symm)]⟩
theorem Chg.mono (h : Chg S w w') (hs : ∀ k, k < w.heap.size → S k → T k) : Chg T w w' := ⟨h.os, h.tape, h.output, h.size, fun k hk hn => h.block k hk fun e => hn (hs k hk e)⟩
theorem Chg.trans (h : Chg S w w1) (h' : Chg T w1 w') (hs : ∀ k, k < w.heap.size → T k → S k) : Chg S w w' :=
  ⟨h'.os.trans h.os, h'.tape.trans h.tape, h'.output.trans h.output, Nat.le_trans h.size h'.size, fun k hk hn => (h'.block k (Nat.lt_of_lt_of_le hk h.size) fun e => hn (hs k hk e)).trans (h.block k hk hn)⟩
theorem Chg.below {B : Nat} (h : Chg S w w') (hB : B ≤ w.heap.size) (hs : ∀ k, k < B → ¬ S k) : Below B w w' := ⟨h.os, h.tape, h.output, h.size, fun k hk => h.block k (Nat.lt_of_lt_of_le hk hB) (hs k hk)⟩
theorem Chg.setCell (h : Chg S w w') {a : Addr} (ha : S a.block ∨ w.heap.size ≤ a.block) (v : Value) : Chg S w (w'.setCell a v) :=
  ⟨h.os, h.tape, h.output, by simpa [World.setCell] using h.size, fun k hk hn => by
    rw [heap_setCell_other w' a k v (fun e => by subst e; rcases ha with h1 | h1 <;> first | exact hn h1 | omega)]
    exact h.block k hk hn⟩
theorem Chg.later {B : Nat} (h : Chg S w w1) (hb : Below B w1 w') (hB : w.heap.size ≤ B) : Chg S w w' :=
  ⟨hb.os.trans h.os, hb.tape.trans h.tape, hb.output.trans h.output, Nat.le_trans h.size hb.size, fun k hk hn => (hb.block k (by omega)).trans (h.block k hk hn)⟩
theorem Bk.chg {b : Nat} {cs : Array Value} {t : TypeId} (h : Bk w b cs t) (hc : Chg S w w') (hn : ¬ S b) : Bk w' b cs t := by
  unfold Bk; rw [hc.block b (Bk.lt h) hn]; exact h
end
theorem heap_setCells_other (b : Nat) : ∀ (vs : List Value) (o : Nat) (w : World) (k : Nat), k ≠ b → (w.setCells b o vs).heap[k]? = w.heap[k]?
  | [], _, _, _, _ => rfl
  | v :: vs, o, w, k, hk => by
    unfold World.setCells
    rw [heap_setCells_other b vs _ _ k hk, heap_setCell_other w ⟨b, o, none⟩ k v hk]
theorem setCells_rest (b : Nat) : ∀ (vs : List Value) (o : Nat) (w : World), (w.setCells b o vs).os = w.os ∧ (w.setCells b o vs).tape = w.tape ∧ (w.setCells b o vs).output = w.output ∧ (w.setCells b o vs).heap.size = w.heap.size
  | [], _, _ => ⟨rfl, rfl, rfl, rfl⟩
  | v :: vs, o, w => by
    unfold World.setCells
    obtain ⟨h1, h2, h3, h4⟩ := setCells_rest b vs (o + 1) (w.setCell ⟨b, o, none⟩ v)
    exact ⟨h1, h2, h3, h4.trans (by simp [World.setCell])⟩
theorem Chg.setCells {S : Nat → Prop} {w w' : World} (h : Chg S w w') {b : Nat} (hb : S b ∨ w.heap.size ≤ b) (o : Nat) (vs : List Value) : Chg S w (w'.setCells b o vs) := by
  obtain ⟨h1, h2, h3, h4⟩ := setCells_rest b vs o w'
  exact ⟨h1.trans h.os, h2.trans h.tape, h3.trans h.output, by rw [h4]; exact h.size, fun k hk hn => by
    rw [heap_setCells_other b vs o w' k (fun e => by subst e; rcases hb with h1 | h1 <;> first | exact hn h1 | omega)]
    exact h.block k hk hn⟩
/-- the contents of the pages, in block g -/
structure Pages (w : World) (g : Nat) (p : List Pg) : Prop where
  at_ : ∀ i x, p[i]? = some x → w.rangeAt g (i * 128) (x.1.map (Value.int .u8))
  free : w.there g 0 (p.length * 128)
  lt : g < w.heap.size
section
variable {w w' : World} {g : Nat} {p : List Pg}
theorem cell_of_heap {w w' : World} {b : Nat} (h : w'.heap[b]? = w.heap[b]?) (o : Nat) : w'.cell? ⟨b, o, none⟩ = w.cell? ⟨b, o, none⟩ := World.cell?_of_block h
theorem frozen_of_heap {w w' : World} {b : Nat} (h : w'.heap[b]? = w.heap[b]?) (o : Nat) : w'.frozen? ⟨b, o, none⟩ = w.frozen? ⟨b, o, none⟩ := by unfold World.frozen?; rw [h]
theorem Pages.of_heap (h : Pages w g p) (he : w'.heap[g]? = w.heap[g]?) (hs : w.heap.size ≤ w'.heap.size) : Pages w' g p :=
  ⟨fun i x hx j v hv => (cell_of_heap he _).trans (h.at_ i x hx j v hv), fun j hj => by rw [cell_of_heap he, frozen_of_heap he]; exact h.free j hj, Nat.lt_of_lt_of_le h.lt hs⟩
theorem Pages.chg {S : Nat → Prop} (h : Pages w g p) (hc : Chg S w w') (hn : ¬ S g) : Pages w' g p := h.of_heap (hc.block g h.lt hn) hc.size
theorem Pages.later (h : Pages w g p) (hb : Below w.heap.size w w') : Pages w' g p := h.chg (.ofBelow hb (fun _ => False)) (fun e => e)
theorem Pages.there (h : Pages w g p) {i : Nat} (hi : i < p.length) : w.there g (i * 128) 128 := fun j hj => by
  have := h.free (i * 128 + j) (by omega)
  rwa [Nat.zero_add] at this
/-- only the contents count -/
theorem Pages.same {q : List Pg} (h : Pages w g p) (hq : q.map (·.1) = p.map (·.1)) : Pages w g q := by
  have hl : q.length = p.length := by simpa using congrArg List.length hq
  refine ⟨fun i x hx => ?_, by rw [hl]; exact h.free, h.lt⟩
  have h1 : (q.map (·.1))[i]? = some x.1 := by rw [List.getElem?_map, hx]; rfl
  rw [hq, List.getElem?_map] at h1
  cases h2 : p[i]? with
  | none => rw [h2] at h1; cases h1
  | some y =>
    rw [h2] at h1
    injection h1 with h1
    rw [← h1]; exact h.at_ i y h2
/-- n bytes of page i, from byte o on, are stored -/
theorem Pages.put (h : Pages w g p) {i o : Nat} {ys : List Int} (hl : ∀ x ∈ p, x.1.length = 128) (ho : o + ys.length ≤ 128) (f : Pg → Pg) (hf : ∀ x, p[i]? = some x → (f x).1 = Go.Proofs.Ytaajkhdmeghnbaa.put x.1 o ys) :
    Pages (w.setCells g (i * 128 + o) (ys.map (Value.int .u8))) g (p.modify i f) := by
  obtain ⟨_, _, _, hsz⟩ := setCells_rest g (ys.map (Value.int .u8)) (i * 128 + o) w
  refine ⟨fun k x hx => ?_, ?_, by rw [hsz]; exact h.lt⟩
  · rw [List.getElem?_modify] at hx
    cases hk : p[k]? with
    | none => rw [hk] at hx; cases hx
    | some y =>
      have hy := hl y (List.mem_of_getElem? hk)
      rw [hk] at hx
      by_cases e : i = k
      · subst e
        simp only [if_true] at hx
        replace hx : f y = x := by injection hx
        subst hx
        rw [hf y hk]
        intro j v hv
        have hi := (List.getElem?_eq_some_iff.1 hk).1
        rw [List.getElem?_map] at hv
        unfold Go.Proofs.Ytaajkhdmeghnbaa.put at hv
        by_cases h1 : j < o
        · rw [World.cell?_setCells_out _ _ _ _ _ (fun _ _ => by left; show i * 128 + j < _; omega)]
          refine h.at_ i y hk j v ?_
          rw [List.append_assoc, List.getElem?_append_left (by rw [List.length_take]; omega), List.getElem?_take, if_pos h1] at hv
          rw [List.getElem?_map]; exact hv
        · by_cases h2 : j < o + ys.length
          · rw [List.append_assoc, List.getElem?_append_right (by rw [List.length_take]; omega), List.length_take, List.getElem?_append_left (by omega)] at hv
            have hj : j - o < (ys.map (Value.int .u8)).length := by rw [List.length_map]; omega
            have := World.cell?_setCells_in g (ys.map (Value.int .u8)) (i * 128 + o) w (fun j' hj' => by
              have := (h.there hi (o + j') (by rw [List.length_map] at hj'; omega)).1
              rwa [← Nat.add_assoc] at this) (j - o) hj
            rw [show i * 128 + o + (j - o) = i * 128 + j by omega] at this
            rw [this, ← hv]
            rw [show j - min o y.1.length = j - o by omega]
            rw [← List.getElem?_eq_getElem hj, List.getElem?_map]
          · rw [World.cell?_setCells_out _ _ _ _ _ (fun _ _ => by right; show _ ≤ i * 128 + j; rw [List.length_map]; omega)]
            refine h.at_ i y hk j v ?_
            rw [List.append_assoc, List.getElem?_append_right (by rw [List.length_take]; omega), List.length_take, List.getElem?_append_right (by omega), List.getElem?_drop] at hv
            rw [List.getElem?_map, ← hv]
            congr 2
            omega
      · simp only [if_neg e] at hx
        replace hx : y = x := by simpa using hx
        subst hx
        refine World.rangeAt_setCells_apart (h.at_ k y hk) _ _ _ (.inr ?_)
        rw [List.length_map, List.length_map, hy]
        omega
  · rw [List.length_modify]
    exact World.there_setCells h.free _ _ _
end
end Go.Proofs.Ytaajkhdmeghnbaa
