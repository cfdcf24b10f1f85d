/- Slices of one-cell values, of strings: read as lists, owned, appended to. -/
import Derived.Test.YtaajkhdmeghnbaaStr
namespace Go.Proofs.Ytaajkhdmeghnbaa
open Go.RowKit

/-- the slice that begins at a reads as these values -/
def Slv (w : World) (a : Option Addr) (vs : List Value) : Prop := ∀ i v, vs[i]? = some v → ∃ b off, a = some ⟨b, off, none⟩ ∧ w.cell? ⟨b, off + i, none⟩ = some v
theorem Slv.nil (w : World) (a : Option Addr) : Slv w a [] := fun i x h => by simp at h
theorem Slv.below {w w' : World} {a : Option Addr} {vs : List Value} (h : Slv w a vs) (hb : Below w.heap.size w w') : Slv w' a vs := by
  intro i x hx
  obtain ⟨b, off, rfl, hc⟩ := h i x hx
  exact ⟨b, off, rfl, cell_later hb hc⟩
/-- v is a slice of these values in a row of the call's own (from block B on), or nil -/
def Ownv (w : World) (B : Nat) (e : TypeId) (v : Value) (vs : List Value) : Prop := w.ownsRow B e 1 v vs.length vs
theorem Ownv.nil (w : World) (B : Nat) (e : TypeId) : Ownv w B e (.slice none 0 0) [] := World.ownsRow_nil w B e 1
theorem Ownv.form {w : World} {B : Nat} {e : TypeId} {v : Value} {vs : List Value} (h : Ownv w B e v vs) : ∃ a cap, v = .slice a vs.length cap ∧ Slv w a vs := by
  rcases h.2 with ⟨rfl, hn⟩ | ⟨g, cap, cur, rfl, hb, hg, hnc, hcm, hcs, ht⟩
  · have hx : vs = [] := List.eq_nil_of_length_eq_zero hn
    subst hx
    exact ⟨none, 0, rfl, Slv.nil _ _⟩
  · refine ⟨_, cap, rfl, fun i x hx => ⟨g, 0, rfl, ?_⟩⟩
    have hi : i < vs.length := (List.getElem?_eq_some_iff.1 hx).1
    have hcell : w.cell? ⟨g, i, none⟩ = cur[i]? := by simp [World.cell?, hg]
    rw [Nat.zero_add, hcell]
    rw [← ht, List.getElem?_take, if_pos (by omega)] at hx
    simpa using hx
theorem Ownv.form1 {w : World} {B : Nat} {e : TypeId} {v : Value} {vs : List Value} (h : Ownv w B e v vs) (hn : 0 < vs.length) : ∃ g cap, v = .slice (some ⟨g, 0, none⟩) vs.length cap ∧ Slv w (some ⟨g, 0, none⟩) vs ∧ B ≤ g ∧ g < w.heap.size := by
  obtain ⟨a, cap, he, hs⟩ := h.form
  rcases h.2 with ⟨_, hz⟩ | ⟨g, cap', cur, hv, hb, hg, _⟩
  · omega
  · rw [hv] at he
    injection he with h1 h2 h3
    exact ⟨g, cap', hv, by rw [h1]; exact hs, hb, (Array.getElem?_eq_some_iff.1 hg).1⟩
/-- what a change of another row leaves -/
theorem Slv.grown {w w' : World} {g off : Nat} {vs : List Value} {row : Option Nat} (h : Slv w (some ⟨g, off, none⟩) vs) (hg : w.grownBy w' row) (hne : row ≠ some g) : Slv w' (some ⟨g, off, none⟩) vs := by
  intro i x hx
  obtain ⟨b, o, he, hc⟩ := h i x hx
  simp only [Option.some.injEq, Addr.mk.injEq, and_true] at he
  obtain ⟨rfl, rfl⟩ := he
  refine ⟨_, _, rfl, ?_⟩
  have hlt := World.block_lt_of_cell? w _ hc
  rw [World.cell?_of_block (hg.block _ hlt (fun e => hne e.symm))]; exact hc
theorem Ownv.sl {w : World} {B : Nat} {e : TypeId} {a : Option Addr} {n c : Nat} {vs : List Value} (h : Ownv w B e (.slice a n c) vs) : Slv w a vs := by
  obtain ⟨a', c', he, hs⟩ := h.form
  injection he with h1 h2 h3
  subst h1; exact hs
theorem Ownv.lt {w : World} {B : Nat} {e : TypeId} {v : Value} {vs : List Value} (h : Ownv w B e v vs) : ∀ g, v.ownBlock = some g → B ≤ g ∧ g < w.heap.size := World.ownsRow.lt h
theorem Ownv.below {w w' : World} {B : Nat} {e : TypeId} {v : Value} {vs : List Value} (h : Ownv w B e v vs) (hb : Below w.heap.size w w') : Ownv w' B e v vs :=
  World.ownsRow.kept (row := none) h ⟨hb.os, hb.tape, hb.output, hb.size, fun i hi _ => hb.block i hi⟩ (by cases v.ownBlock <;> simp)
theorem Ownv.alloc {w : World} {B : Nat} {e : TypeId} {v : Value} {vs : List Value} (h : Ownv w B e v vs) (o : Obj) : Ownv (w.alloc o) B e v vs := World.ownsRow.alloc h o
theorem Ownv.base {w : World} {B B' : Nat} {e : TypeId} {v : Value} {vs : List Value} (h : Ownv w B e v vs) (hB : B' ≤ B) : Ownv w B' e v vs := by
  refine ⟨h.1, h.2.imp id ?_⟩
  rintro ⟨g, cap, cur, h1, h2, h3⟩
  exact ⟨g, cap, cur, h1, Nat.le_trans hB h2, h3⟩
theorem Ownv.grown {w w' : World} {B : Nat} {e : TypeId} {v : Value} {vs : List Value} (h : Ownv w B e v vs) {row : Option Nat} (hg : w.grownBy w' row) (hne : v.ownBlock = none ∨ v.ownBlock ≠ row) : Ownv w' B e v vs := World.ownsRow.kept h hg hne
/-- append of one value -/
theorem wpList_append_val {P : Program} {w : World} {ops : Array Oper} {rest : List Oper} {o : Oper} {a : Act} {Q : Exit → Act → World → Prop} (hgd : o.guard = none) (s x : Operand) (t : TypeId)
    (ho : o.op = .call { callee := .builtin .append, args := #[s, x], argTypes := #[t, t] })
    (e : TypeId) (z : Value) (bytes : Nat) (hbz : bytes ≤ 24) (ht : P.underlying t = some (.slice e))
    (hi : (P.info? e).map (fun i => (i.zero, i.size, i.bytes)) = some (some z, 1, bytes)) (hzs : z.cells.size = 1)
    (B : Nat) (v : Value) (vs : List Value) (hs : a.eval s = v) (hown : Ownv w B e v vs) (u : Value) (hu1 : u.oneCell' = true)
    (ad : Addr) (c : Nat) (hx : a.eval x = .slice (some ad) 1 c) (hcell : w.cell? ad = some u) (hlen : vs.length ≤ 1000000000) (hbase : B ≤ w.heap.size)
    (h : ∀ v' w', Ownv w' B e v' (vs ++ [u]) → w.grownBy w' v.ownBlock → (v'.ownBlock = v.ownBlock ∨ v'.ownBlock = some w.heap.size) → wpList P ops Q rest (a.put o.dst v') w') :
    wpList P ops Q (o :: rest) a w := by
  obtain ⟨i0, hi0, hz0, hz1, hz2⟩ := info_parts hi
  refine wpList_plain hgd fun K hK => ?_
  have hnews : ∀ j u', [u][j]? = some u' → w.cell? (ad.add j) = some u' := by
    intro j u' hu
    match j with
    | 0 => simp at hu; subst hu; simpa [Addr.add] using hcell
    | j + 1 => simp at hu
  obtain ⟨v', w', hr, h2, h3, _, h4⟩ := run_append_own_at (P := P) w B t o.type e i0 z 1 bytes ht hi0 hz0 hz1 hz2 hzs (by omega) v vs.length _ hown ad 1 c [u] rfl hnews (by simpa using hu1)
    (by simp only [maxLen]; omega) (by have : (vs.length + 1) * bytes ≤ (vs.length + 1) * 24 := Nat.mul_le_mul_left _ hbz; omega) hbase
  unfold Oper.wp execOp
  simp only [ho, resolve, invoke, builtin, Sem.run_bind, Sem.run_pure, Result.andThen_ok, List.map_toArray, List.map_cons, List.map_nil, hs, hx, hr]
  exact hK _ _ (h v' w' (by unfold Ownv; simpa using h2) h3 h4)
/-- texts as values -/
def strs (ls : List (List Int)) : List Value := ls.map fun l => .string (strOfNums l)
theorem strs_length (ls : List (List Int)) : (strs ls).length = ls.length := by unfold strs; rw [List.length_map]
theorem strs_at {ls : List (List Int)} {i : Nat} {l : List Int} (h : ls[i]? = some l) : (strs ls)[i]? = some (.string (strOfNums l)) := by unfold strs; rw [List.getElem?_map, h]; rfl
theorem strs_snoc (ls : List (List Int)) (l : List Int) : strs (ls ++ [l]) = strs ls ++ [.string (strOfNums l)] := by unfold strs; rw [List.map_append]; rfl
/-- the first n cells of the row of a slice are as they were -/
def RowKeeps (w w' : World) (v : Value) (n : Nat) : Prop := ∀ g, v.ownBlock = some g → ∀ cur e, w.heap[g]? = some (.cells cur e (0, 0)) → ∃ cur', w'.heap[g]? = some (.cells cur' e (0, 0)) ∧ cur'.size = cur.size ∧ cur'.toList.take n = cur.toList.take n
/-- what an appending to a slice of n values leaves: new blocks, and what lies behind them in the slice's row -/
structure Added (w w' : World) (v v' : Value) (n : Nat) : Prop where
  grown : w.grownBy w' v.ownBlock
  keeps : RowKeeps w w' v n
  where_ : v'.ownBlock = v.ownBlock ∨ ∀ g, v'.ownBlock = some g → w.heap.size ≤ g
theorem Added.refl (w : World) (v : Value) (n : Nat) : Added w w v v n := ⟨⟨rfl, rfl, rfl, Nat.le_refl _, fun _ _ _ => rfl⟩, fun _ _ cur _e h => ⟨cur, h, rfl, rfl⟩, .inl rfl⟩
theorem Added.below {w w1 w' : World} {v v' : Value} {n : Nat} (h : Added w w1 v v' n) (hb : Below w1.heap.size w1 w') : Added w w' v v' n := by
  refine ⟨⟨hb.os.trans h.grown.os, hb.tape.trans h.grown.tape, hb.output.trans h.grown.output, Nat.le_trans h.grown.size hb.size, fun k hk hne => (hb.block k (Nat.lt_of_lt_of_le hk h.grown.size)).trans (h.grown.block k hk hne)⟩, fun g hg cur e hc => ?_, h.where_⟩
  obtain ⟨cur', h1, h2, h3⟩ := h.keeps g hg cur e hc
  exact ⟨cur', (hb.block g (Array.getElem?_eq_some_iff.1 h1).1).trans h1, h2, h3⟩
theorem Added.after {w w1 w' : World} {v v' : Value} {n : Nat} (hb : Below w.heap.size w w1) (h : Added w1 w' v v' n) (hv : ∀ g, v.ownBlock = some g → g < w.heap.size) : Added w w' v v' n := by
  refine ⟨⟨h.grown.os.trans hb.os, h.grown.tape.trans hb.tape, h.grown.output.trans hb.output, Nat.le_trans hb.size h.grown.size, fun k hk hne => (h.grown.block k (Nat.lt_of_lt_of_le hk hb.size) hne).trans (hb.block k hk)⟩, fun g hg cur e hc => ?_, ?_⟩
  · exact h.keeps g hg cur e ((hb.block g (hv g hg)).trans hc)
  · rcases h.where_ with h1 | h1
    · exact .inl h1
    · exact .inr fun g hg => Nat.le_trans hb.size (h1 g hg)
theorem Added.trans {w w1 w' : World} {v v1 v' : Value} {n m : Nat} (h : Added w w1 v v1 n) (h' : Added w1 w' v1 v' m) (hnm : n ≤ m) (hlt : ∀ g, v.ownBlock = some g → g < w.heap.size) : Added w w' v v' n := by
  have hne : ∀ k, k < w.heap.size → some k ≠ v.ownBlock → some k ≠ v1.ownBlock := fun k hk hne e => by
    rcases h.where_ with h1 | h1
    · exact hne (by rw [← h1]; exact e)
    · have := h1 k e.symm; omega
  refine ⟨⟨h'.grown.os.trans h.grown.os, h'.grown.tape.trans h.grown.tape, h'.grown.output.trans h.grown.output, Nat.le_trans h.grown.size h'.grown.size, fun k hk hn => (h'.grown.block k (Nat.lt_of_lt_of_le hk h.grown.size) (hne k hk hn)).trans (h.grown.block k hk hn)⟩, fun g hg cur e hc => ?_, ?_⟩
  · obtain ⟨cur1, h1, h2, h3⟩ := h.keeps g hg cur e hc
    rcases h.where_ with he | he
    · obtain ⟨cur', h4, h5, h6⟩ := h'.keeps g (by rw [he]; exact hg) cur1 e h1
      refine ⟨cur', h4, h5.trans h2, ?_⟩
      have : cur'.toList.take n = cur1.toList.take n := by
        have h7 := congrArg (List.take n) h6
        rwa [List.take_take, List.take_take, Nat.min_eq_left hnm] at h7
      exact this.trans h3
    · refine ⟨cur1, (h'.grown.block g (Array.getElem?_eq_some_iff.1 h1).1 fun e1 => ?_).trans h1, h2, h3⟩
      have := he g e1.symm
      have := hlt g hg
      omega
  · rcases h'.where_ with he | he
    · rw [he]; exact h.where_
    · exact .inr fun g hg => Nat.le_trans h.grown.size (he g hg)
/-- a slice that is no longer than what was appended to is as it was -/
theorem Ownv.keep {w w' : World} {v v' u : Value} {n B : Nat} {e : TypeId} {vs : List Value} (h : Added w w' v v' n) (hu : Ownv w B e u vs) (hn : vs.length ≤ n) : Ownv w' B e u vs := by
  by_cases hs : u.ownBlock = v.ownBlock
  · refine ⟨hu.1, ?_⟩
    rcases hu.2 with h1 | ⟨g, cap, cur, rfl, hb, hg, hnc, hcm, hcs, ht⟩
    · exact .inl h1
    · obtain ⟨cur', h1, h2, h3⟩ := h.keeps g (by rw [← hs]; rfl) cur e hg
      refine .inr ⟨g, cap, cur', rfl, hb, h1, hnc, hcm, h2.trans hcs, ?_⟩
      rw [Nat.mul_one] at ht ⊢
      have h7 := congrArg (List.take vs.length) h3
      rw [List.take_take, List.take_take, Nat.min_eq_left hn] at h7
      exact h7.trans ht
  · exact Ownv.grown hu h.grown (.inr hs)
/-- append of one value -/
theorem run_append_keep {P : Program} (w : World) (base : Nat) (t ty e : TypeId) (i : TypeInfo) (z : Value) (bytes : Nat) (ht : P.underlying t = some (.slice e)) (hi : P.info? e = some i) (hz : i.zero = some z)
    (hsize : i.size = 1) (hby : i.bytes = bytes) (hzs : z.cells.size = 1) (v : Value) (n : Nat) (xs : List Value) (hown : w.ownsRow base e 1 v n xs)
    (a : Addr) (c : Nat) (u : Value) (hnews : ∀ j u', [u][j]? = some u' → w.cell? (a.add j) = some u') (h1 : u.oneCell' = true)
    (h63 : n + 1 ≤ maxLen) (hbytes : (n + 1) * bytes ≤ 140737488355328) (hbase : base ≤ w.heap.size) :
    ∃ v' w', (Builtin.append_ #[t, t] ty #[v, .slice (some a) 1 c]).run P w = .ok v' w' ∧ w'.ownsRow base e 1 v' (n + 1) (xs ++ [u]) ∧ Added w w' v v' n := by
  have h1' : ∀ u' ∈ [u], u'.oneCell' = true := by simpa using h1
  obtain ⟨v', w', hr, h2, h3, _, h4⟩ := run_append_own_at (P := P) w base t ty e i z 1 bytes ht hi hz hsize hby hzs (by omega) v n xs hown a 1 c [u] rfl hnews h1' h63 hbytes hbase
  refine ⟨v', w', hr, h2, h3, ?_, h4.imp id fun e g hg => by rw [e] at hg; injection hg with hg; omega⟩
  rcases hown.2 with ⟨rfl, rfl⟩ | ⟨g, cap, cur, rfl, hbg, hg, hnc, hcm, hcs, htake⟩
  · intro g hg; cases hg
  · intro g1 hg1 cur1 e1 hc1
    injection hg1 with hg1
    change g = g1 at hg1
    subst hg1
    rw [hg] at hc1
    injection hc1 with hc1
    injection hc1 with hc1 hc2
    subst hc1 hc2
    by_cases hroom : n + 1 ≤ cap
    · have hr2 := run_append_room (P := P) w t ty e i ht hi g n cap cur hg a 1 c [u] (by rw [hsize]; rfl) hnews h1' hroom (by rw [hsize, hcs]; simp; omega)
      rw [hr] at hr2
      injection hr2 with e1 e2
      subst e2
      rw [hsize, Nat.mul_one]
      refine ⟨_, setRow_heap w g cur _ e _ hg, ?_, ?_⟩
      · simp only [List.size_toArray, List.length_append, List.length_take, List.length_drop, Array.length_toList, List.length_cons, List.length_nil]
        omega
      · simp only [List.append_assoc]
        rw [List.take_append_of_le_length (by rw [List.length_take, Array.length_toList]; omega), List.take_take, Nat.min_self]
    · have holds : ∀ j u', xs[j]? = some u' → w.cell? ((⟨g, 0, none⟩ : Addr).add j) = some u' := hown.cells (g := g) rfl
      have hr2 := run_append_grow (P := P) w t ty e i z ht hi hz ⟨g, 0, none⟩ n cap xs (by rw [hsize]; exact hown.1) holds a 1 c [u] (by rw [hsize]; rfl) hnews (by omega) (by simp only [maxLen] at h63; omega) (growslice_fits (by omega) (by rw [hby]; exact hbytes))
      rw [hr] at hr2
      injection hr2 with e1 e2
      subst e2
      exact ⟨cur, (heap_alloc_old w.drew _ (Array.getElem?_eq_some_iff.1 hg).1).trans hg, rfl, rfl⟩
theorem wpList_append_keep {P : Program} {w : World} {ops : Array Oper} {rest : List Oper} {o : Oper} {a : Act} {Q : Exit → Act → World → Prop} (hgd : o.guard = none) (s x : Operand) (t : TypeId)
    (ho : o.op = .call { callee := .builtin .append, args := #[s, x], argTypes := #[t, t] })
    (e : TypeId) (z : Value) (bytes : Nat) (hbz : bytes ≤ 24) (ht : P.underlying t = some (.slice e))
    (hi : (P.info? e).map (fun i => (i.zero, i.size, i.bytes)) = some (some z, 1, bytes)) (hzs : z.cells.size = 1)
    (B : Nat) (v : Value) (vs : List Value) (hs : a.eval s = v) (hown : Ownv w B e v vs) (u : Value) (hu1 : u.oneCell' = true)
    (ad : Addr) (c : Nat) (hx : a.eval x = .slice (some ad) 1 c) (hcell : w.cell? ad = some u) (hlen : vs.length ≤ 1000000000) (hbase : B ≤ w.heap.size)
    (h : ∀ v' w', Ownv w' B e v' (vs ++ [u]) → Added w w' v v' vs.length → wpList P ops Q rest (a.put o.dst v') w') :
    wpList P ops Q (o :: rest) a w := by
  obtain ⟨i0, hi0, hz0, hz1, hz2⟩ := info_parts hi
  refine wpList_plain hgd fun K hK => ?_
  have hnews : ∀ j u', [u][j]? = some u' → w.cell? (ad.add j) = some u' := by
    intro j u' hu
    match j with
    | 0 => simp at hu; subst hu; simpa [Addr.add] using hcell
    | j + 1 => simp at hu
  obtain ⟨v', w', hr, h2, h3⟩ := run_append_keep (P := P) w B t o.type e i0 z bytes ht hi0 hz0 hz1 hz2 hzs v vs.length _ hown ad c u hnews hu1
    (by simp only [maxLen]; omega) (by have : (vs.length + 1) * bytes ≤ (vs.length + 1) * 24 := Nat.mul_le_mul_left _ hbz; omega) hbase
  unfold Oper.wp execOp
  simp only [ho, resolve, invoke, builtin, Sem.run_bind, Sem.run_pure, Result.andThen_ok, List.map_toArray, List.map_cons, List.map_nil, hs, hx, hr]
  exact hK _ _ (h v' w' (by unfold Ownv; simpa using h2) h3)
end Go.Proofs.Ytaajkhdmeghnbaa
