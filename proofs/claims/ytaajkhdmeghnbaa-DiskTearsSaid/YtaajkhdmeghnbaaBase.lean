/- Small words on memory that all texts of this claim share: a slice of integers that reads as a list; one that the call itself made. -/
import Derived.Test.YtaajkhdmeghnbaaProg
import Derived.WalkKit
import Derived.WalkSpells
import Derived.WalkLawsBesides
import Derived.Lib.Hide
import Derived.Maps.AppendAt
import Derived.Deep.OwnRows
import Derived.Laws.BytesArg
import Derived.Laws.Rows
namespace Go.Proofs.Ytaajkhdmeghnbaa
open Go.RowKit

/-- A fact that no tactic opens by itself. -/
structure Bx (p : Prop) : Prop where
  out : p

theorem ret_int {a b : Int} (h : a = b) : Ending.returned (.int .i64 a) = Ending.returned (.int .i64 b) := by rw [h]
theorem ret_bool {a b : Bool} (h : a = b) : Ending.returned (.bool a) = Ending.returned (.bool b) := by rw [h]
theorem ret_nat {a b : Nat} (h : a = b) : Ending.returned (.int .i64 (a : Int)) = Ending.returned (.int .i64 (b : Int)) := by rw [h]

theorem at_lt {xs : List Int} {k n : Nat} (hn : Bx (xs.length = n)) (h : k < n) : ∃ x, xs[k]? = some x :=
  ⟨_, List.getElem?_eq_getElem (by rw [hn.out]; exact h)⟩

theorem cell_new (w : World) (v : Value) (t : TypeId) : (w.alloc (.cells #[v] t)).cell? ⟨w.heap.size, 0, none⟩ = some v := by
  simp
theorem cell_new' (w : World) (n : Nat) (hn : w.heap.size = n) (v : Value) (t : TypeId) : (w.alloc (.cells #[v] t)).cell? ⟨n, 0, none⟩ = some v := by
  subst hn; exact cell_new w v t
theorem size_setCell (w : World) (a : Addr) (u : Value) : (w.setCell a u).heap.size = w.heap.size := by simp [World.setCell]
theorem cells_new (w : World) (C : Array Value) (t : TypeId) (i : Nat) (v : Value) (h : C[i]? = some v) : (w.alloc (.cells C t)).cell? ⟨w.heap.size, i, none⟩ = some v := by
  unfold World.cell?; rw [heap_alloc_new]; simpa using h
theorem frozen_new (w : World) (C : Array Value) (t : TypeId) (i : Nat) : (w.alloc (.cells C t)).frozen? ⟨w.heap.size, i, none⟩ = false := by
  unfold World.frozen?; rw [heap_alloc_new]; simp
theorem le_alloc {B : Nat} {w : World} (h : B ≤ w.heap.size) (o : Obj) : B ≤ (w.alloc o).heap.size := by
  simp; omega

/-- From address a on there lie the integers xs. -/
def Sl (w : World) (k : IntKind) (a : Option Addr) (xs : List Int) : Prop :=
  ∀ i x, xs[i]? = some x → ∃ b off, a = some ⟨b, off, none⟩ ∧ w.cell? ⟨b, off + i, none⟩ = some (.int k x)

theorem Sl.nil (w : World) (k : IntKind) (a : Option Addr) : Sl w k a [] := fun i x h => by simp at h

theorem Sl.below {w w' : World} {k : IntKind} {a : Option Addr} {xs : List Int} (h : Sl w k a xs) (hb : Below w.heap.size w w') : Sl w' k a xs := by
  intro i x hx
  obtain ⟨b, off, rfl, hc⟩ := h i x hx
  exact ⟨b, off, rfl, cell_later hb hc⟩

theorem Sl.drewN {w : World} {k : IntKind} {a : Option Addr} {xs : List Int} (h : Sl w k a xs) (n : Nat) : Sl (w.drewN n) k a xs := h
theorem Sl.drew {w : World} {k : IntKind} {a : Option Addr} {xs : List Int} (h : Sl w k a xs) : Sl w.drew k a xs := h

@[simp, go_sem] theorem Sl.drewN_iff {w : World} {k : IntKind} {a : Option Addr} {xs : List Int} (n : Nat) : Sl (w.drewN n) k a xs ↔ Sl w k a xs := Iff.rfl
@[simp, go_sem] theorem Sl.drew_iff {w : World} {k : IntKind} {a : Option Addr} {xs : List Int} : Sl w.drew k a xs ↔ Sl w k a xs := Iff.rfl

/-- v is a slice of the integers xs in a row of the call's own (from block B on), or nil. -/
def Own (w : World) (B : Nat) (e : TypeId) (k : IntKind) (v : Value) (xs : List Int) : Prop := w.ownsRow B e 1 v xs.length (xs.map (Value.int k))

theorem Own.nil (w : World) (B : Nat) (e : TypeId) (k : IntKind) : Own w B e k (.slice none 0 0) [] := World.ownsRow_nil w B e 1

theorem Own.form {w : World} {B : Nat} {e : TypeId} {k : IntKind} {v : Value} {xs : List Int} (h : Own w B e k v xs) :
    ∃ a cap, v = .slice a xs.length cap ∧ Sl w k a xs := by
  rcases h.2 with ⟨rfl, hn⟩ | ⟨g, cap, cur, rfl, hb, hg, hnc, hcm, hcs, ht⟩
  · have hx : xs = [] := List.eq_nil_of_length_eq_zero hn
    subst hx
    exact ⟨none, 0, rfl, Sl.nil _ _ _⟩
  · refine ⟨_, cap, rfl, fun i x hx => ⟨g, 0, rfl, ?_⟩⟩
    have hi : i < xs.length := (List.getElem?_eq_some_iff.1 hx).1
    have hcell : w.cell? ⟨g, i, none⟩ = cur[i]? := by simp [World.cell?, hg]
    rw [Nat.zero_add, hcell]
    have h1 : (xs.map (Value.int k))[i]? = some (.int k x) := by rw [List.getElem?_map, hx]; rfl
    rw [← ht, List.getElem?_take, if_pos (by omega)] at h1
    simpa using h1

theorem Own.sl {w : World} {B : Nat} {e : TypeId} {k : IntKind} {a : Option Addr} {n c : Nat} {xs : List Int} (h : Own w B e k (.slice a n c) xs) : Sl w k a xs := by
  obtain ⟨a', c', he, hs⟩ := h.form
  injection he with h1 h2 h3
  subst h1; exact hs
theorem Own.setBelow {w : World} {B : Nat} {e : TypeId} {k : IntKind} {v : Value} {xs : List Int} (h : Own w B e k v xs) {a : Addr} (ha : a.block < B) (u : Value) : Own (w.setCell a u) B e k v xs := ownsRow_setCell_below h ha u

theorem Own.lt {w : World} {B : Nat} {e : TypeId} {k : IntKind} {v : Value} {xs : List Int} (h : Own w B e k v xs) : ∀ g, v.ownBlock = some g → B ≤ g ∧ g < w.heap.size := World.ownsRow.lt h

theorem Own.below {w w' : World} {B : Nat} {e : TypeId} {k : IntKind} {v : Value} {xs : List Int} (h : Own w B e k v xs) (hb : Below w.heap.size w w') : Own w' B e k v xs :=
  World.ownsRow.kept (row := none) h ⟨hb.os, hb.tape, hb.output, hb.size, fun i hi _ => hb.block i hi⟩ (by cases v.ownBlock <;> simp)

theorem Own.alloc {w : World} {B : Nat} {e : TypeId} {k : IntKind} {v : Value} {xs : List Int} (h : Own w B e k v xs) (o : Obj) : Own (w.alloc o) B e k v xs := World.ownsRow.alloc h o
theorem Own.base {w : World} {B B' : Nat} {e : TypeId} {k : IntKind} {v : Value} {xs : List Int} (h : Own w B e k v xs) (hB : B' ≤ B) : Own w B' e k v xs := by
  refine ⟨h.1, h.2.imp id ?_⟩
  rintro ⟨g, cap, cur, h1, h2, h3⟩
  exact ⟨g, cap, cur, h1, Nat.le_trans hB h2, h3⟩
theorem Own.drew {w : World} {B : Nat} {e : TypeId} {k : IntKind} {v : Value} {xs : List Int} (h : Own w B e k v xs) : Own w.drew B e k v xs := h
theorem Own.drewN {w : World} {B : Nat} {e : TypeId} {k : IntKind} {v : Value} {xs : List Int} (h : Own w B e k v xs) (n : Nat) : Own (w.drewN n) B e k v xs := h

theorem Own.grown {w w' : World} {B : Nat} {e : TypeId} {k : IntKind} {v : Value} {xs : List Int} (h : Own w B e k v xs) {row : Option Nat} (hg : w.grownBy w' row) (hne : v.ownBlock = none ∨ v.ownBlock ≠ row) : Own w' B e k v xs :=
  World.ownsRow.kept h hg hne

/-- append of one integer: what lay in the new one-cell block has come behind the list. -/
theorem wpList_append_int {P : Program} {w : World} {ops : Array Oper} {rest : List Oper} {o : Oper} {a : Act} {Q : Exit → Act → World → Prop} (hgd : o.guard = none) (s x : Operand) (t : TypeId)
    (ho : o.op = .call { callee := .builtin .append, args := #[s, x], argTypes := #[t, t] })
    (e : TypeId) (k : IntKind) (z : Value) (bytes : Nat) (hbz : bytes ≤ 8) (ht : P.underlying t = some (.slice e))
    (hi : (P.info? e).map (fun i => (i.zero, i.size, i.bytes)) = some (some z, 1, bytes)) (hzs : z.cells.size = 1)
    (B : Nat) (v : Value) (xs : List Int) (hs : a.eval s = v) (hown : Own w B e k v xs) (n : Int)
    (ad : Addr) (c : Nat) (hx : a.eval x = .slice (some ad) 1 c) (hcell : w.cell? ad = some (.int k n)) (hlen : xs.length ≤ 1000000000) (hbase : B ≤ w.heap.size)
    (h : ∀ v' w', Own w' B e k v' (xs ++ [n]) → w.grownBy w' v.ownBlock → (v'.ownBlock = v.ownBlock ∨ v'.ownBlock = some w.heap.size) → wpList P ops Q rest (a.put o.dst v') w') :
    wpList P ops Q (o :: rest) a w := by
  obtain ⟨i0, hi0, hz0, hz1, hz2⟩ := info_parts hi
  refine wpList_plain hgd fun K hK => ?_
  have hnews : ∀ j u, [Value.int k n][j]? = some u → w.cell? (ad.add j) = some u := by
    intro j u hu
    match j with
    | 0 => simp at hu; subst hu; simpa [Addr.add] using hcell
    | j + 1 => simp at hu
  obtain ⟨v', w', hr, h2, h3, _, h4⟩ := run_append_own_at (P := P) w B t o.type e i0 z 1 bytes ht hi0 hz0 hz1 hz2 hzs (by omega) v xs.length _ hown ad 1 c [Value.int k n] rfl hnews (by simp [Value.oneCell'])
    (by simp only [maxLen]; omega) (by have : (xs.length + 1) * bytes ≤ (xs.length + 1) * 8 := Nat.mul_le_mul_left _ hbz; omega) hbase
  unfold Oper.wp execOp
  simp only [ho, resolve, invoke, builtin, Sem.run_bind, Sem.run_pure, Result.andThen_ok, List.map_toArray, List.map_cons, List.map_nil, hs, hx, hr]
  exact hK _ _ (h v' w' (by unfold Own; simpa using h2) h3 h4)

theorem Own.ofRow {w : World} {B b : Nat} {e : TypeId} {k : IntKind} {n : Nat} {F : Nat → Int} {xs : List Int} (h : w.rowIs b e n (fun j => .int k (F j))) (hb : B ≤ b) (hn : n ≤ maxLen) (hx : xs = (List.range n).map F) :
    Own w B e k (.slice (some ⟨b, 0, none⟩) n n) xs := by
  subst hx
  obtain ⟨c, hc, hcs, hg⟩ := h
  refine ⟨by simp, .inr ⟨b, n, c, by simp, hb, hc, by simp, hn, by simp [hcs], ?_⟩⟩
  apply List.ext_getElem?
  intro i
  simp only [List.length_map, List.length_range, Nat.mul_one, List.getElem?_take, List.getElem?_map, List.map_map]
  by_cases hi : i < n
  · have := hg i hi
    simp [hi]
    exact this
  · simp [hi]


theorem Own.at {w : World} {B : Nat} {e : TypeId} {k : IntKind} {v : Value} {xs : List Int} (h : Own w B e k v xs) (hne : 0 < xs.length) :
    ∃ g cap, v = .slice (some ⟨g, 0, none⟩) xs.length cap ∧ B ≤ g ∧ g < w.heap.size ∧ (∀ i x, xs[i]? = some x → w.cell? ⟨g, i, none⟩ = some (.int k x)) ∧ (∀ i, w.frozen? ⟨g, i, none⟩ = false) ∧
      ∀ i x, Own (w.setCell ⟨g, i, none⟩ (.int k x)) B e k (.slice (some ⟨g, 0, none⟩) xs.length cap) (xs.set i x) := by
  obtain ⟨a, cap, rfl, hsl⟩ := h.form
  rcases h.2 with ⟨hv, hn⟩ | ⟨g, cap', cur, hv, hb, hg, hrest⟩
  · omega
  · injection hv with h1 h2 h3
    subst h1 h3
    refine ⟨g, cap, rfl, hb, (Array.getElem?_eq_some_iff.1 hg).1, fun i x hx => ?_, fun i => World.ownsRow.frozenAt h i, fun i x => ?_⟩
    · obtain ⟨b, off, hbo, hc⟩ := hsl i x hx
      simp only [Option.some.injEq, Addr.mk.injEq] at hbo
      obtain ⟨rfl, rfl, _⟩ := hbo
      simpa using hc
    · have := World.ownsRow.stored h i (.int k x)
      unfold Own
      rw [List.length_set, List.map_set]; exact this.1

theorem Own.lit (w : World) (B : Nat) (e : TypeId) (k : IntKind) (cs : Array Value) (xs : List Int) (n : Nat) (hb : B ≤ w.heap.size) (hn : n ≤ maxLen) (hx : xs.length = n) (h : cs = (xs.map (Value.int k)).toArray) :
    Own (w.alloc (.cells cs e)) B e k (.slice (some ⟨w.heap.size, 0, none⟩) n n) xs := by
  subst h hx
  have := World.ownsRow_lit (e := e) (size := 1) w (xs.map (Value.int k)).toArray xs.length hb hn (by simp)
  simpa [Own] using this

/-- append of a slice of integers, nil or not. -/
theorem wpList_append_ints {P : Program} {w : World} {ops : Array Oper} {rest : List Oper} {o : Oper} {a : Act} {Q : Exit → Act → World → Prop} (hgd : o.guard = none) (s x : Operand) (t : TypeId)
    (ho : o.op = .call { callee := .builtin .append, args := #[s, x], argTypes := #[t, t] })
    (e : TypeId) (k : IntKind) (z : Value) (bytes : Nat) (hbz : bytes ≤ 8) (ht : P.underlying t = some (.slice e))
    (hi : (P.info? e).map (fun i => (i.zero, i.size, i.bytes)) = some (some z, 1, bytes)) (hzs : z.cells.size = 1)
    (B : Nat) (v : Value) (xs : List Int) (hs : a.eval s = v) (hown : Own w B e k v xs) (ys : List Int)
    (A : Option Addr) (m c : Nat) (hx : a.eval x = .slice A m c) (hm : m = ys.length) (hys : Sl w k A ys) (hlen : xs.length + ys.length ≤ 1000000000) (hbase : B ≤ w.heap.size)
    (h : ∀ v' w', Own w' B e k v' (xs ++ ys) → w.grownBy w' v.ownBlock → (v'.ownBlock = v.ownBlock ∨ v'.ownBlock = some w.heap.size) → wpList P ops Q rest (a.put o.dst v') w') :
    wpList P ops Q (o :: rest) a w := by
  subst hm
  obtain ⟨i0, hi0, hz0, hz1, hz2⟩ := info_parts hi
  refine wpList_plain hgd fun K hK => ?_
  have key : ∃ v' w', (Builtin.append_ #[t, t] o.type #[v, .slice A ys.length c]).run P w = .ok v' w' ∧ Own w' B e k v' (xs ++ ys) ∧ w.grownBy w' v.ownBlock ∧ (v'.ownBlock = v.ownBlock ∨ v'.ownBlock = some w.heap.size) := by
    cases A with
    | none =>
      have hnil : ys = [] := by
        cases ys with
        | nil => rfl
        | cons y l => obtain ⟨b, off, h0, _⟩ := hys 0 y rfl; cases h0
      subst hnil
      refine ⟨v, w, ?_, by simpa using hown, World.grownBy.refl w _, .inl rfl⟩
      rcases hown.2 with ⟨rfl, hn⟩ | ⟨g, cap, cur, rfl, _, _, hnc, _⟩
      · simp [Builtin.append_, run_underlying ht, sizeOf, typeInfo, hi0, Builtin.lenOf, Builtin.firstCells]
      · simp [Builtin.append_, run_underlying ht, sizeOf, typeInfo, hi0, Builtin.lenOf, Builtin.firstCells, hnc, storeCells]
    | some ad =>
      have hnews : ∀ j u, (ys.map (Value.int k))[j]? = some u → w.cell? (ad.add j) = some u := by
        intro j u hu
        rw [List.getElem?_map] at hu
        cases hy : ys[j]? with
        | none => rw [hy] at hu; cases hu
        | some y =>
          rw [hy] at hu
          obtain ⟨b, off, h0, hc⟩ := hys j y hy
          injection h0 with h0
          subst h0
          injection hu with hu
          subst hu
          have : (⟨b, off, none⟩ : Addr).add j = ⟨b, off + j, none⟩ := by unfold Addr.add; split <;> simp_all
          rw [this]; exact hc
      obtain ⟨v', w', hr, h2, h3, _, h4⟩ := run_append_own_at (P := P) w B t o.type e i0 z 1 bytes ht hi0 hz0 hz1 hz2 hzs (by omega) v xs.length _ hown ad ys.length c (ys.map (Value.int k)) (by simp) hnews (ints_oneCell k ys)
        (by simp only [maxLen]; omega) (by have : (xs.length + ys.length) * bytes ≤ (xs.length + ys.length) * 8 := Nat.mul_le_mul_left _ hbz; omega) hbase
      exact ⟨v', w', hr, by unfold Own; simpa using h2, h3, h4⟩
  obtain ⟨v', w', hr, h2, h3, h4⟩ := key
  unfold Oper.wp execOp
  simp only [ho, resolve, invoke, builtin, Sem.run_bind, Sem.run_pure, Result.andThen_ok, List.map_toArray, List.map_cons, List.map_nil, hs, hx, hr]
  exact hK _ _ (h v' w' h2 h3 h4)

theorem conv_str {P : Program} {w : World} (src e dst : TypeId) (hs : P.underlying src = some (.slice e)) (he : P.underlying e = some (.int .u8)) (hd : P.underlying dst = some .string) {a : Option Addr} {xs : List Int} (h : Sl w .u8 a xs) (n cap : Nat) (hn : n = xs.length) :
    (convert src dst (.slice a n cap)).run P w = .ok (.string (strOfNums xs)) w := by
  subst hn
  cases xs with
  | nil =>
    cases a with
    | none => exact run_convert_bytes_nil w src e hs he _ _ dst hd
    | some a =>
      have := run_convert_bytes_string (P := P) w src dst e (some a) 0 cap hs he hd
      simp only [List.length_nil]
      rw [this, run_bytesToString w a 0 cap [] (by simp [loadCells, loadCellsFrom])]
      rfl
  | cons x l =>
    obtain ⟨b, off, rfl, h0⟩ := h 0 x rfl
    refine run_convert_bytes_arg w src e hs he b off _ cap (x :: l) rfl (fun i hi => ?_) dst hd
    obtain ⟨b', off', e', hc⟩ := h i _ (List.getElem?_eq_getElem hi)
    simp only [Option.some.injEq, Addr.mk.injEq] at e'
    obtain ⟨rfl, rfl, _⟩ := e'
    rw [hc]; simp [List.getD, List.getElem?_eq_getElem hi]

/-- block g is known whole -/
def Bk (w : World) (g : Nat) (cs : Array Value) (t : TypeId) : Prop := w.heap[g]? = some (.cells cs t (0, 0))
theorem blk_new (w : World) (o : Obj) (n : Nat) (h : n = w.heap.size) : (w.alloc o).heap[n]? = some o := by subst h; exact heap_alloc_new w o
theorem blk_old {w : World} {o x : Obj} {n : Nat} (h : w.heap[n]? = some x) : (w.alloc o).heap[n]? = some x := by
  rw [Below.heap_alloc w o n (Array.getElem?_eq_some_iff.1 h).1]; exact h
theorem Bk.lt {w : World} {g : Nat} {cs : Array Value} {t : TypeId} (h : Bk w g cs t) : g < w.heap.size := (Array.getElem?_eq_some_iff.1 h).1
theorem Bk.cell {w : World} {g : Nat} {cs : Array Value} {t : TypeId} (h : Bk w g cs t) (j : Nat) {v : Value} (hv : cs[j]? = some v) : w.cell? ⟨g, j, none⟩ = some v := by
  rw [cell_of_row w g j cs t (0, 0) h]; exact hv
theorem Bk.frozen {w : World} {g : Nat} {cs : Array Value} {t : TypeId} (h : Bk w g cs t) (j : Nat) : w.frozen? ⟨g, j, none⟩ = false := frozen_of_row w g j cs t h
theorem Bk.later {w w' : World} {g : Nat} {cs : Array Value} {t : TypeId} (h : Bk w g cs t) (hb : Below w.heap.size w w') : Bk w' g cs t := by
  unfold Bk; rw [hb.block g h.lt]; exact h
theorem Bk.new (w : World) (cs : Array Value) (t : TypeId) : Bk (w.alloc (.cells cs t)) w.heap.size cs t := heap_alloc_new w _
theorem Bk.alloc {w : World} {g : Nat} {cs : Array Value} {t : TypeId} (h : Bk w g cs t) (o : Obj) : Bk (w.alloc o) g cs t := blk_old h
theorem Bk.drew {w : World} {g : Nat} {cs : Array Value} {t : TypeId} (h : Bk w g cs t) : Bk w.drew g cs t := h
theorem Bk.set {w : World} {g : Nat} {cs : Array Value} {t : TypeId} (h : Bk w g cs t) (j : Nat) (v : Value) : Bk (w.setCell ⟨g, j, none⟩ v) g (cs.setIfInBounds j v) t := heap_setCell_same w g j cs t v h
theorem Bk.other {w : World} {g : Nat} {cs : Array Value} {t : TypeId} (h : Bk w g cs t) (a : Addr) (v : Value) (hne : g ≠ a.block) : Bk (w.setCell a v) g cs t := by
  unfold Bk; rw [heap_setCell_other w a g v hne]; exact h
theorem Bk.put3 {w : World} {g : Nat} {x y z : Value} {t : TypeId} (h : Bk w g #[x, y, z] t) (a b c : Value) : Bk (((w.setCell ⟨g, 0, none⟩ a).setCell ⟨g, 1, none⟩ b).setCell ⟨g, 2, none⟩ c) g #[a, b, c] t := by
  simpa using ((h.set 0 a).set 1 b).set 2 c
theorem Bk.put6 {w : World} {g : Nat} {x0 x1 x2 x3 x4 x5 : Value} {t : TypeId} (h : Bk w g #[x0, x1, x2, x3, x4, x5] t) (a b c d e f : Value) :
    Bk ((((((w.setCell ⟨g, 0, none⟩ a).setCell ⟨g, 1, none⟩ b).setCell ⟨g, 2, none⟩ c).setCell ⟨g, 3, none⟩ d).setCell ⟨g, 4, none⟩ e).setCell ⟨g, 5, none⟩ f) g #[a, b, c, d, e, f] t := by
  simpa using (((((h.set 0 a).set 1 b).set 2 c).set 3 d).set 4 e).set 5 f
theorem Bk.put7 {w : World} {g : Nat} {x0 x1 x2 x3 x4 x5 x6 : Value} {t : TypeId} (h : Bk w g #[x0, x1, x2, x3, x4, x5, x6] t) (a b c d e f i : Value) :
    Bk (((((((w.setCell ⟨g, 0, none⟩ a).setCell ⟨g, 1, none⟩ b).setCell ⟨g, 2, none⟩ c).setCell ⟨g, 3, none⟩ d).setCell ⟨g, 4, none⟩ e).setCell ⟨g, 5, none⟩ f).setCell ⟨g, 6, none⟩ i) g #[a, b, c, d, e, f, i] t := by
  simpa using ((((((h.set 0 a).set 1 b).set 2 c).set 3 d).set 4 e).set 5 f).set 6 i
theorem blw3 {B : Nat} {a w : World} (h : Below B a w) {g : Nat} (hg : B ≤ g) (x y z : Value) : Below B a (((w.setCell ⟨g, 0, none⟩ x).setCell ⟨g, 1, none⟩ y).setCell ⟨g, 2, none⟩ z) :=
  ((h.setCell hg _).setCell hg _).setCell hg _
theorem blw6 {B : Nat} {a w : World} (h : Below B a w) {g : Nat} (hg : B ≤ g) (x y z x' y' z' : Value) :
    Below B a ((((((w.setCell ⟨g, 0, none⟩ x).setCell ⟨g, 1, none⟩ y).setCell ⟨g, 2, none⟩ z).setCell ⟨g, 3, none⟩ x').setCell ⟨g, 4, none⟩ y').setCell ⟨g, 5, none⟩ z') :=
  (((((h.setCell hg _).setCell hg _).setCell hg _).setCell hg _).setCell hg _).setCell hg _
theorem blw7 {B : Nat} {a w : World} (h : Below B a w) {g : Nat} (hg : B ≤ g) (x y z x' y' z' s : Value) :
    Below B a (((((((w.setCell ⟨g, 0, none⟩ x).setCell ⟨g, 1, none⟩ y).setCell ⟨g, 2, none⟩ z).setCell ⟨g, 3, none⟩ x').setCell ⟨g, 4, none⟩ y').setCell ⟨g, 5, none⟩ z').setCell ⟨g, 6, none⟩ s) :=
  ((((((h.setCell hg _).setCell hg _).setCell hg _).setCell hg _).setCell hg _).setCell hg _).setCell hg _
end Go.Proofs.Ytaajkhdmeghnbaa
