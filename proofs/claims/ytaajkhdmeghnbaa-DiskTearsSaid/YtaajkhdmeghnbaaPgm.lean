/- The map of the pending pages: what it holds, key by key; ranging over it. -/
import Derived.Test.YtaajkhdmeghnbaaDk
import Derived.Test.YtaajkhdmeghnbaaMem
import Derived.Maps.RangeWalk
import Derived.Maps.OwnSet
import Derived.Maps.Views
import Derived.Maps.Ext
namespace Go.Proofs.Ytaajkhdmeghnbaa
open Go.RowKit Go.Maps Go.MapKept Go.ChangeMaps

def encP (xs : List Int) : DataW Unit := .agg (xs.map fun x => .lit (.int .u8 x))
theorem encP_inj {xs ys : List Int} (h : encP xs = encP ys) : xs = ys := by
  unfold encP at h
  injection h with h
  exact (List.map_inj_right (fun a b e => by injection e with e; injection e)).1 h
theorem arrV_inj {xs ys : List Int} (h : arrV .u8 xs = arrV .u8 ys) : xs = ys := by
  unfold arrV at h
  injection h with h
  have h := congrArg Array.toList h
  exact (List.map_inj_right (fun a b e => by injection e)).1 h
open Classical in
/-- how an element reads -/
noncomputable def pageE (v : Value) : Option (DataW Unit × List MemPlace) :=
  if h : ∃ xs : List Int, v = arrV .u8 xs ∧ xs.length = 128 then some (encP h.choose, []) else none
theorem pageE_mk {xs : List Int} (h : xs.length = 128) : pageE (arrV .u8 xs) = some (encP xs, []) := by
  have he : ∃ ys : List Int, arrV .u8 xs = arrV .u8 ys ∧ ys.length = 128 := ⟨xs, rfl, h⟩
  unfold pageE
  rw [dif_pos he, arrV_inj he.choose_spec.1.symm]
theorem pageE_inv {v : Value} {y : DataW Unit × List MemPlace} (h : pageE v = some y) : ∃ xs : List Int, v = arrV .u8 xs ∧ xs.length = 128 ∧ y = (encP xs, []) := by
  unfold pageE at h
  split at h
  · rename_i he
    injection h with h
    exact ⟨_, he.choose_spec.1, he.choose_spec.2, h.symm⟩
  · cases h
theorem intKeyed : Keyed Try.prog 3 := int_keyed Try.underlying3
theorem keyOf_i {x : Int} (h : (Lit.int .i64 x).wf = true) : keyOf Try.prog 3 (.int .i64 x) = some (.int .i64 x) := keyOf_int_mk Try.underlying3 h
theorem wf_nat {i : Nat} (h : i ≤ 9223372036854775807) : (Lit.int .i64 (i : Int)).wf = true := by
  exact WalkArith.wf_i64 ⟨by omega, by omega⟩
/-- what is pending at a number -/
def pendI (p : List Pg) (x : Int) : Option (List Int) := if 0 ≤ x then p[x.toNat]?.bind (·.2) else none
theorem pendI_nat (p : List Pg) (i : Nat) : pendI p (i : Int) = p[i]?.bind (·.2) := by
  unfold pendI
  rw [if_pos (by omega), Int.toNat_natCast]
/-- the datum holds what is pending -/
def PgD (D : DataW Unit) (p : List Pg) : Prop :=
  ∀ x : Int, (Lit.int .i64 x).wf = true → has D (.int .i64 x) = (pendI p x).isSome ∧ ∀ n, pendI p x = some n → ∀ z, D.atKey (.int .i64 x) z = encP n
/-- block b is the map of the pending pages; at most m entries -/
def PgMap (w : World) (b m : Nat) (p : List Pg) : Prop := ∃ D, w.ownsMap Try.prog 3 pageE b m D ∧ PgD D p
section
variable {w w' : World} {b m : Nat} {p : List Pg}
theorem PgMap.lt (h : PgMap w b m p) : b < w.heap.size := by obtain ⟨D, h1, _⟩ := h; exact h1.lt
theorem PgMap.chg {S : Nat → Prop} (h : PgMap w b m p) (hc : Chg S w w') (hn : ¬ S b) : PgMap w' b m p := by
  obtain ⟨D, h1, h2⟩ := h
  refine ⟨D, ?_, h2⟩
  have hlt := h1.lt
  obtain ⟨es, clock, hb, F, hs, hD⟩ := h1
  exact ⟨es, clock, (hc.block b hlt hn).trans hb, F, hs, hD⟩
theorem PgMap.made (w : World) {p : List Pg} (hp : ∀ x ∈ p, x.2 = none) : PgMap (w.alloc (.map #[] 0)) w.heap.size 0 p := by
  refine ⟨_, World.ownsMap_made w _ _ _, fun x _ => ?_⟩
  have h0 : pendI p x = none := by
    unfold pendI
    split
    · cases h : p[x.toNat]? with
      | none => rfl
      | some y => exact hp y (List.mem_of_getElem? h)
    · rfl
  rw [h0]
  exact ⟨rfl, fun n h => by cases h⟩
theorem PgMap.mono (h : PgMap w b m p) {m' : Nat} (hm : m ≤ m') : PgMap w b m' p := by
  obtain ⟨D, h1, h2⟩ := h
  exact ⟨D, h1.mono hm, h2⟩
theorem zeroPg (w : World) : (zeroValue 72).run Try.prog w = .ok (arrV .u8 zer) w := by kernel_rfl
set_option maxRecDepth 100000 in
/-- asked with 'ok' -/
theorem PgMap.look (h : PgMap w b m p) {x : Int} (hw : (Lit.int .i64 x).wf = true) :
    (∀ n, pendI p x = some n → (Instr.lookup 67 (.map (some b)) (.int .i64 x) true).run Try.prog w = .ok (.tuple #[arrV .u8 n, .bool true]) w) ∧
    (pendI p x = none → (Instr.lookup 67 (.map (some b)) (.int .i64 x) true).run Try.prog w = .ok (.tuple #[arrV .u8 zer, .bool false]) w) := by
  obtain ⟨D, h1, h2⟩ := h
  obtain ⟨v, ps, hrun, hv⟩ := h1.look_ok intKeyed Try.underlying67 (zeroPg w) (pageE_mk zer_len) (keyOf_i hw)
  obtain ⟨xs, rfl, _, hy⟩ := pageE_inv hv
  obtain ⟨e1, e2⟩ := h2 x hw
  have hat := congrArg Prod.fst hy
  simp only at hat
  refine ⟨fun n hn => ?_, fun hn => ?_⟩
  · rw [e2 n hn] at hat
    rw [e1, hn] at hrun
    rw [encP_inj hat]; exact hrun
  · rw [hn] at e1
    have e1 : has D (.int .i64 x) = false := e1
    rw [atKey_of_not_has e1] at hat
    rw [e1] at hrun
    rw [encP_inj hat]; exact hrun
set_option maxRecDepth 100000 in
/-- asked without 'ok', where something is pending -/
theorem PgMap.get (h : PgMap w b m p) {x : Int} (hw : (Lit.int .i64 x).wf = true) {n : List Int} (hn : pendI p x = some n) :
    (Instr.lookup 67 (.map (some b)) (.int .i64 x) false).run Try.prog w = .ok (arrV .u8 n) w := by
  obtain ⟨D, h1, h2⟩ := h
  obtain ⟨v, ps, hrun, hv⟩ := h1.lookup intKeyed Try.underlying67 (zeroPg w) (pageE_mk zer_len) (keyOf_i hw)
  obtain ⟨xs, rfl, _, hy⟩ := pageE_inv hv
  have hat := congrArg Prod.fst hy
  simp only at hat
  rw [(h2 x hw).2 n hn] at hat
  rw [encP_inj hat]; exact hrun
theorem pendI_modify {p : List Pg} {i : Nat} (hi : i < p.length) (f : Pg → Pg) (n : List Int) (hf : ∀ y, p[i]? = some y → (f y).2 = some n) (x : Int) : pendI (p.modify i f) x = if x = (i : Int) then some n else pendI p x := by
  unfold pendI
  by_cases h0 : 0 ≤ x
  · rw [if_pos h0, if_pos h0, List.getElem?_modify]
    by_cases e : x = (i : Int)
    · subst e
      rw [Int.toNat_natCast, if_pos rfl, List.getElem?_eq_getElem hi]
      simp [hf _ (List.getElem?_eq_getElem hi)]
    · rw [if_neg e]
      have : ¬ i = x.toNat := by omega
      simp only [if_neg this]
      cases p[x.toNat]? <;> rfl
  · rw [if_neg h0, if_neg h0, if_neg (by omega)]
set_option maxRecDepth 100000 in
/-- a page gets a pending content -/
theorem PgMap.put (h : PgMap w b m p) (hm : m < maxLen) {i : Nat} (hi : i < p.length) (hs : i ≤ 9223372036854775807) (f : Pg → Pg) {n : List Int} (hn : n.length = 128) (hf : ∀ y, p[i]? = some y → (f y).2 = some n) :
    ∃ w', (Instr.mapUpdate 67 (.map (some b)) (.int .i64 (i : Int)) (arrV .u8 n)).run Try.prog w = .ok () w' ∧ PgMap w' b (m + 1) (p.modify i f) ∧ Chg (· = b) w w' := by
  obtain ⟨D, h1, h2⟩ := h
  have hM := h1.isMap
  have hw := wf_nat hs
  obtain ⟨w', hrun, h3, h4⟩ := h1.store intKeyed Try.underlying67 hm (keyOf_i hw) (pageE_mk hn)
  refine ⟨w', hrun, ⟨_, h3, fun x hx => ?_⟩, .ofGrown h4.grown⟩
  rw [pendI_modify hi f n hf]
  by_cases e : x = (i : Int)
  · subst e
    rw [if_pos rfl]
    exact ⟨has_put_same hM (intKeyed.key (keyOf_i hw)) _, fun k hk z => by injection hk with hk; subst hk; exact atKey_put_same hM (intKeyed.key (keyOf_i hw)) _ _⟩
  · have hne : (Lit.int .i64 x) ≠ .int .i64 (i : Int) := fun e' => e (by injection e')
    rw [if_neg e, has_put_other hne]
    exact ⟨(h2 x hx).1, fun k hk z => by rw [atKey_put_other hne]; exact (h2 x hx).2 k hk z⟩
/-- cleared -/
theorem PgMap.clear (h : PgMap w b m p) (ty : TypeId) {q : List Pg} (hq : ∀ x ∈ q, x.2 = none) :
    ∃ w', (Builtin.clear_ #[67] ty #[.map (some b)]).run Try.prog w = .ok (.tuple #[]) w' ∧ PgMap w' b m q ∧ Chg (· = b) w w' := by
  obtain ⟨D, h1, h2⟩ := h
  obtain ⟨es, clock, hb, F, hs, hD⟩ := h1
  refine ⟨Go.ChangeMaps.setBlock w b (.map #[] clock), ?_, ⟨.map [], ⟨#[], clock, heap_setBlock_same hb _, ⟨by simp, stamped_empty clock, by simp⟩, Nat.zero_le _, rfl⟩, fun x _ => ?_⟩, .ofBlock hb _⟩
  · simp [Builtin.clear_, run_underlying Try.underlying67, MapKept.run_getObj_map hb, MapKept.run_setObj_map _ hb, Result.andThen, Go.ChangeMaps.setBlock]
  · have h0 : pendI q x = none := by
      unfold pendI
      split
      · cases h : q[x.toNat]? with
        | none => rfl
        | some y => exact hq y (List.mem_of_getElem? h)
      · rfl
    rw [h0]
    exact ⟨rfl, fun n h => by cases h⟩
/-- a range over the pending pages, under way: L says which are still to come -/
def PgRng (w : World) (b r m : Nat) (p : List Pg) (L : Nat → Bool) (cnt : Nat) : Prop :=
  ∃ D left, w.ranges Try.prog 3 pageE b r m D left cnt ∧ PgD D p ∧ ∀ i : Nat, i < p.length → left (.int .i64 (i : Int)) = L i
theorem PgRng.map {r cnt : Nat} {L : Nat → Bool} (h : PgRng w b r m p L cnt) : PgMap w b m p := by
  obtain ⟨D, left, h1, h2, _⟩ := h
  exact ⟨D, h1.owns, h2⟩
theorem PgRng.left_eq {r cnt : Nat} {L : Nat → Bool} (h : PgRng w b r m p L cnt) : w.rangeLeft b r = cnt := by
  obtain ⟨D, left, h1, _, _⟩ := h
  exact h1.left_eq
theorem PgRng.lt {r cnt : Nat} {L : Nat → Bool} (h : PgRng w b r m p L cnt) : r < w.heap.size := by
  obtain ⟨D, left, h1, _, _⟩ := h
  exact h1.lt
theorem PgRng.chg {r cnt : Nat} {L : Nat → Bool} {S : Nat → Prop} (h : PgRng w b r m p L cnt) (hc : Chg S w w') (hb : ¬ S b) (hr : ¬ S r) : PgRng w' b r m p L cnt := by
  obtain ⟨D, left, h1, h2, h3⟩ := h
  have l1 := h1.owns.lt
  have l2 := h1.lt
  obtain ⟨es, clock, since, seen, c0, k1, k2, k3, k4, k5, k6⟩ := h1
  exact ⟨D, left, ⟨es, clock, since, seen, c0, (hc.block b l1 hb).trans k1, k2, k3, k4, (hc.block r l2 hr).trans k5, k6⟩, h2, h3⟩
theorem PgMap.range (h : PgMap w b m p) (hl : p.length ≤ 9223372036854775807) :
    ∃ w' cnt, (Instr.range 67 (.map (some b))).run Try.prog w = .ok (.pointer (some ⟨w.heap.size, 0, none⟩)) w' ∧ PgRng w' b w.heap.size m p (fun i => (p[i]?.bind (·.2)).isSome) cnt ∧ Below w.heap.size w w' ∧ w'.heap.size = w.heap.size + 1 ∧ cnt ≤ m := by
  obtain ⟨D, h1, h2⟩ := h
  obtain ⟨w', hrun, k1, k2, k3⟩ := h1.range intKeyed Try.underlying67
  refine ⟨w', _, hrun, ⟨D, _, k1, h2, fun i hi => ?_⟩, ⟨k2.os, k2.tape, k2.output, k2.size, fun i hi => k2.block i hi (by simp)⟩, k3, h1.size_le⟩
  rw [(h2 i (wf_nat (by omega))).1, pendI_nat]
set_option maxRecDepth 100000 in
theorem PgRng.next {r cnt : Nat} {L : Nat → Bool} (h : PgRng w b r m p L cnt) (_hl : p.length ≤ 9223372036854775807) (ty : TypeId) :
    (cnt = 0 ∧ (∀ i, i < p.length → L i = false) ∧ (Instr.next (.pointer (some ⟨r, 0, none⟩)) false ty).run Try.prog w = .ok (.tuple #[.bool false]) w) ∨
    ∃ (i : Nat) (n : List Int) (w' : World) (cnt' : Nat), i < p.length ∧ p[i]?.bind (·.2) = some n ∧ L i = true ∧ (Instr.next (.pointer (some ⟨r, 0, none⟩)) false ty).run Try.prog w = .ok (.tuple #[.bool true, .int .i64 (i : Int), arrV .u8 n]) w' ∧
      PgRng w' b r m p (fun j => L j && !decide (j = i)) cnt' ∧ cnt' < cnt ∧ Chg (· = r) w w' ∧ w'.heap.size = w.heap.size ∧ (Instr.entry (.pointer (some ⟨r, 0, none⟩))).run Try.prog w' = .ok (.tuple #[.int .i64 (i : Int), arrV .u8 n]) w' := by
  obtain ⟨D, left, h1, h2, h3⟩ := h
  rcases h1.next intKeyed ty with ⟨a1, a2, a3⟩ | ⟨key, v, kl, y, w', cnt', b1, b2, b3, b4, b5, b6, b7, b8, b9, b10⟩
  · exact .inl ⟨a1, fun i hi => by rw [← h3 i hi]; exact a2 _, a3⟩
  · obtain ⟨x, rfl, rfl, hwf⟩ := keyOf_int_inv Try.underlying3 b1
    obtain ⟨xs, rfl, hxs, rfl⟩ := pageE_inv b3
    have hh := has_true_of_atKey b4
    obtain ⟨e1, e2⟩ := h2 x hwf
    rw [hh] at e1
    cases hp : pendI p x with
    | none => rw [hp] at e1; cases e1
    | some n =>
      obtain rfl := encP_inj ((e2 n hp (.map [])).symm.trans (b4 _))
      have h0 : 0 ≤ x := by
        unfold pendI at hp
        split at hp
        · assumption
        · cases hp
      obtain ⟨i, rfl⟩ := Int.eq_ofNat_of_zero_le h0
      rw [pendI_nat] at hp
      have hi : i < p.length := by
        cases hq : p[i]? with
        | none => rw [hq] at hp; cases hp
        | some q => exact (List.getElem?_eq_some_iff.1 hq).1
      refine .inr ⟨i, n, w', cnt', hi, hp, by rw [← h3 i hi]; exact b2, b5, ⟨D, _, b6, h2, fun j hj => ?_⟩, b7, .ofGrown b8, b9, b10⟩
      show (left (.int .i64 (j : Int)) && !(Lit.int .i64 (j : Int)).sameKey (.int .i64 (i : Int))) = _
      rw [h3 j hj]
      congr 2
      by_cases e : j = i
      · subst e
        rw [WideAt.sameKey_self (intKeyed.key (keyOf_i hwf))]; simp
      · rw [sameKey_ne (fun e' => e (by injection e'; omega))]; simp [e]
end
end Go.Proofs.Ytaajkhdmeghnbaa
