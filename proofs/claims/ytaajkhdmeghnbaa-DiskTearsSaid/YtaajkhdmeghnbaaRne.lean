/- The reference's New. -/
import Derived.Test.YtaajkhdmeghnbaaRro
import Derived.Deep.RegionLaw
import Derived.Maps.AppendAt
import Derived.Deep.AppendLies
namespace Go.Proofs.Ytaajkhdmeghnbaa
open Go.RowKit Go.Sort

theorem step_append_own {P : Program} {ops : Array Oper} {o : Oper} {a : Act} {w : World} {K : Act → World → Prop} {Q : Exit → Act → World → Prop} {E : Prop} (hgd : o.guard = none) (s x : Operand) (t : TypeId)
    (ho : o.op = .call { callee := .builtin .append, args := #[s, x], argTypes := #[t, t] })
    (base : Nat) (e : TypeId) (i : TypeInfo) (z : Value) (size bytes : Nat) (ht : P.underlying t = some (.slice e)) (hi : P.info? e = some i) (hz : i.zero = some z)
    (hsize : i.size = size) (hby : i.bytes = bytes) (hzs : z.cells.size = size) (hsz : 0 < size)
    (v : Value) (n : Nat) (xs : List Value) (hs : a.eval s = v) (hown : w.ownsRow base e size v n xs)
    (ad : Addr) (m c : Nat) (news : List Value) (hx : a.eval x = .slice (some ad) m c) (hl : news.length = m * size) (hnews : ∀ j u, news[j]? = some u → w.cell? (ad.add j) = some u) (h1 : ∀ u ∈ news, u.oneCell' = true)
    (h63 : n + m ≤ maxLen) (hbytes : (n + m) * bytes ≤ 140737488355328) (hbase : base ≤ w.heap.size)
    (h : ∀ v' w', Bx (w'.ownsRow base e size v' (n + m) (xs ++ news)) → Bx (w.grownBy w' v.ownBlock) → Bx (v'.ownBlock = v.ownBlock ∨ v'.ownBlock = some w.heap.size) → K (a.put o.dst v') w') :
    if Region.wanted o (yielded ops a.tmps) = true then Oper.wp P o a w K Q else E := by
  have hw : Region.wanted o (yielded ops a.tmps) = true := by simp [Region.wanted, hgd]
  rw [if_pos hw]
  obtain ⟨v', w', hr, h2, h3, h4, h5⟩ := run_append_own_at (P := P) w base t o.type e i z size bytes ht hi hz hsize hby hzs hsz v n xs hown ad m c news hl hnews h1 h63 hbytes hbase
  unfold Oper.wp
  simp [execOp, ho, resolve, invoke, builtin, hs, hx, hr, Result.andThen]
  exact h v' w' ⟨h2⟩ ⟨h3⟩ ⟨h5⟩
def zrow : List Value := List.replicate 128 (.int .u8 0)
theorem made_rep (z : Value) (n : Nat) : madeCells #[z] n = (List.replicate n z).toArray := by
  apply Array.ext
  · simp [madeCells]
  · intro i h1 h2
    simp only [madeCells, Array.getElem_map, Array.getElem_range, List.getElem_toArray, List.getElem_replicate]
    rw [show (#[z] : Array Value).size = 1 from rfl, Nat.mod_one]
    rfl
theorem made_row (W : World) : (Instr.makeSlice 75 (.int .i64 128) (.int .i64 128)).run Try.prog W = .ok (.slice (some ⟨W.heap.size, 0, none⟩) 128 128) (W.alloc (.cells zrow.toArray 5)) := by
  have hi : (Try.prog.info? 5).map (fun i => (i.zero, i.size, i.bytes)) = some (some (.int .u8 0), 1, 1) := by kernel_rfl
  obtain ⟨i0, hi0, hz0, hz1, hz2⟩ := info_parts hi
  have := run_make W 75 5 i0 _ Try.underlying75 hi0 hz0 .i64 .i64 128 128 (by omega) (Int.le_refl _) (by rw [hz2]; omega) (by omega)
  rw [hz1, show (Value.int .u8 0).cells = #[Value.int .u8 0] from rfl, show Int.toNat 128 * 1 = 128 from rfl, made_rep] at this
  exact this
set_option maxRecDepth 100000 in
theorem rzeros_any (w : World) : Calls Try.prog 32 #[.int .i64 128] w fun e w' => e = .returned (.string (strOfNums zer)) ∧ Below w.heap.size w w' := by
  have hmk := made_row
  have hsl : Sl (w.alloc (.cells zrow.toArray 5)) .u8 (some ⟨w.heap.size, 0, none⟩) zer := fun i x hx => ⟨_, 0, rfl, by
    rw [Nat.zero_add]
    have hi := (List.getElem?_eq_some_iff.1 hx).1
    rw [zer_len] at hi
    obtain rfl := zer_get hx
    exact cells_new _ _ _ _ _ (by rw [List.getElem?_toArray]; unfold zrow; rw [List.getElem?_replicate, if_pos hi])⟩
  have hcv := conv_str (P := Try.prog) 75 5 9 Try.underlying75 Try.underlying5 Try.underlying9 hsl 128 128 zer_len.symm
  clear hsl
  generalize zrow.toArray = Z at *
  go_enter Try.func32, Try.ntmps32
  go_wp2_with fail
  go_ret
  exact ⟨rfl, (Below.refl _ _).alloc (Nat.le_refl _) _⟩
theorem rnew_bad (w : World) (n : Int) (h : n < 1 ∨ 4096 < n) : Calls Try.prog 12 #[.int .i64 n] w fun e w' => e = .returned (.tuple #[.pointer none, .int .i64 1]) ∧ w = w' := by
  rcases h with h | h
  · go_enter Try.func12, Try.ntmps12
    go_wp2
    go_ret2
    exact ⟨rfl, rfl⟩
  · have h2 : ¬ n < 1 := by omega
    go_enter Try.func12, Try.ntmps12
    go_wp2
    go_ret2
    exact ⟨rfl, rfl⟩
/-- the cells of n new pages -/
def zpages (n : Nat) : List Value := (List.replicate n [Value.string (strOfNums zer), .string ⟨#[]⟩, .bool false]).flatten
theorem zpages_succ (n : Nat) : zpages (n + 1) = zpages n ++ [Value.string (strOfNums zer), .string ⟨#[]⟩, .bool false] := by
  unfold zpages
  rw [List.replicate_succ', List.flatten_append]; rfl
theorem zpages_len (n : Nat) : (zpages n).length = n * 3 := by
  induction n with
  | zero => rfl
  | succ n ih => rw [zpages_succ, List.length_append, ih]; simp; omega
theorem zpages_get {n i j : Nat} (hi : i < n) (hj : j < 3) : (zpages n)[i * 3 + j]? = some (rcell (zer, none) j) := by
  induction n with
  | zero => omega
  | succ n ih =>
    rw [zpages_succ]
    by_cases e : i < n
    · rw [List.getElem?_append_left (by rw [zpages_len]; omega)]
      exact ih e
    · have : i = n := by omega
      subst this
      rw [List.getElem?_append_right (by rw [zpages_len]; omega), zpages_len, show i * 3 + j - i * 3 = j by omega]
      match j, hj with
      | 0, _ => rfl
      | 1, _ => rfl
      | 2, _ => rfl
theorem rc_own {w : World} {B g n cap : Nat} {e : TypeId} {xs : List Value} (h : w.ownsRow B e 3 (.slice (some ⟨g, 0, none⟩) n cap) n xs) (F : Nat → Nat → Value) (hF : ∀ i j, i < n → j < 3 → xs[i * 3 + j]? = some (F i j)) : RC w g n F ∧ n ≤ cap ∧ cap ≤ maxLen ∧ B ≤ g := by
  rcases h.2 with ⟨e, _⟩ | ⟨g', cap', cur, e, hB, hg, hnc, hcm, hcs, ht⟩
  · cases e
  · injection e with e1 _ e3
    injection e1 with e1
    injection e1 with e1 _ _
    subst e1 e3
    refine ⟨⟨fun i j hi hj => ?_, fun i j hi hj => frozen_of_row w g _ cur _ hg, (Array.getElem?_eq_some_iff.1 hg).1⟩, hnc, hcm, hB⟩
    have hu := hF i j hi hj
    rw [← ht, List.getElem?_take] at hu
    split at hu
    · have : w.cell? ⟨g, i * 3 + j, none⟩ = cur[i * 3 + j]? := by simp [World.cell?, hg]
      rw [this, ← Array.getElem?_toList]; exact hu
    · cases hu
structure RnI (w : World) (q k : Nat) (v : Value) (wr : World) : Prop where
  kq : Bk wr q #[v, .bool false, .int .i64 (-1)] 56
  own : wr.ownsRow w.heap.size 53 3 v k (zpages k)
  bel : Below w.heap.size w wr
  hq : w.heap.size ≤ q
  ne : v.ownBlock ≠ some q
theorem own_held {w wr w2 : World} {q k : Nat} {v : Value} (h : RnI w q k v wr) (hb : Below wr.heap.size wr w2) (o : Obj) : (w2.alloc o).ownsRow w.heap.size 53 3 v k (zpages k) :=
  (World.ownsRow.kept (row := none) h.own ⟨hb.os, hb.tape, hb.output, hb.size, fun i hi _ => hb.block i hi⟩ (by cases v.ownBlock <;> simp)).alloc o
theorem base_held {w wr w2 : World} {q k : Nat} {v : Value} (h : RnI w q k v wr) (hb : Below wr.heap.size wr w2) (o : Obj) : w.heap.size ≤ (w2.alloc o).heap.size := le_alloc (Nat.le_trans h.bel.size hb.size) o
theorem row_held {w wr w2 w4 : World} {q k : Nat} {v : Value} {o : Obj} (h : RnI w q k v wr) (hb : Below wr.heap.size wr w2) (hg : (w2.alloc o).grownBy w4 v.ownBlock) : Below w.heap.size w w4 := by
  have h2 : Below w.heap.size w (w2.alloc o) := (h.bel.trans (hb.mono h.bel.size)).trans (((Below.refl _ _).alloc (Nat.le_refl _) _).mono (Nat.le_trans h.bel.size hb.size))
  exact h2.trans ((Chg.ofRow hg).below h2.size (fun j hj e => by have := (World.ownsRow.lt h.own j e).1; omega))
theorem kq_held {w wr w2 w4 : World} {q k : Nat} {v : Value} {o : Obj} (h : RnI w q k v wr) (hb : Below wr.heap.size wr w2) (hg : (w2.alloc o).grownBy w4 v.ownBlock) : Bk w4 q #[v, .bool false, .int .i64 (-1)] 56 :=
  ((h.kq.later hb).alloc o).chg (Chg.ofRow hg) h.ne
theorem form3 {w : World} {B size n : Nat} {e : TypeId} {v : Value} {xs : List Value} (h : w.ownsRow B e size v n xs) : ∃ a c, v = .slice a n c := by
  rcases h.2 with ⟨rfl, rfl⟩ | ⟨g, cap, cur, rfl, _⟩
  · exact ⟨none, 0, rfl⟩
  · exact ⟨_, cap, rfl⟩
theorem rn_next {w wr w2 w4 : World} {q k : Nat} {v : Value} {va : Option Addr} {vc : Nat} {o : Obj} (h : RnI w q k v wr) (hb : Below wr.heap.size wr w2) (hk : Bk w4 q #[v, .bool false, .int .i64 (-1)] 56)
    (ho : w4.ownsRow w.heap.size 53 3 (.slice va (k + 1) vc) (k + 1) (zpages k ++ [.string (strOfNums zer), .string ⟨#[]⟩, .bool false])) (hg : (w2.alloc o).grownBy w4 v.ownBlock)
    (hat : (Value.slice va (k + 1) vc).ownBlock = v.ownBlock ∨ (Value.slice va (k + 1) vc).ownBlock = some (w2.alloc o).heap.size) : RnI w q (k + 1) (.slice va (k + 1) vc) (w4.setCell ⟨q, 0, none⟩ (.slice va (k + 1) vc)) := by
  have hne : (Value.slice va (k + 1) vc).ownBlock ≠ some q := fun e => by
    rcases hat with h1 | h1
    · exact h.ne (h1 ▸ e)
    · rw [h1] at e
      injection e with e
      have h2 := h.kq.lt
      have h3 := hb.size
      rw [show (w2.alloc o).heap.size = w2.heap.size + 1 by simp] at e
      omega
  have hc := chg_cell w4 q 0 (.slice va (k + 1) vc)
  refine ⟨by simpa using hk.set 0 (.slice va (k + 1) vc), ?_, (row_held h hb hg).setCell h.hq _, h.hq, hne⟩
  rw [zpages_succ]
  exact World.ownsRow.kept ho hc.toRow (.inr hne)
def RNewPost (n : Nat) (w : World) (e : Ending) (w' : World) : Prop :=
  ∃ q g cap, e = .returned (.tuple #[.pointer (some ⟨q, 0, none⟩), .int .i64 0]) ∧ RkIs w' q g cap (mkDk n) ∧ w.heap.size ≤ q ∧ w.heap.size ≤ g ∧ Below w.heap.size w w'
theorem rpgInfo : (Try.prog.info? 53).map (fun i => (i.zero, i.size, i.bytes)) = some (some (.agg #[.string ⟨#[]⟩, .string ⟨#[]⟩, .bool false]), 3, 40) := by kernel_rfl
set_option maxRecDepth 100000 in
theorem rnew_ok (w : World) (n : Nat) (h1 : 1 ≤ n) (h2 : n ≤ 40) : Calls Try.prog 12 #[.int .i64 (n : Int)] w (RNewPost n w) := by
  have h3 : ¬ (n : Int) < 1 := by omega
  have h4 : (n : Int) ≤ 4096 := by omega
  obtain ⟨i0, hi0, hz0, hz1, hz2⟩ := info_parts rpgInfo
  replace hi0 := Bx.mk hi0
  replace hz0 := Bx.mk hz0
  replace hz1 := Bx.mk hz1
  replace hz2 := Bx.mk hz2
  go_enter Try.func12, Try.ntmps12
  go_wp2_with fail
  have HI : Bx (∃ v, Bx (RnI w w.heap.size 0 v (w.alloc (.cells #[.slice none 0 0, .bool false, .int .i64 (-1)] 56)))) := ⟨_, ⟨⟨blk_new _ _ _ rfl, World.ownsRow_nil _ _ _ 3, (Below.refl _ _).alloc (Nat.le_refl _) _, Nat.le_refl _, by simp [Value.ownBlock]⟩⟩⟩
  generalize hqq : w.heap.size = q0 at *
  go_loopw [5] (fun v5 wr => ∃ k : Nat, k ≤ n ∧ v5 = .int .i64 k ∧ ∃ v, Bx (RnI w q0 k v wr)) (fun v5 _ => n - (intOf v5).toNat)
  case atStart => exact ⟨0, by omega, rfl, HI.out⟩
  case round =>
    clear HI
    obtain ⟨k, hk, rfl, v, HI⟩ := hrel
    by_cases hlt : k < n
    · have t0 : decide ((k : Int) < (n : Int)) = true := by simp; omega
      have c0 := HI.out.kq.cell 0 rfl
      go_upto_region 7 with fail
      have hz := Bx.mk fun W => rzeros_any W
      have HI' := HI
      have hwr := Bx.mk (show w.heap.size ≤ wr.heap.size from hqq ▸ HI.out.bel.size)
      have hqlo := HI.out.hq
      have hBr := Bx.mk HI.out.bel
      go_region_law ((first
          | (go_simp; go_at_call 32; refine (hz.out _).mono ?_; rintro _ w2 ⟨rfl, hb2⟩; have c0' : w2.cell? ⟨q0, 0, none⟩ = some v := cell_later hb2 c0; have c0a : ∀ o, (w2.alloc o).cell? ⟨q0, 0, none⟩ = some v := fun o => cell_later ((Below.refl _ _).alloc (Nat.le_refl _) _) c0'; have hb2B : Bx (Below wr.heap.size wr w2) := ⟨((Below.refl _ _).drew).trans hb2⟩; go_wp2_with fail)
          | (refine step_append_own (by rfl) _ _ 54 (by rfl) w.heap.size 53 i0 _ 3 40 Try.underlying54 hi0.out hz0.out hz1.out hz2.out rfl (by omega) v k (zpages k) (by rfl) (own_held HI'.out hb2B.out _) ⟨w2.heap.size, 0, none⟩ 1 1 [.string (strOfNums zer), .string ⟨#[]⟩, .bool false] (by rfl) (by rfl) (World.news_of_block (cs := #[.string (strOfNums zer), .string ⟨#[]⟩, .bool false]) (t := 53) (fr := (0, 0)) (heap_alloc_new w2 _)) (by simp [Value.oneCell']) (by unfold maxLen; omega) (by omega) (base_held HI'.out hb2B.out _) ?_; intro v4 w4 hown hgrow hat; obtain ⟨va, vc, rfl⟩ := form3 hown.out; have k4 := kq_held HI'.out hb2B.out hgrow.out; have c4 := k4.cell 0 rfl; have f4 := k4.frozen 0; have k4B := Bx.mk k4; clear k4)))
      all_goals
        have HI9 : Bx (RnI w q0 (k + 1) (.slice va (k + 1) vc) (w4.setCell ⟨q0, 0, none⟩ (.slice va (k + 1) vc))) := ⟨rn_next HI'.out hb2B.out k4B.out hown.out hgrow.out hat.out⟩
        clear hown hgrow hat k4B c4 f4 HI HI' c0 hb2 hb2B hBr c0' c0a
        go_wp2_with fail
        go_roundw
        case rel => exact ⟨k + 1, by omega, by go_num, _, HI9⟩
        case measure => simp [intOf]; omega
    · have t0 : decide ((k : Int) < (n : Int)) = false := by simp; omega
      obtain rfl : k = n := by omega
      obtain ⟨gg, cc, rfl⟩ : ∃ gg cc, v = .slice (some ⟨gg, 0, none⟩) k cc := by
        rcases HI.out.own.2 with ⟨_, e⟩ | ⟨gg, cc, _, e, _⟩
        · omega
        · exact ⟨gg, cc, e⟩
      obtain ⟨hrc, hl1, hl2, hl3⟩ := rc_own HI.out.own (Fof (mkDk k).p) fun i j hi hj => (zpages_get hi hj).trans (congrArg some (fof_at (by unfold mkDk; rw [List.getElem?_replicate, if_pos hi]) j).symm)
      have hD : Bx (RkIs wr q0 gg cc (mkDk k)) := by
        have hl : (mkDk k).p.length = k := List.length_replicate ..
        refine ⟨⟨mkDk_ok k h2, by rw [hl]; omega, by rw [hl]; exact ⟨hl1, hl2⟩, by rw [hl]; exact HI.out.kq, by rw [hl]; exact hrc, fun e => HI.out.ne (by rw [e]; rfl)⟩⟩
      have hB := Bx.mk HI.out.bel
      have hq1 := Bx.mk HI.out.hq
      have hl3 := Bx.mk hl3
      clear HI hrc
      go_wp2_with fail
      go_ret2
      exact ⟨q0, gg, cc, rfl, hD.out, hq1.out, hl3.out, hB.out⟩
end Go.Proofs.Ytaajkhdmeghnbaa
