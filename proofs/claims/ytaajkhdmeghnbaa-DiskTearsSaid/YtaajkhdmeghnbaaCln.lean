/- The program's Clone. -/
import Derived.Test.YtaajkhdmeghnbaaMnt
namespace Go.Proofs.Ytaajkhdmeghnbaa
open Go.RowKit Go.Sort

def flatc (p : List Pg) : List Value := p.flatMap fun x => x.1.map (Value.int .u8)
theorem flatc_len : ∀ {p : List Pg}, (∀ x ∈ p, x.1.length = 128) → (flatc p).length = p.length * 128
  | [], _ => rfl
  | x :: p, h => by
    have h1 := flatc_len (p := p) fun y hy => h y (List.mem_cons_of_mem _ hy)
    have h2 := h x (List.mem_cons_self ..)
    unfold flatc at h1 ⊢
    rw [List.flatMap_cons, List.length_append, h1, List.length_map, h2, List.length_cons]
    omega
theorem flatc_get : ∀ {p : List Pg}, (∀ x ∈ p, x.1.length = 128) → ∀ {i : Nat} {x : Pg}, p[i]? = some x → ∀ {j : Nat}, j < 128 → (flatc p)[i * 128 + j]? = (x.1.map (Value.int .u8))[j]?
  | [], _, _, _, h, _, _ => by simp at h
  | y :: p, h, i, x, hx, j, hj => by
    have h1 := h y (List.mem_cons_self ..)
    unfold flatc
    rw [List.flatMap_cons]
    cases i with
    | zero =>
      simp only [List.getElem?_cons_zero, Option.some.injEq] at hx
      subst hx
      rw [Nat.zero_mul, Nat.zero_add, List.getElem?_append_left (by rw [List.length_map, h1]; exact hj)]
    | succ i =>
      rw [List.getElem?_cons_succ] at hx
      rw [List.getElem?_append_right (by rw [List.length_map, h1]; omega), List.length_map, h1, show (i + 1) * 128 + j - 128 = i * 128 + j by omega]
      exact flatc_get (fun z hz => h z (List.mem_cons_of_mem _ hz)) hx hj
theorem flatc_cells {w : World} {g : Nat} {p : List Pg} (h : Pages w g p) (hl : ∀ x ∈ p, x.1.length = 128) (j : Nat) (u : Value) (hu : (flatc p)[j]? = some u) : w.cell? ((⟨g, 0, none⟩ : Addr).add j) = some u := by
  rw [Addr.add_mid, Nat.zero_add]
  have hj := (List.getElem?_eq_some_iff.1 hu).1
  rw [flatc_len hl] at hj
  obtain ⟨x, hx⟩ : ∃ x, p[j / 128]? = some x := ⟨_, List.getElem?_eq_getElem (by omega)⟩
  have h1 := flatc_get hl hx (j := j % 128) (by omega)
  rw [show j / 128 * 128 + j % 128 = j by omega, hu] at h1
  have := h.at_ _ x hx (j % 128) u h1.symm
  rwa [show j / 128 * 128 + j % 128 = j by omega] at this
theorem pages_own {w : World} {B g n cap : Nat} {p : List Pg} (h : w.ownsRow B 72 128 (.slice (some ⟨g, 0, none⟩) n cap) n (flatc p)) (hl : ∀ x ∈ p, x.1.length = 128) (hn : n = p.length) : Pages w g p ∧ n ≤ cap ∧ cap ≤ maxLen ∧ B ≤ g := by
  rcases h.2 with ⟨e, _⟩ | ⟨g', cap', cur, e, hB, hg, hnc, hcm, hcs, ht⟩
  · cases e
  · injection e with e1 _ e3
    injection e1 with e1
    injection e1 with e1 _ _
    subst e1 e3
    have hc : ∀ j u, (flatc p)[j]? = some u → w.cell? ⟨g, j, none⟩ = some u := fun j u hu => by
      rw [← ht, List.getElem?_take] at hu
      split at hu
      · have : w.cell? ⟨g, j, none⟩ = cur[j]? := by simp [World.cell?, hg]
        rw [this, ← Array.getElem?_toList]; exact hu
      · cases hu
    have hsz : n * 128 ≤ cap * 128 := Nat.mul_le_mul_right _ hnc
    refine ⟨⟨fun i x hx j v hv => ?_, fun j hj => ?_, (Array.getElem?_eq_some_iff.1 hg).1⟩, hnc, hcm, hB⟩
    · have hj : j < 128 := by
        have := (List.getElem?_eq_some_iff.1 hv).1
        rwa [List.length_map, hl x (List.mem_of_getElem? hx)] at this
      exact hc _ _ ((flatc_get hl hx hj).trans hv)
    · rw [Nat.zero_add]
      refine ⟨?_, frozen_of_row w g j cur _ hg⟩
      rw [cell_of_row w g j cur _ _ hg, Array.getElem?_eq_getElem (by rw [hcs]; rw [← hn] at hj; omega)]
      rfl
theorem own_ge {b j n c : Nat} (h : (Value.slice (some ⟨b, 0, none⟩) n c).ownBlock = some j) : b ≤ j := by
  have : b = j := by simpa [Value.ownBlock] using h
  omega
theorem below_al {w W : World} (h : Below w.heap.size w W) (o : Obj) : Below w.heap.size w (W.alloc o) := h.alloc h.size o
theorem below_on {w W W' : World} (h : Below w.heap.size w W) (h' : Below W.heap.size W W') : Below w.heap.size w W' := h.trans (h'.mono h.size)
theorem held_on {w W W' : World} {a b c : Addr} {x y z : Value} (h : Below w.heap.size w W ∧ W.cell? a = some x ∧ W.cell? b = some y ∧ W.cell? c = some z) (hb : Below W.heap.size W W') : Below w.heap.size w W' ∧ W'.cell? a = some x ∧ W'.cell? b = some y ∧ W'.cell? c = some z :=
  ⟨below_on h.1 hb, cell_later hb h.2.1, cell_later hb h.2.2.1, cell_later hb h.2.2.2⟩
theorem held_al {w W : World} {a b c : Addr} {x y z : Value} (h : Below w.heap.size w W ∧ W.cell? a = some x ∧ W.cell? b = some y ∧ W.cell? c = some z) (o : Obj) : Below w.heap.size w (W.alloc o) ∧ (W.alloc o).cell? a = some x ∧ (W.alloc o).cell? b = some y ∧ (W.alloc o).cell? c = some z :=
  held_on h ((Below.refl _ _).alloc (Nat.le_refl _) _)
theorem held_B {w W : World} {R : Prop} (h : Below w.heap.size w W ∧ R) : Below w.heap.size w W := h.1
def ClnPost (w : World) (p : List Pg) (e : Ending) (w' : World) : Prop := ∃ g cap, e = .returned (.slice (some ⟨g, 0, none⟩) p.length cap) ∧ Pages w' g p ∧ p.length ≤ cap ∧ cap ≤ maxLen ∧ w.heap.size ≤ g ∧ Below w.heap.size w w'
set_option maxRecDepth 100000 in
theorem clone_pages (w : World) (g cap : Nat) (p : List Pg) (h : Pages w g p) (hl : ∀ x ∈ p, x.1.length = 128) (h0 : 0 < p.length) (hp : p.length ≤ 40) :
    Calls Try.prog 48 #[.slice (some ⟨g, 0, none⟩) p.length cap] w (ClnPost w p) := by
  have heq := fun (W : World) => Lib.run_eql_slice_nil (P := Try.prog) W 66 72 (some ⟨g, 0, none⟩) p.length cap 0 0 Try.underlying66
  obtain ⟨i0, hi0, hz0, hz1, hz2⟩ := info_parts pgAll
  have h0' : (w.alloc (.cells #[] 72)).ownsRow w.heap.size 72 128 (.slice (some ⟨w.heap.size, 0, none⟩) 0 0) 0 [] := World.ownsRow_lit (e := 72) (size := 128) w #[] 0 (Nat.le_refl _) (by simp [maxLen]) rfl
  have h1 := Bx.mk (h.later ((Below.refl w.heap.size w).alloc (Nat.le_refl _) (.cells #[] 72)))
  have hfl := Bx.mk (flatc_len hl)
  have hfc := Bx.mk (flatc_cells h1.out hl)
  have hone : Bx (∀ u ∈ flatc p, u.oneCell' = true) := ⟨fun u hu => by
    unfold flatc at hu
    rw [List.mem_flatMap] at hu
    obtain ⟨x, _, hx⟩ := hu
    obtain ⟨y, _, rfl⟩ := List.mem_map.1 hx
    rfl⟩
  have hl := Bx.mk hl
  have hz0 := Bx.mk hz0
  have hz1 := Bx.mk hz1
  have hz2 := Bx.mk hz2
  have hi0 := Bx.mk hi0
  have h0' := Bx.mk h0'
  clear h
  generalize hn : p.length = n at *
  replace hn := Bx.mk hn
  go_enter Try.func48, Try.ntmps48
  go_wp2_with (at_builtin; refine wpList_append_own_at _ rfl _ _ _ rfl w.heap.size 72 i0 (arrV .u8 zer) 128 128 Try.underlying66 hi0.out hz0.out hz1.out hz2.out ((row_cells zer .u8).trans zer_len) (by decide) _ 0 [] rfl h0'.out ⟨g, 0, none⟩ n cap (flatc p) rfl hfl.out hfc.out hone.out (by unfold maxLen; omega) (by omega) (le_alloc (Nat.le_refl _) _) ?_)
  intro v5 w5 hown hg hnil _
  obtain ⟨g5, c5, rfl⟩ : ∃ g5 c5, v5 = .slice (some ⟨g5, 0, none⟩) n c5 := by
    rcases hown.2 with ⟨e, _⟩ | ⟨g5, c5, _, e, _⟩
    · exact absurd e hnil
    · exact ⟨g5, c5, e⟩
  have hP := Bx.mk (pages_own hown hl.out hn.out.symm)
  have hB : Bx (Below w.heap.size w w5) := ⟨((Below.refl _ _).alloc (Nat.le_refl _) _).grown hg (le_alloc (Nat.le_refl _) _) (fun j hj => own_ge hj)⟩
  clear hown hg hnil
  go_wp2_with fail
  go_ret
  exact ⟨g5, c5, by rw [hn.out]; rfl, hP.out.1, by rw [hn.out]; exact hP.out.2.1, hP.out.2.2.1, hP.out.2.2.2, hB.out⟩
/-- the pages of which the pending content has been copied -/
def part (p : List Pg) (L : Nat → Bool) : List Pg := p.mapIdx fun i x => (x.1, if L i = true then none else x.2)
theorem part_len (p : List Pg) (L : Nat → Bool) : (part p L).length = p.length := by unfold part; rw [List.length_mapIdx]
theorem part_at {p : List Pg} {i : Nat} {x : Pg} (h : p[i]? = some x) (L : Nat → Bool) : (part p L)[i]? = some (x.1, if L i = true then none else x.2) := by
  unfold part
  rw [List.getElem?_mapIdx, h]; rfl
theorem part_start (p : List Pg) : ∀ x ∈ part p (fun i => (p[i]?.bind (·.2)).isSome), x.2 = none := fun x hx => by
  obtain ⟨i, hi⟩ := List.getElem?_of_mem hx
  cases h : p[i]? with
  | none => rw [List.getElem?_eq_none_iff.2 (by rw [part_len]; exact List.getElem?_eq_none_iff.1 h)] at hi; cases hi
  | some y =>
    rw [part_at h, h] at hi
    injection hi with hi
    rw [← hi]
    obtain ⟨o, n⟩ := y
    cases n <;> rfl
theorem part_step {p : List Pg} {i : Nat} {n : List Int} (L : Nat → Bool) (hp : p[i]?.bind (·.2) = some n) (hL : L i = true) : part p (fun j => L j && !decide (j = i)) = (part p L).modify i fun x => (x.1, some n) := by
  apply List.ext_getElem?
  intro j
  rw [List.getElem?_modify]
  cases h : p[j]? with
  | none =>
    have := List.getElem?_eq_none_iff.1 h
    rw [List.getElem?_eq_none_iff.2 (by rw [part_len]; exact this), List.getElem?_eq_none_iff.2 (by rw [part_len]; exact this)]; rfl
  | some x =>
    rw [part_at h, part_at h]
    by_cases e : i = j
    · subst e
      rw [h, Option.bind_some] at hp
      simp only [decide_true, Bool.not_true, Bool.and_false, Bool.false_eq_true, if_false, if_true, hL]
      show some (x.1, x.2) = some (x.1, some n)
      rw [hp]
    · have e2 : ¬ j = i := fun h => e h.symm
      simp [e, e2]
theorem part_end {p : List Pg} {L : Nat → Bool} (hL : ∀ i, i < p.length → L i = false) : part p L = p := by
  apply List.ext_getElem?
  intro i
  cases h : p[i]? with
  | none => rw [List.getElem?_eq_none_iff.2 (by rw [part_len]; exact List.getElem?_eq_none_iff.1 h)]
  | some x =>
    rw [part_at h, hL i (List.getElem?_eq_some_iff.1 h).1]; rfl
/-- what lies in memory while Clone copies the pending pages -/
structure ClI (w : World) (p2 g2 mb2 cap2 m2 : Nat) (d : Dk) (q : List Pg) (wr : World) : Prop where
  kp : Bk wr p2 #[.slice (some ⟨g2, 0, none⟩) d.p.length cap2, .map (some mb2), .bool d.off, .int .i64 d.trip] 69
  pg : Pages wr g2 d.p
  km : PgMap wr mb2 m2 q
  ne : p2 ≠ g2 ∧ g2 ≠ mb2 ∧ p2 ≠ mb2
  cap : d.p.length ≤ cap2 ∧ cap2 ≤ maxLen
  lo : w.heap.size ≤ p2 ∧ w.heap.size ≤ g2 ∧ w.heap.size ≤ mb2
  bel : Below w.heap.size w wr
theorem ClI.chg {w wr wr' : World} {p2 g2 mb2 cap2 m2 : Nat} {d : Dk} {q : List Pg} {S : Nat → Prop} (h : ClI w p2 g2 mb2 cap2 m2 d q wr) (hc : Chg S wr wr') (hn : ∀ k, In3 p2 g2 mb2 k → ¬ S k) (hB : ∀ k, k < w.heap.size → ¬ S k) : ClI w p2 g2 mb2 cap2 m2 d q wr' :=
  ⟨h.kp.chg hc (hn _ (.inl rfl)), h.pg.chg hc (hn _ (.inr (.inl rfl))), h.km.chg hc (hn _ (.inr (.inr rfl))), h.ne, h.cap, h.lo, h.bel.trans (hc.below h.bel.size hB)⟩
theorem ClI.later {w wr wr' : World} {p2 g2 mb2 cap2 m2 : Nat} {d : Dk} {q : List Pg} (h : ClI w p2 g2 mb2 cap2 m2 d q wr) (hb : Below wr.heap.size wr wr') : ClI w p2 g2 mb2 cap2 m2 d q wr' :=
  h.chg (.ofBelow hb (fun _ => False)) (fun _ _ e => e) (fun _ _ e => e)
/-- Clone's answer -/
def ClonePost (w : World) (d : Dk) (m : Nat) (e : Ending) (w' : World) : Prop :=
  ∃ p g mb cap, e = .returned (.pointer (some ⟨p, 0, none⟩)) ∧ DkIs w' p g mb cap m d ∧ w.heap.size ≤ p ∧ w.heap.size ≤ g ∧ w.heap.size ≤ mb ∧ Below w.heap.size w w'
set_option maxRecDepth 100000 in
theorem clone_any (w : World) (p g mb cap m : Nat) (d : Dk) (h : DkIs w p g mb cap m d) (hm : m < 1000000) : Calls Try.prog 28 #[.pointer (some ⟨p, 0, none⟩)] w (ClonePost w d m) := by
  have H := Bx.mk h
  have hC := Bx.mk fun (W : World) (hW : DkIs W p g mb cap m d) => clone_pages W g cap d.p hW.pg (fun x hx => (h.ok.pages x hx).1) h.pos h.ok.few
  have k0 := h.kp.cell 0 rfl
  have k2 := h.kp.cell 2 rfl
  have k3 := h.kp.cell 3 rfl
  have hmm := @run_makeMap Try.prog
  clear h
  go_enter Try.func28, Try.ntmps28
  go_upto_region 1 with fail
  go_cut [3] from 6 to 22 (fun v3 wx => ∃ p2 g2 mb2 cap2, v3 = .pointer (some ⟨p2, 0, none⟩) ∧ Bx (ClI w p2 g2 mb2 cap2 0 d (part d.p fun i => (d.p[i]?.bind (·.2)).isSome) wx))
  case first =>
    go_region_held3 (fun w' => Below w.heap.size w w' ∧ w'.cell? ⟨p, 0, none⟩ = some (.slice (some ⟨g, 0, none⟩) d.p.length cap) ∧ w'.cell? ⟨p, 2, none⟩ = some (.bool d.off) ∧ w'.cell? ⟨p, 3, none⟩ = some (.int .i64 d.trip))
      (first | exact held_al (by assumption) _ | exact held_on (by assumption) (by assumption) | exact ⟨(Below.refl _ _).drew, k0, k2, k3⟩)
      ((go_at_call 48; refine (hC.out _ (H.out.later (held_B (by assumption)))).mono ?_; rintro _ w2 ⟨g2, cap2, rfl, hP, hcp, hcm, hg2, hb2⟩))
    · have hh := held_B (by assumption)
      clear hC hmm H k0 k2 k3
      go_wp2_with fail
      go_meet
      refine ⟨_, _, _, _, rfl, ⟨⟨blk_new _ _ _ (by simp), (hP.later ((Below.refl _ _).alloc (Nat.le_refl _) _)).later ((Below.refl _ _).alloc (Nat.le_refl _) _), (PgMap.made w2 (part_start d.p)).chg (.ofBelow ((Below.refl _ _).alloc (Nat.le_refl _) _) (fun _ => False)) (fun e => e), ?_, ⟨hcp, hcm⟩, ?_, hh⟩⟩⟩
      · have := hP.lt; omega
      · have h1 : w.heap.size ≤ w2.heap.size := hb2.size
        have h2 : w.heap.size ≤ g2 := hg2
        omega
    · have hh := held_B (by assumption)
      clear hC hmm H k0 k2 k3
      go_wp2_with fail
      go_meet
      have hb3 : Below (w.alloc (.map #[] 0)).heap.size (w.alloc (.map #[] 0)) w2 := ((Below.refl _ _).drew).trans hb2
      refine ⟨_, _, _, _, rfl, ⟨⟨blk_new _ _ _ rfl, hP.later ((Below.refl _ _).alloc (Nat.le_refl _) _), ((PgMap.made w (part_start d.p)).chg (.ofBelow hb3 (fun _ => False)) (fun e => e)).chg (.ofBelow ((Below.refl _ _).alloc (Nat.le_refl _) _) (fun _ => False)) (fun e => e), ?_, ⟨hcp, hcm⟩, ?_, hh⟩⟩⟩
      · have h1 := hP.lt
        have h2 := hb3.size
        have h3 : (w.alloc (.map #[] 0)).heap.size ≤ g2 := hg2
        rw [show (w.alloc (.map #[] 0)).heap.size = w.heap.size + 1 by simp] at h2 h3
        omega
      · have h2 := hb3.size
        have h3 : (w.alloc (.map #[] 0)).heap.size ≤ g2 := hg2
        rw [show (w.alloc (.map #[] 0)).heap.size = w.heap.size + 1 by simp] at h2 h3
        omega
  case rest =>
  obtain ⟨p2, g2, mb2, cap2, rfl, HI⟩ := hcut
  have HD := Bx.mk (H.out.later HI.out.bel)
  have hfew := H.out.ok.few
  have hlt := Bx.mk H.out.lt
  clear hC hmm k0 k2 k3
  obtain ⟨w3, cnt, hrun, hrg, hb3, hz3, hcm⟩ := HD.out.km.range (by omega)
  have c1 := HD.out.kp.cell 1 rfl
  have HJ := Bx.mk (HI.out.later hb3)
  have hrr : Bx (w.heap.size ≤ wc.heap.size ∧ p2 < wc.heap.size ∧ g2 < wc.heap.size ∧ mb2 < wc.heap.size) := ⟨HI.out.bel.size, HI.out.kp.lt, HI.out.pg.lt, HI.out.km.lt⟩
  clear HD HI hb3 hz3
  generalize hr : wc.heap.size = r at *
  replace hr := Bx.mk hr
  have HR : Bx (PgRng w3 mb r m d.p (fun i => (d.p[i]?.bind (·.2)).isSome) cnt) := ⟨hrg⟩
  clear hrg
  go_wp2_with fail
  go_loopw [27] (fun v27 wr => ∃ L c m2, v27 = v27 ∧ m2 + c ≤ m ∧ Bx (PgRng wr mb r m d.p L c) ∧ Bx (ClI w p2 g2 mb2 cap2 m2 d (part d.p L) wr)) (fun _ wr => wr.rangeLeft mb r)
  case atStart => exact ⟨_, cnt, 0, rfl, by omega, HR, HJ⟩
  case round =>
    clear HR HJ hrun c1 hcm
    obtain ⟨L, cnt, m2, -, hm2, HR, HI⟩ := hrel
    rcases HR.out.next (by omega) 0 with ⟨-, hL, hrun⟩ | ⟨i, n, w4, cnt4, hi, hn, hL, hrun, hrg4, hlt4, hc4, hz4, hen⟩
    · have hrun : ∀ ty, (Instr.next (.pointer (some ⟨r, 0, none⟩)) false ty).run Try.prog _ = _ := fun _ => hrun
      rw [part_end hL] at HI
      clear HR hL
      go_wp2_with fail
      go_ret
      exact ⟨p2, g2, mb2, cap2, rfl, ⟨H.out.ok, H.out.pos, HI.out.cap, HI.out.kp, HI.out.pg, HI.out.km.mono (by omega), HI.out.ne⟩, HI.out.lo.1, HI.out.lo.2.1, HI.out.lo.2.2, HI.out.bel⟩
    · have hrun : ∀ ty, (Instr.next (.pointer (some ⟨r, 0, none⟩)) false ty).run Try.prog _ = _ := fun _ => hrun
      have hl : n.length = 128 := ((H.out.ok.pages _ (List.getElem_mem hi)).2.2 n (by rw [List.getElem?_eq_getElem hi] at hn; exact hn)).1
      have s1 := Bx.mk (pgInfo _ ((row_cells n .u8).trans hl))
      have s2 := Bx.mk (show Try.zeroCells72.size = (n.map (Value.int .u8)).toArray.size by rw [row_cells, hl]; kernel_rfl)
      have s3 := Bx.mk (one_ints .u8 n)
      have hle := Bx.mk HR.out.left_eq
      have hpi : part d.p (fun j => L j && !decide (j = i)) = (part d.p L).modify i (fun x => (x.1, some n)) := part_step L hn hL
      unfold arrV at hrun hen
      replace hz4 := Bx.mk hz4
      replace hc4 := Bx.mk hc4
      replace hrg4 := Bx.mk hrg4
      replace hl := Bx.mk hl
      replace hpi := Bx.mk hpi
      clear hn hL
      go_upto_region 5 with (refine wpList_store_whole rfl _ _ _ rfl w4.heap.size rfl _ _ rfl _ (heap_alloc_new w4 (.cells Try.zeroCells72 72)) s1.out s2.out s3.out ?_)
      simp only [Act.put]
      generalize hW : World.setRow (World.alloc w4 _) _ _ = W5
      have kq : Bx (Bk W5 w4.heap.size (n.map (Value.int .u8)).toArray 72) := by rw [← hW]; exact ⟨setRow_heap _ _ _ _ _ (0, 0) (heap_alloc_new _ _)⟩
      have hb5 : Bx (Below w4.heap.size w4 W5) := by rw [← hW]; exact ⟨below_setRow ((Below.refl _ _).alloc (Nat.le_refl _) _) (Nat.le_refl _) _⟩
      clear hW hrun hen
      have HI5 : Bx (ClI w p2 g2 mb2 cap2 m2 d (part d.p L) W5) := ⟨(HI.out.chg hc4.out (fun k hk e => by have := hrr.out; rcases hk with rfl | rfl | rfl <;> omega) (fun k hk e => by have := hrr.out; omega)).later hb5.out⟩
      have HR5 := Bx.mk (hrg4.out.chg (.ofBelow hb5.out (fun _ => False)) (fun e => e) (fun e => e))
      clear HI HR hc4 hrg4 hb5
      have c1 : ∀ dk osk, (grow (redrawn W5 dk) osk).cell? ⟨p2, 1, none⟩ = some (.map (some mb2)) := cell_regrown (HI5.out.kp.cell 1 rfl)
      have hrg : Bx (∀ W, (∃ P : Regrown, W = grow (redrawn W5 P.d) P.os) → W.rangeAt w4.heap.size 0 (n.map (Value.int .u8))) := ⟨by
        rintro _ ⟨P, rfl⟩ j v hv
        refine cell_regrown (?_) _ _
        rw [Nat.zero_add]
        exact kq.out.cell j (by rw [List.getElem?_toArray]; exact hv)⟩
      refine wp_region_head_below 6 (by kernel_rfl) (by kernel_rfl) ?_
      simp only [List.take_succ_cons, List.take_zero, List.drop_succ_cons, List.drop_zero]
      repeat (first
        | refine wpQuiet_load_mid rfl _ _ rfl w4.heap.size 0 rfl _ _ hrg.out Try.underlying72 rfl (by have := s1.out; rwa [List.size_toArray] at this) ?_
        | go_big_quiet_step (fail) | quiet_step (fail))
      refine wpQuiet_nil ?_
      rintro _ ⟨⟨dq, osq⟩, rfl⟩
      have hb6 := below_regrown W5 dq osq
      replace HI5 := Bx.mk (HI5.out.later hb6)
      replace HR5 := Bx.mk (HR5.out.chg (.ofBelow hb6 (fun _ => False)) (fun e => e) (fun e => e))
      clear c1 hrg hb6 kq
      generalize grow (redrawn W5 dq) osq = W6 at *
      obtain ⟨W7, hrun, hm7, hg7⟩ := HI5.out.km.put (by unfold maxLen; omega) (by rw [part_len]; exact hi) (by omega) (fun x : Pg => (x.1, some n)) hl.out (fun y _ => rfl)
      rw [← hpi.out] at hm7
      have HI7 : Bx (ClI w p2 g2 mb2 cap2 (m2 + 1) d (part d.p (fun j => L j && !decide (j = i))) W7) := by
        have hne := HI5.out.ne
        have hlo := HI5.out.lo
        exact ⟨⟨HI5.out.kp.chg hg7 (fun e => hne.2.2 e), HI5.out.pg.chg hg7 (fun e => hne.2.1 e), hm7, hne, HI5.out.cap, hlo, HI5.out.bel.trans (hg7.below HI5.out.bel.size (fun k hk e => by omega))⟩⟩
      have HR7 := Bx.mk (HR5.out.chg hg7 (fun e => by have := hlt.out; have := HI5.out.lo; omega) (fun e => by have := hrr.out; omega))
      clear hm7 hg7 HI5 HR5
      unfold arrV at hrun
      go_wp2_with fail
      go_roundw
      case rel => exact ⟨_, cnt4, m2 + 1, trivial, by omega, HR7, HI7⟩
      case measure => rw [HR7.out.left_eq, hle.out]; omega
end Go.Proofs.Ytaajkhdmeghnbaa
