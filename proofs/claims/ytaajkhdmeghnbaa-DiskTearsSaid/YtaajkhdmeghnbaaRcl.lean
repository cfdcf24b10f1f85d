/- The reference's Clone. -/
import Derived.Test.YtaajkhdmeghnbaaRne
namespace Go.Proofs.Ytaajkhdmeghnbaa
open Go.RowKit Go.Sort

def rflat (p : List Pg) : List Value := p.flatMap fun x => [rcell x 0, rcell x 1, rcell x 2]
theorem rflat_len : ∀ (p : List Pg), (rflat p).length = p.length * 3
  | [] => rfl
  | x :: p => by
    have h1 := rflat_len p
    unfold rflat at h1 ⊢
    rw [List.flatMap_cons, List.length_append, h1]
    simp; omega
theorem rflat_get : ∀ {p : List Pg} {i : Nat} {x : Pg}, p[i]? = some x → ∀ {j : Nat}, j < 3 → (rflat p)[i * 3 + j]? = some (rcell x j)
  | [], _, _, h, _, _ => by simp at h
  | y :: p, i, x, hx, j, hj => by
    unfold rflat
    rw [List.flatMap_cons]
    cases i with
    | zero =>
      simp only [List.getElem?_cons_zero, Option.some.injEq] at hx
      subst hx
      rw [Nat.zero_mul, Nat.zero_add]
      match j, hj with
      | 0, _ => rfl
      | 1, _ => rfl
      | 2, _ => rfl
    | succ i =>
      rw [List.getElem?_cons_succ] at hx
      rw [List.getElem?_append_right (by simp; omega), show (i + 1) * 3 + j - [rcell y 0, rcell y 1, rcell y 2].length = i * 3 + j by simp; omega]
      exact rflat_get hx hj
theorem rflat_cells {w : World} {g : Nat} {p : List Pg} (h : RC w g p.length (Fof p)) (j : Nat) (u : Value) (hu : (rflat p)[j]? = some u) : w.cell? ((⟨g, 0, none⟩ : Addr).add j) = some u := by
  rw [Addr.add_mid, Nat.zero_add]
  have hj := (List.getElem?_eq_some_iff.1 hu).1
  rw [rflat_len] at hj
  obtain ⟨x, hx⟩ : ∃ x, p[j / 3]? = some x := ⟨_, List.getElem?_eq_getElem (by omega)⟩
  have h1 := rflat_get hx (j := j % 3) (by omega)
  rw [show j / 3 * 3 + j % 3 = j by omega, hu] at h1
  have := h.at_ (j / 3) (j % 3) (by omega) (by omega)
  rw [show j / 3 * 3 + j % 3 = j by omega, fof_at hx] at this
  rw [this, ← h1]
theorem rflat_one (p : List Pg) : ∀ u ∈ rflat p, u.oneCell' = true := fun u hu => by
  unfold rflat at hu
  rw [List.mem_flatMap] at hu
  obtain ⟨x, _, hx⟩ := hu
  simp only [rcell, List.mem_cons, List.not_mem_nil, or_false] at hx
  rcases hx with rfl | rfl | rfl <;> rfl
def RClonePost (w : World) (d : Dk) (e : Ending) (w' : World) : Prop :=
  ∃ q g cap, e = .returned (.pointer (some ⟨q, 0, none⟩)) ∧ RkIs w' q g cap d ∧ w.heap.size ≤ q ∧ w.heap.size ≤ g ∧ Below w.heap.size w w'
theorem below_grown_nil {w w' : World} {n c : Nat} (h : w.grownBy w' (Value.slice none n c).ownBlock) : Below w.heap.size w w' := ⟨h.os, h.tape, h.output, h.size, fun k hk => h.block k hk (by simp [Value.ownBlock])⟩
set_option maxRecDepth 100000 in
theorem rclone_any (w : World) (q g cap : Nat) (d : Dk) (h : RkIs w q g cap d) : Calls Try.prog 29 #[.pointer (some ⟨q, 0, none⟩)] w (RClonePost w d) := by
  have H := Bx.mk h
  obtain ⟨i0, hi0, hz0, hz1, hz2⟩ := info_parts rpgInfo
  have k0 := h.kq.cell 0 rfl
  have k1 := h.kq.cell 1 rfl
  have k2 := h.kq.cell 2 rfl
  have hfew := h.ok.few
  have hpos := h.pos
  have hfc := Bx.mk fun (W : World) (hb : Below w.heap.size w W) => rflat_cells (h.later hb).pg
  have hone := Bx.mk (rflat_one d.p)
  have hfl := Bx.mk (rflat_len d.p)
  replace hi0 := Bx.mk hi0
  replace hz0 := Bx.mk hz0
  replace hz1 := Bx.mk hz1
  replace hz2 := Bx.mk hz2
  clear h
  generalize hn : d.p.length = n at *
  replace hn := Bx.mk hn
  go_enter Try.func29, Try.ntmps29
  go_upto_region 2 with fail
  have hst : Bx (Below w.heap.size w w.drew) := ⟨(Below.refl _ _).drew⟩
  go_region_held3 (fun w' => Below w.heap.size w w' ∧ w'.cell? ⟨q, 0, none⟩ = some (.slice (some ⟨g, 0, none⟩) n cap) ∧ w'.cell? ⟨q, 1, none⟩ = some (.bool d.off) ∧ w'.cell? ⟨q, 2, none⟩ = some (.int .i64 d.trip))
    (first | assumption | exact held_al (by assumption) _ | exact held_on (by assumption) (below_grown_nil hgrow.out) | exact ⟨(Below.refl _ _).drew, k0, k1, k2⟩)
    ((refine step_append_own (by rfl) _ _ 54 (by rfl) w.heap.size 53 i0 _ 3 40 Try.underlying54 hi0.out hz0.out hz1.out hz2.out rfl (by omega) (.slice none 0 0) 0 [] (by rfl) (World.ownsRow_nil _ _ _ 3) ⟨g, 0, none⟩ n cap (rflat d.p) (by rfl) hfl.out (hfc.out _ hst.out) hone.out (by unfold maxLen; omega) (by omega) (Nat.le_refl _) ?_; intro v4 w4 hown hgrow hat; obtain ⟨va, vc, rfl⟩ := form3 hown.out))
  all_goals
    have hbel := held_B (by assumption)
    have ho := hown.out
    rw [Nat.zero_add, List.nil_append] at ho
    obtain ⟨gg, rfl⟩ : ∃ gg, va = some ⟨gg, 0, none⟩ := by
      rcases ho.2 with ⟨_, e⟩ | ⟨gg, cc, _, e, _⟩
      · omega
      · injection e with e1 _ _; exact ⟨gg, e1⟩
    obtain ⟨hrc, hl1, hl2, hl3⟩ := rc_own ho (Fof d.p) fun i j hi hj => by
      obtain ⟨x, hx⟩ : ∃ x, d.p[i]? = some x := ⟨_, List.getElem?_eq_getElem (by rw [hn.out]; exact hi)⟩
      rw [rflat_get hx hj, fof_at hx]
    have hqs : w.heap.size ≤ w4.heap.size := hgrow.out.size
    have hD : Bx (RkIs (w4.alloc (.cells #[.slice (some ⟨gg, 0, none⟩) n vc, .bool d.off, .int .i64 d.trip] 56)) w4.heap.size gg vc d) := by
      refine ⟨⟨H.out.ok, by rw [hn.out]; exact hpos, by rw [hn.out]; exact ⟨hl1, hl2⟩, by rw [hn.out]; exact blk_new _ _ _ rfl, by rw [hn.out]; exact hrc.chg (.ofBelow ((Below.refl _ _).alloc (Nat.le_refl _) _) (fun _ => False)) (fun e => e), fun e => ?_⟩⟩
      have := hrc.lt
      omega
    have hl3 := Bx.mk hl3
    have hqs := Bx.mk hqs
    replace hbel := Bx.mk hbel
    clear hrc ho hown hgrow hat hst hfc hone k0 k1 k2
    go_wp2_with fail
    go_ret
    exact ⟨_, gg, vc, rfl, hD.out, hqs.out, hl3.out, hbel.out⟩
end Go.Proofs.Ytaajkhdmeghnbaa
