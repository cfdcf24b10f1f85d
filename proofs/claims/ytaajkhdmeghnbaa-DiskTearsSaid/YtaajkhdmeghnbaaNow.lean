/- What is read of a page. -/
import Derived.Test.YtaajkhdmeghnbaaDis
import Derived.Laws.CopyOwn
namespace Go.Proofs.Ytaajkhdmeghnbaa
open Go.RowKit

theorem okI {P : Program} {T : TypeId} {n : Nat} (h : ∀ cs : Array Value, cs.size = n → (P.info? T).map (·.size) = some cs.size) (xs : List Int) (k : IntKind) (hl : xs.length = n) : (P.info? T).map (·.size) = some ((xs.map (Value.int k)).toArray.size) := h _ (by rw [row_cells, hl])
/-- a fresh page -/
theorem page_new (w : World) (t : TypeId) (v : Array Value) : Bk (w.alloc (.cells v t)) w.heap.size v t := heap_alloc_new w _
set_option maxRecDepth 100000 in
theorem now_any (w : World) (p g mb cap m : Nat) (d : Dk) (h : DkIs w p g mb cap m d) (i : Nat) (x : Pg) (hx : d.p[i]? = some x) :
    Calls Try.prog 44 #[.pointer (some ⟨p, 0, none⟩), .int .i64 (i : Int)] w fun e w' => e = .returned (arrV .u8 x.now) ∧ Below w.heap.size w w' := by
  have H := Bx.mk h
  have hi := (List.getElem?_eq_some_iff.1 hx).1
  have hfew := h.ok.few
  have hcap := h.hcap.1
  have hok := h.ok.pages x (List.mem_of_getElem? hx)
  have hpI : pendI d.p (i : Int) = x.2 := by rw [pendI_nat, hx]; rfl
  have hwf := wf_nat (i := i) (by omega)
  have HX := Bx.mk hx
  have HI := Bx.mk pgInfo
  clear h hx
  go_enter Try.func44, Try.ntmps44
  go_upto_region 1 with fail
  generalize hW : World.alloc w _ = W
  have kr : Bx (Bk W w.heap.size Try.zeroCells72 72) := by rw [← hW]; exact ⟨blk_new _ _ _ rfl⟩
  have hb : Bx (Below w.heap.size w W) := by rw [← hW]; exact ⟨(Below.refl _ _).alloc (Nat.le_refl _) _⟩
  clear hW
  have HD := Bx.mk (H.out.later hb.out)
  have c0 := HD.out.kp.cell 0 rfl
  have c1 := HD.out.kp.cell 1 rfl
  obtain ⟨o, nw⟩ := x
  have hlk := HD.out.km.look hwf
  rw [hpI] at hlk
  have hZ : Bx (Try.zeroCells72.size = 128) := ⟨by kernel_rfl⟩
  cases nw with
  | some n =>
    replace hlk := hlk.1 n rfl
    obtain ⟨l3, -⟩ := hok.2.2 n rfl
    have s1 := Bx.mk (HI.out _ ((row_cells n .u8).trans l3))
    have s2 := Bx.mk (show Try.zeroCells72.size = (n.map (Value.int .u8)).toArray.size by rw [row_cells, hZ.out, l3])
    have s3 := Bx.mk (one_ints .u8 n)
    clear H hpI HX hok l3 HI hZ
    show Code.wp _ _ _ _ _
    unfold arrV at hlk
    have hN : Bx (arrV .u8 (Pg.now (o, some n)) = .agg (n.map (Value.int .u8)).toArray) := ⟨rfl⟩
    generalize (n.map (Value.int .u8)).toArray = N at *
    go_upto_region 2 with (refine wpList_store_whole rfl _ _ _ rfl W.heap.size rfl _ _ rfl _ (heap_alloc_new W (.cells Try.zeroCells72 72)) s1.out s2.out s3.out ?_)
    generalize hW : World.setRow (World.alloc W _) _ _ = W2
    have kl : Bx (Bk W2 W.heap.size N 72) := by rw [← hW]; exact ⟨setRow_heap _ _ _ _ _ (0, 0) (heap_alloc_new _ _)⟩
    have hb2 : Bx (Below W.heap.size W W2) := by rw [← hW]; exact ⟨below_setRow ((Below.refl _ _).alloc (Nat.le_refl _) _) (Nat.le_refl _) _⟩
    replace kr := Bx.mk (kr.out.later hb2.out)
    clear hW
    go_wp2_with (first
      | refine wpList_load_whole rfl _ _ rfl W.heap.size rfl _ _ kl.out _ Try.underlying72 rfl s1.out ?_
      | refine wpList_store_whole rfl _ _ _ rfl w.heap.size rfl _ _ rfl _ kr.out s1.out s2.out s3.out ?_)
    refine bodyPost_ret (v := .agg N) (results_cell_row rfl _ _ w.heap.size 72 N (0, 0) _ rfl (setRow_heap W2 w.heap.size _ N _ (0, 0) kr.out) Try.underlying72 rfl s1.out) rfl ⟨by rw [hN.out], below_setRow (hb.out.trans (hb2.out.mono hb.out.size)) (Nat.le_refl _) _⟩
  | none =>
    replace hlk := hlk.2 rfl
    have l3 := hok.1
    have s0 := Bx.mk (HI.out _ ((row_cells zer .u8).trans zer_len))
    have s9 := Bx.mk (show Try.zeroCells72.size = (zer.map (Value.int .u8)).toArray.size by rw [row_cells, hZ.out, zer_len])
    have s8 := Bx.mk (one_ints .u8 zer)
    have s1 := Bx.mk (HI.out _ ((row_cells o .u8).trans l3))
    have s2 := Bx.mk (show Try.zeroCells72.size = (o.map (Value.int .u8)).toArray.size by rw [row_cells, hZ.out, l3])
    have s3 := Bx.mk (one_ints .u8 o)
    have hr := Bx.mk (HD.out.pg.at_ i _ HX.out)
    have hgl := Bx.mk (HD.out.lt.2.1)
    have hi2 : (i : Int) < (d.p.length : Int) := by omega
    clear H hpI HX hok l3 HI hZ
    unfold arrV at hlk
    have hN : Bx (arrV .u8 (Pg.now (o, none)) = .agg (o.map (Value.int .u8)).toArray) := ⟨rfl⟩
    generalize (zer.map (Value.int .u8)).toArray = Z at *
    go_upto_region 2 with (refine wpList_store_whole rfl _ _ _ rfl W.heap.size rfl _ _ rfl _ (heap_alloc_new W (.cells Try.zeroCells72 72)) s0.out s9.out s8.out ?_)
    generalize hW : World.setRow (World.alloc W _) _ _ = W2
    have hb2 : Bx (Below W.heap.size W W2) := by rw [← hW]; exact ⟨below_setRow ((Below.refl _ _).alloc (Nat.le_refl _) _) (Nat.le_refl _) _⟩
    replace kr := Bx.mk (kr.out.later hb2.out)
    have hr2 : Bx (W2.rangeAt g (i * 128) (o.map (Value.int .u8))) := ⟨fun j v hv => cell_later hb2.out (hr.out j v hv)⟩
    have hb2c : Bx (DkIs W2 p g mb cap m d) := ⟨HD.out.later hb2.out⟩
    clear hW c0 c1
    have c0 := hb2c.out.kp.cell 0 rfl
    go_wp2_with (first
      | refine wpList_load_mid rfl _ _ rfl g (i * 128) rfl (o.map (Value.int .u8)) _ hr2.out Try.underlying72 rfl (by have := s1.out; rwa [List.size_toArray] at this) ?_
      | refine wpList_store_whole rfl _ _ _ rfl w.heap.size rfl _ _ rfl _ kr.out s1.out s2.out s3.out ?_)
    trace_state
    refine bodyPost_ret (v := .agg (o.map (Value.int .u8)).toArray) (results_cell_row rfl _ _ w.heap.size 72 _ (0, 0) _ rfl (setRow_heap W2 w.heap.size _ _ _ (0, 0) kr.out) Try.underlying72 rfl s1.out) rfl ⟨by rw [hN.out], below_setRow (hb.out.trans (hb2.out.mono hb.out.size)) (Nat.le_refl _) _⟩
end Go.Proofs.Ytaajkhdmeghnbaa
