/- Out: joined by program, for one claim. -/
import Derived.Test.YtfcbajmjaifjlaaGreatM6
import Derived.Test.YtfcbajmjaifjlaaGreatM8
set_option linter.unusedVariables false
set_option linter.unusedSimpArgs false
section
namespace Go.Proofs.YtfcbajmjaifjlaaGreat
open Go.RowKit Go.Sort Go.Maps
open Oct
abbrev ret2 (i e:Int):Ending:=.returned (.tuple #[i,e])
structure Grew (Far:Nat→Prop) (sb:Nat) (most:Int) (ts ts':List Tr) (t:Tr) (w:World) (e:Ending) (w':World):Prop where
 keeps:Keeps Far w w'
 size:w.heap.size≤w'.heap.size
 way:(Tr.Fits most ts ts'∧e=ret2 (idT ts' t:Int) 0∧StoreIs w' Far sb most ts') ∨
  (¬Tr.Fits most ts ts'∧e=ret2 0 14 ∧ ∃ us,Good us∧ts <+: us∧us <+: ts'∧StoreIs w' Far sb most us)
theorem Good.ins {ts:List Tr} (hG:Good ts) {t:Tr} (hl:Leans ts t) (hb:Bytes t):Good (Tr.ins t ts):=by
 by_cases h:t∈ts
 · rw [Tr.ins_of_mem h];exact hG
 · rw [Tr.ins_of_not h];exact hG.add h hl hb
theorem make_any (w:World) (Far:Nat→Prop) (sb:Nat) (most:Int) (ts:List Tr) (t:Tr) (k c d x0 x1 x2 x3 x4 x5 x6 x7:Int) (s:ByteArray) (hV:nodeV ts t=nodeA k c s d x0 x1 x2 x3 x4 x5 x6 x7) (hG:Good ts) (hle:Leans ts t) (hby:Bytes t) (hlen:ts.length≤1000000000000) (hFar : ∀ k,Far k→k<w.heap.size)
 (hk : ∃ kl,keyOf Tryz.prog 145 (nodeA k c s d x0 x1 x2 x3 x4 x5 x6 x7)=some kl) (hS:StoreIs w Far sb most ts) :
 Calls Tryz.prog 109 #[.pointer (some ⟨sb,0,none⟩),.agg #[k,c,.string s,d,x0,x1,x2,x3,x4,x5,x6,x7]] w (Grew Far sb most ts (Tr.ins t ts) t w):=by
 by_cases ht:t∈ts
 · refine (make_has Far sb most ts t k c d x0 x1 x2 x3 x4 x5 x6 x7 s hV hG ht hk w hS).mono ?_
   rintro e w' ⟨rfl,hb⟩
   rw [Tr.ins_of_mem ht]
   exact ⟨Keeps.below hb,hb.size,.inl ⟨.inl rfl,rfl,hS.later hb⟩⟩
 · by_cases hm:most≤(ts.length:Int)
   · refine (make_full Far sb most ts t k c d x0 x1 x2 x3 x4 x5 x6 x7 s hV hG ht hle hby hm hk w hS).mono ?_
     rintro e w' ⟨rfl,hb⟩
     rw [Tr.ins_of_not ht]
     refine ⟨Keeps.below hb,hb.size,.inr ⟨?_,rfl,ts,hG,List.prefix_refl _,List.prefix_append _ _,hS.later hb⟩⟩
     rintro (h | h)
     · simp at h
     · simp at h;omega
   · refine (make_new w Far sb most ts t k c d x0 x1 x2 x3 x4 x5 x6 x7 s hV hG ht hle hby (by omega) hlen hFar hk hS).mono ?_
     rintro e w' ⟨rfl,hs,hb⟩
     rw [Tr.ins_of_not ht]
     refine ⟨hb,hb.size,.inl ⟨.inr (by simp;omega),?_,hs⟩⟩
     rw [idT_new ht]
theorem make_uni (w:World) (Far:Nat→Prop) (sb:Nat) (most:Int) (ts:List Tr) (c:Int) (hc:0≤c∧c≤255) (hG:Good ts) (hlen:ts.length≤1000000000000) (hFar : ∀ k,Far k→k<w.heap.size) (hS:StoreIs w Far sb most ts) :
 Calls Tryz.prog 109 #[.pointer (some ⟨sb,0,none⟩),.agg #[(1:Int),c,.string ByteArray.empty,(0:Int),(0:Int),(0:Int),(0:Int),(0:Int),(0:Int),(0:Int),(0:Int),(0:Int)]] w (Grew Far sb most ts (Tr.add (.uni c) ts) (.uni c) w):=by
 rw [Tr.add_uni]
 exact make_any w Far sb most ts (.uni c) 1 c 0 0 0 0 0 0 0 0 0 _ rfl hG (fun d ch h=>by cases h) (Bytes.uni hc) hlen hFar (key_node _ _ _ _ _ _ _ _ _ _ _ _ (by simp [maxLen]) (by intro y hy;simp at hy;rcases hy with rfl | rfl | rfl <;> exact WalkArith.wf_i64 (by omega))) hS
theorem Good.uni {ts:List Tr} (hG:Good ts) {c:Int} (hc:0≤c∧c≤255):Good (Tr.add (.uni c) ts):=by
 rw [Tr.add_uni];exact hG.ins (fun d ch h=>by cases h) (Bytes.uni hc)
theorem uniform_any (w:World) (Far:Nat→Prop) (sb:Nat) (most:Int) (ts:List Tr) (c:Int) (hc:0≤c∧c≤255) (hG:Good ts) (hlen:ts.length≤1000000000000) (hFar : ∀ k,Far k→k<w.heap.size) (hS:StoreIs w Far sb most ts) :
 Calls Tryz.prog 48 #[.pointer (some ⟨sb,0,none⟩),c] w (Grew Far sb most ts (Tr.add (.uni c) ts) (.uni c) w):=by
 have h1:=Bx.mk (fun W=>isCell_any c W)
 rw [show decide (0≤c∧c≤255)=true by simpa using hc] at h1
 have h2:=Bx.mk (make_uni w Far sb most ts c hc hG hlen hFar hS)
 clear hc hG hlen hFar hS
 go_enter Tryz.func48,Tryz.ntmps48
 go_wp2_with fail
 refine (h1.out _).mono ?_
 rintro e w1 ⟨rfl,rfl⟩
 go_wp2_with fail
 refine h2.out.mono ?_
 rintro e w1 hg
 have Hg:=Bx.mk hg
 obtain ⟨-,-,(⟨hf,rfl,hs⟩ | ⟨hf,rfl,us,hs⟩)⟩:=hg
 all_goals
  clear hf hs
  unfold ret2 at Hg
  go_wp2_with fail
  go_ret2
  exact Hg.out
end Go.Proofs.YtfcbajmjaifjlaaGreat
end
