/- Cells of blocks, whatever is drawn: joined by program. -/
import Derived.Test.YtajhkncolbgkbaaDoorM1
import Derived.Lib.QuietBelow
set_option linter.unusedVariables false
set_option linter.unusedSimpArgs false
section
namespace Go.Proofs.YtajhkncolbgkbaaDoor
open Go.RowKit Go.Sort
theorem Bk.r2 {w:World} {g:Nat} {x0 x1:Value} {r:List Value} {t:TypeId} (h:Bk w g (x0::x1::r).toArray t):(∀ dk osk,(grow (redrawn w dk) osk).cell? ⟨g,0,none⟩=some x0)∧(∀ dk osk,(grow (redrawn w dk) osk).cell? ⟨g,1,none⟩=some x1) :=
 ⟨cell_regrown (h.cell 0 rfl),cell_regrown (h.cell 1 rfl)⟩
theorem Bk.r3 {w:World} {g:Nat} {x0 x1 x2:Value} {r:List Value} {t:TypeId} (h:Bk w g (x0::x1::x2::r).toArray t):(∀ dk osk,(grow (redrawn w dk) osk).cell? ⟨g,0,none⟩=some x0)∧(∀ dk osk,(grow (redrawn w dk) osk).cell? ⟨g,1,none⟩=some x1)∧(∀ dk osk,(grow (redrawn w dk) osk).cell? ⟨g,2,none⟩=some x2) :=
 ⟨cell_regrown (h.cell 0 rfl),cell_regrown (h.cell 1 rfl),cell_regrown (h.cell 2 rfl)⟩
theorem Bk.r4 {w:World} {g:Nat} {x0 x1 x2 x3:Value} {r:List Value} {t:TypeId} (h:Bk w g (x0::x1::x2::x3::r).toArray t):(∀ dk osk,(grow (redrawn w dk) osk).cell? ⟨g,0,none⟩=some x0)∧(∀ dk osk,(grow (redrawn w dk) osk).cell? ⟨g,1,none⟩=some x1)∧(∀ dk osk,(grow (redrawn w dk) osk).cell? ⟨g,2,none⟩=some x2)∧(∀ dk osk,(grow (redrawn w dk) osk).cell? ⟨g,3,none⟩=some x3) :=
 ⟨cell_regrown (h.cell 0 rfl),cell_regrown (h.cell 1 rfl),cell_regrown (h.cell 2 rfl),cell_regrown (h.cell 3 rfl)⟩
theorem Bk.r5 {w:World} {g:Nat} {x0 x1 x2 x3 x4:Value} {r:List Value} {t:TypeId} (h:Bk w g (x0::x1::x2::x3::x4::r).toArray t):(∀ dk osk,(grow (redrawn w dk) osk).cell? ⟨g,0,none⟩=some x0)∧(∀ dk osk,(grow (redrawn w dk) osk).cell? ⟨g,1,none⟩=some x1)∧(∀ dk osk,(grow (redrawn w dk) osk).cell? ⟨g,2,none⟩=some x2)∧(∀ dk osk,(grow (redrawn w dk) osk).cell? ⟨g,3,none⟩=some x3)∧(∀ dk osk,(grow (redrawn w dk) osk).cell? ⟨g,4,none⟩=some x4) :=
 ⟨cell_regrown (h.cell 0 rfl),cell_regrown (h.cell 1 rfl),cell_regrown (h.cell 2 rfl),cell_regrown (h.cell 3 rfl),cell_regrown (h.cell 4 rfl)⟩
theorem Bk.r6 {w:World} {g:Nat} {x0 x1 x2 x3 x4 x5:Value} {r:List Value} {t:TypeId} (h:Bk w g (x0::x1::x2::x3::x4::x5::r).toArray t):(∀ dk osk,(grow (redrawn w dk) osk).cell? ⟨g,0,none⟩=some x0)∧(∀ dk osk,(grow (redrawn w dk) osk).cell? ⟨g,1,none⟩=some x1)∧(∀ dk osk,(grow (redrawn w dk) osk).cell? ⟨g,2,none⟩=some x2)∧(∀ dk osk,(grow (redrawn w dk) osk).cell? ⟨g,3,none⟩=some x3)∧(∀ dk osk,(grow (redrawn w dk) osk).cell? ⟨g,4,none⟩=some x4)∧(∀ dk osk,(grow (redrawn w dk) osk).cell? ⟨g,5,none⟩=some x5) :=
 ⟨cell_regrown (h.cell 0 rfl),cell_regrown (h.cell 1 rfl),cell_regrown (h.cell 2 rfl),cell_regrown (h.cell 3 rfl),cell_regrown (h.cell 4 rfl),cell_regrown (h.cell 5 rfl)⟩
theorem Bk.r7 {w:World} {g:Nat} {x0 x1 x2 x3 x4 x5 x6:Value} {r:List Value} {t:TypeId} (h:Bk w g (x0::x1::x2::x3::x4::x5::x6::r).toArray t):(∀ dk osk,(grow (redrawn w dk) osk).cell? ⟨g,0,none⟩=some x0)∧(∀ dk osk,(grow (redrawn w dk) osk).cell? ⟨g,1,none⟩=some x1)∧(∀ dk osk,(grow (redrawn w dk) osk).cell? ⟨g,2,none⟩=some x2)∧(∀ dk osk,(grow (redrawn w dk) osk).cell? ⟨g,3,none⟩=some x3)∧(∀ dk osk,(grow (redrawn w dk) osk).cell? ⟨g,4,none⟩=some x4)∧(∀ dk osk,(grow (redrawn w dk) osk).cell? ⟨g,5,none⟩=some x5)∧(∀ dk osk,(grow (redrawn w dk) osk).cell? ⟨g,6,none⟩=some x6) :=
 ⟨cell_regrown (h.cell 0 rfl),cell_regrown (h.cell 1 rfl),cell_regrown (h.cell 2 rfl),cell_regrown (h.cell 3 rfl),cell_regrown (h.cell 4 rfl),cell_regrown (h.cell 5 rfl),cell_regrown (h.cell 6 rfl)⟩
theorem Bk.r8 {w:World} {g:Nat} {x0 x1 x2 x3 x4 x5 x6 x7:Value} {r:List Value} {t:TypeId} (h:Bk w g (x0::x1::x2::x3::x4::x5::x6::x7::r).toArray t):(∀ dk osk,(grow (redrawn w dk) osk).cell? ⟨g,0,none⟩=some x0)∧(∀ dk osk,(grow (redrawn w dk) osk).cell? ⟨g,1,none⟩=some x1)∧(∀ dk osk,(grow (redrawn w dk) osk).cell? ⟨g,2,none⟩=some x2)∧(∀ dk osk,(grow (redrawn w dk) osk).cell? ⟨g,3,none⟩=some x3)∧(∀ dk osk,(grow (redrawn w dk) osk).cell? ⟨g,4,none⟩=some x4)∧(∀ dk osk,(grow (redrawn w dk) osk).cell? ⟨g,5,none⟩=some x5)∧(∀ dk osk,(grow (redrawn w dk) osk).cell? ⟨g,6,none⟩=some x6)∧(∀ dk osk,(grow (redrawn w dk) osk).cell? ⟨g,7,none⟩=some x7) :=
 ⟨cell_regrown (h.cell 0 rfl),cell_regrown (h.cell 1 rfl),cell_regrown (h.cell 2 rfl),cell_regrown (h.cell 3 rfl),cell_regrown (h.cell 4 rfl),cell_regrown (h.cell 5 rfl),cell_regrown (h.cell 6 rfl),cell_regrown (h.cell 7 rfl)⟩
end Go.Proofs.YtajhkncolbgkbaaDoor
end
