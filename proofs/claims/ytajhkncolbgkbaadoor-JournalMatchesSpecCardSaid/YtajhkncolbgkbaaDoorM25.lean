/- Jm2: joined by program, for one claim. -/
import Derived.Test.YtajhkncolbgkbaaDoorM24
set_option linter.unusedVariables false
set_option linter.unusedSimpArgs false
section
namespace Go.Proofs.YtajhkncolbgkbaaDoor
open Go.RowKit
theorem jm_true (w:World) (n:Int) (hn : -9223372036854775808≤n∧n≤9223372036854775807) (a:Option Addr) (c:Nat) (sts:List StB) (_hl:sts.length≤9223372036854775807) (hst:StsB w a sts) (k:Int) (hk : -9223372036854775808≤k∧k≤9223372036854775807) :
 Calls Tryd.prog 3 #[.int .i64 n,.slice a sts.length c,.int .i64 k] w fun e w'=>e = .returned (.bool true)∧Below w.heap.size w w':=by
 by_cases h:n<20∨120<n∨16<sts.length
 · exact jm_off w n k hn a c sts.length h
 · obtain ⟨N,rfl⟩:=Int.eq_ofNat_of_zero_le (by omega:0≤n)
   exact jm_on w N (by omega) a c sts (by omega) hst k hk
end Go.Proofs.YtajhkncolbgkbaaDoor
end
