/- The law of joined words and lines: every gap. -/
import Derived.Test.YtfpidpdhheickaaNumJoinA
import Derived.Test.YtfpidpdhheickaaNumJoinB
import Derived.Test.YtfpidpdhheickaaNumJoinC
import Derived.Test.YtfpidpdhheickaaNumJoinD
set_option linter.unusedVariables false
namespace Go.Proofs.Ytfpidpdhheickaa.My
open Go.RowKit
theorem njoined_any (A : Option Addr) (ss : List ByteArray) (c : Nat) (b : Int) (w : World) (hA : RdX w A ss) (hs : ∀ x ∈ ss, x.size ≤ maxLen) (b0 : 0 ≤ b) : Calls Try.prog 8 #[.slice A ss.length c, .int .u8 b] w fun e w' => e = .returned (.bool true) ∧ Below w.heap.size w w' := by
  by_cases h : 40 < ss.length
  · exact joined_long A _ c b w h
  · have hm : b.tmod 4 = b % 4 := Int.tmod_eq_emod_of_nonneg b0
    rcases (show b % 4 = 0 ∨ b % 4 = 1 ∨ b % 4 = 2 ∨ b % 4 = 3 by omega) with q | q | q | q
    · exact joined_0 A ss c b w hA (by omega) hs (by omega)
    · exact joined_1 A ss c b w hA (by omega) hs (by omega)
    · exact joined_2 A ss c b w hA (by omega) hs (by omega)
    · exact joined_3 A ss c b w hA (by omega) hs (by omega)
end Go.Proofs.Ytfpidpdhheickaa.My
