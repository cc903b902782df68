/- Library functions that are not walked: what they compute. -/
import Derived.Test.YteeilbddjlpiaaaG11
import Derived.Lib.BitFns
namespace Go.E
open Go
def bits_Len (x : Int) : Option Int := if 0 ≤ x ∧ x ≤ 18446744073709551615 then some (Go.Lib.bitLen x.toNat : Int) else none
theorem bits_Len_some {x r : Int} (h : bits_Len x = some r) : 0 ≤ x ∧ x ≤ 18446744073709551615 ∧ r = (Go.Lib.bitLen x.toNat : Int) := by
  unfold bits_Len at h
  split at h
  · rename_i h1; cases h; exact ⟨h1.1, h1.2, rfl⟩
  · cases h
end Go.E
