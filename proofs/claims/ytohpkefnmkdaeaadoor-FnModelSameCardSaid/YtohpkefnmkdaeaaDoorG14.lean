/- Strings: bytes, pieces, bytes as text. -/
import Derived.Test.YtohpkefnmkdaeaaDoorG12
import Derived.Laws.Strings3
import Derived.Laws.BytesString
import Derived.Laws.Cells
namespace Go.E
open Go Go.RowKit
set_option linter.unusedVariables false
def bs (l : List UInt8) : ByteArray := ⟨l.toArray⟩
def cat (s t : ByteArray) : Option ByteArray := if s.size + t.size ≤ 9223372036854775807 then some (s ++ t) else none
theorem cat_some {s t r : ByteArray} (h : cat s t = some r) : s.size + t.size ≤ 9223372036854775807 ∧ r = s ++ t := by
  unfold cat at h
  split at h
  · rename_i k; cases h; exact ⟨k, rfl⟩
  · cases h
section
variable {P : Program} {N : Nat} {Q : Post} {f : Fr} {w : World} {H : FH} {As Bs : List Ass} {ops : Array Oper} {rest : List Oper} {d : Nat} {ty : TypeId} {pos : String} {af : Array Edge} {gd : Option (Nat × Bool)} {x y : Operand} {v : Value}
end
end Go.E
