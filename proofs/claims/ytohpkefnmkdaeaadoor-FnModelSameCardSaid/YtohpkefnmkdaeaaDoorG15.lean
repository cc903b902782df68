/- Library functions on strings that are not walked: what they compute; a builder. -/
import Derived.Test.YtohpkefnmkdaeaaDoorG14
import Derived.Lib.Split
import Derived.Lib.SplitLaws
import Derived.Lib.Strings
import Derived.Lib.AtoiAll
import Derived.Lib.ItoaNum
import Derived.Lib.IndexMore
import Derived.Lib.FrozenHead
import Derived.Lib.AtoiAllMem
import Derived.Lib.ConvBytes
import Derived.Sort.Grow
import Derived.Deep.Draws
namespace Go.E
open Go Go.RowKit
set_option linter.unusedVariables false
def strconv_Itoa (n : Int) : Option ByteArray := if -9223372036854775808 ≤ n ∧ n ≤ 9223372036854775807 then some (bs (Go.Lib.itoa n)) else none
theorem strconv_Itoa_some {n : Int} {r : ByteArray} (h : strconv_Itoa n = some r) : -9223372036854775808 ≤ n ∧ n ≤ 9223372036854775807 ∧ r = bs (Go.Lib.itoa n) := by
  unfold strconv_Itoa at h
  split at h
  · rename_i k; cases h; exact ⟨k.1, k.2, rfl⟩
  · cases h
section
variable {P : Program} {N : Nat} {Q : Post} {f : Fr} {w w' : World} {H : FH} {As Bs : List Ass} {ops : Array Oper} {rest : List Oper} {d : Nat} {ty : TypeId} {pos : String} {af : Array Edge} {gd : Option (Nat × Bool)} {x y : Operand} {v : Value}
theorem Star.ext (hst : Star H w As) (hb : Below w.heap.size w w') : Star H w' As := by
  obtain ⟨hs, F, h1, hn, hm⟩ := hst
  refine ⟨⟨hs.1.trans (hb.mono (Nat.zero_le _)), fun b o h => ?_⟩, F, SepL.loc h1 fun b hb' => hb.block b (SepL.lt h1 b hb'), hn, hm⟩
  have h2 := hs.2 b o h
  rw [hb.block b (Array.getElem?_eq_some_iff.1 h2).1, h2]
theorem grown_drew (w : World) (k : Nat) (os : Array Obj) : Below w.heap.size w (Go.Sort.grow (w.drewN k) os) :=
  ⟨rfl, rfl, rfl, by show _ ≤ (w.heap ++ os).size; rw [Array.size_append]; omega, fun i hi => by show (w.heap ++ os)[i]? = _; rw [Array.getElem?_append_left hi]⟩
variable {T e : TypeId} {B g : Nat} {s s' : ByteArray}
end
end Go.E
