/- Library functions that are not walked: what they compute. -/
import Derived.Test.YtohpkefnmkdaeaaGreatDoorG11
import Derived.Lib.BitFns
namespace Go.E
open Go
end Go.E
