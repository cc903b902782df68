/- What the world holds when the call begins. -/
import Derived.Test.YtohpkefnmkdaeaaDoorProg
import Derived.Lib.LaidTab
import Derived.Lib.ItoaNum
namespace Go.E
open Go
structure GlobW (w : World) : Prop where
  tab : Go.Lib.TabIs Go.Proofs.Tryd.prog w "internal/strconv.uint64pow10" .u64 Go.Lib.pow10Tab
end Go.E
