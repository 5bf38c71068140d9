/-
  ParseNames: closed calls, by computation.
-/
import Derived.Test.YtjoidjpmpbidhaaDoorPnCfg
import Derived.KernelRfl
set_option linter.all false
set_option maxRecDepth 100000
namespace Go.Lt
open Go
theorem pnR4 (M : Int) : runs (cfgP M) 200 pnMemo4 = true := by kernel_rfl
end Go.Lt
