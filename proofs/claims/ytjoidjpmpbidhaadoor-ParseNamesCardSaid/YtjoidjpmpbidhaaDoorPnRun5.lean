/-
  ParseNames: closed calls, by computation.
  ParseNames: the law, by computation.
-/
import Derived.Test.YtjoidjpmpbidhaaDoorPnCfg
import Derived.KernelRfl
set_option linter.all false
set_option maxRecDepth 100000
namespace Go.Lt
open Go
theorem pnR5 (M : Int) : runs (cfgP M) 200 pnMemo5 = true := by kernel_rfl
end Go.Lt
set_option maxRecDepth 100000
namespace Go.Lt
open Go
theorem pn_run (M : Int) : isTrue (callK (cfgP2 M) 1000 (.fn F.law07_ParseNames) [] []) = true := by kernel_rfl
end Go.Lt
