/-
  ParseNames: strings.Contains at this claim's pairs, whatever the word's width of the machine's own search.
-/
import Derived.Test.YtjoidjpmpbidhaaDoorPnCfg
import Derived.KernelRfl
set_option linter.all false
set_option maxRecDepth 100000
namespace Go.Lt
theorem pnC0 : runs (cfgL (Int.ofNat 0)) 60 pnMemo0 = true := by kernel_rfl
theorem pnC1 : runs (cfgL (Int.ofNat 1)) 60 pnMemo0 = true := by kernel_rfl
theorem pnC2 (k : Nat) : runs (cfgL (Int.ofNat (k + 2))) 60 pnMemo0 = true := by kernel_rfl
theorem pnC3 : runs (cfgL (Int.negSucc 0)) 60 pnMemo0 = true := by kernel_rfl
theorem pnC4 (k : Nat) : runs (cfgL (Int.negSucc (k + 1))) 60 pnMemo0 = true := by kernel_rfl
theorem pnC : ∀ M : Int, runs (cfgL M) 60 pnMemo0 = true
  | .ofNat 0 => pnC0
  | .ofNat 1 => pnC1
  | .ofNat (k + 2) => pnC2 k
  | .negSucc 0 => pnC3
  | .negSucc (k + 1) => pnC4 k
end Go.Lt
