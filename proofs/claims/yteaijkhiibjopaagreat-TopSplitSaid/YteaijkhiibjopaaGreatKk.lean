/- The kernel evaluates a piece of TopSplit: known answers true and leaves nothing; no condition. -/
import Derived.Test.YteaijkhiibjopaaGreatS
import Derived.KernelRfl
set_option linter.all false
set_option maxRecDepth 100000
namespace Go.Vm
open Go Go.Proofs
theorem chDk : (ths (dn X0 0 sA) fun F S => cutR fxq 0 0 17 3 lA (dn X1 F S)) = true := by kernel_rfl
end Go.Vm
