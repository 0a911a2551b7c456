/- The kernel evaluates a piece of TopSplit: begun and have answer true; no condition. -/
import Derived.Test.YteaijkhiibjopaaGreatS
import Derived.KernelRfl
set_option linter.all false
set_option maxRecDepth 100000
namespace Go.Vm
open Go Go.Proofs
theorem chDb : (ths (dn X2 0 sA) fun F S => cutR fxq 0 48779683671136365264801451643977793890688717216836222974919987234456203553113546736930861623547525563318605451999838208 17 17011 lB (dn X3 F S)) = true := by kernel_rfl
end Go.Vm
