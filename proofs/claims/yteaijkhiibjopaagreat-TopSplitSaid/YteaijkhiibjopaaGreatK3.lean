/- The kernel evaluates a piece of TopSplit: 3 operations, the fall of two, two rounds; no condition. -/
import Derived.Test.YteaijkhiibjopaaGreatS
import Derived.KernelRfl
set_option linter.all false
set_option maxRecDepth 100000
namespace Go.Vm
open Go Go.Proofs
theorem chD3 : (ths (dn X5 48779683671136365264801451643977793890688717216836222974919987234456203553113546736930861623547525563318605451999838306 sB) fun F S => ths (dn X6 F S) fun F S => ths (dn X7 F S) fun F S => ths (dn X8 F S) fun F S => ths (dn X9 F S) fun F S => cutR fxq 0 5064309085560636692691700482327323370631483643045901522942903694868195435601680678705234356927547055205936941420580480832081298463701656165294910268444771295696644950163441620155308958845730029666 17 23161 lC3 (dn X10 F S)) = true := by kernel_rfl
end Go.Vm
