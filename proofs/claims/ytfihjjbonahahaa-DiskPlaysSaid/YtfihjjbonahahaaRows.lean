/-
  No cell of these rows narrows 'for every input' (looked for: loops, veiled, ifaces, maps, wideKeys, modest, calm, conditions, laid).
  DERIVED. THE GIVEN ROWS OF THIS SEAT. 12 by the template 'for every input the law returns true; each argument reads behind the call as it read before'; 0 by the template 'total and deterministic' (their statements: YtfihjjbonahahaaTotals.lean).
  GIVEN WITH THE SEED: the statements are not yours to turn. If you find one false, say at which input.
  Laid BY PROGRAM, IN A SANDBOX (cutbox-rows.mjs): the forced cells as the released guide's own fill.sh prints them over the translation f577a5a258d3f59d… (all of the seat's roots in one cut). By AI agents, Wed Nov 11 2026. No macro, syntax, notation, axiom, sorry.
-/
import Derived.Test.YtfihjjbonahahaaChecked
import GoSem.Claim
import GoSem.ClaimJoined
import GoSem.ClaimMapViews
import Derived.JoinedTies
import Derived.KernelRfl
namespace Go.Proofs.Ytfihjjbonahahaa
/- THE CELL 'sum', in the pinned program and in every row, IS THE sha256 OF THE DUMP (.gsa) THAT YtfihjjbonahahaaProg.lean LOADS. Nothing in Lean hashes anything: it is a label: what it is worth is what the hold of that sum in a sandbox is worth. -/
noncomputable def Try.pinned : Pinned := { name := "ytfihjjbonahahaa", sum := "f577a5a258d3f59d95974df7d807ce08f6f50712d2b59d36a2b0dbef5bea59eb", checked := Try.checked }
namespace Rows
def none {H : Type} : Left H := { results := [], args := [] }

/-- 'escrowlaw2.FramesScan': WHATEVER THE INPUT: true; the input reads as it did. -/
def framesScanSpec : ChangeSpec := { name := "framesScan", fn := fun _ => fun
  | [d1, d2, d3, d4, d5] => { results := [.lit (.bool true)], args := [d1, d2, d3, d4, d5] }
  | _ => none }
def framesScanRow : OpenClaim := { program := "ytfihjjbonahahaa", sum := "f577a5a258d3f59d95974df7d807ce08f6f50712d2b59d36a2b0dbef5bea59eb", func := "escrow/escrowlaw2.FramesScan", spec := "framesScan", apart := false }
def FramesScanSaid : Prop := framesScanRow.holds Try.pinned (OpenSpec.ofChange framesScanSpec)

/-- ITS FALSE NEIGHBOUR: 'it returns false'. Refute it at one input. -/
def framesScanWrong : ChangeSpec := { name := "framesScan", fn := fun _ => fun
  | [d1, d2, d3, d4, d5] => { results := [.lit (.bool false)], args := [d1, d2, d3, d4, d5] }
  | _ => none }
def FramesScanWrongFalsely : Prop := framesScanRow.holds Try.pinned (OpenSpec.ofChange framesScanWrong)

/-- 'escrowlaw3.DiskStays': WHATEVER THE INPUT: true; the input reads as it did. -/
def diskStaysSpec : ChangeSpec := { name := "diskStays", fn := fun _ => fun
  | [d1, d2, d3] => { results := [.lit (.bool true)], args := [d1, d2, d3] }
  | _ => none }
def diskStaysRow : OpenClaim := { program := "ytfihjjbonahahaa", sum := "f577a5a258d3f59d95974df7d807ce08f6f50712d2b59d36a2b0dbef5bea59eb", func := "escrow/escrowlaw3.DiskStays", spec := "diskStays", apart := false }
def DiskStaysSaid : Prop := diskStaysRow.holds Try.pinned (OpenSpec.ofChange diskStaysSpec)

/-- ITS FALSE NEIGHBOUR: 'it returns false'. Refute it at one input. -/
def diskStaysWrong : ChangeSpec := { name := "diskStays", fn := fun _ => fun
  | [d1, d2, d3] => { results := [.lit (.bool false)], args := [d1, d2, d3] }
  | _ => none }
def DiskStaysWrongFalsely : Prop := diskStaysRow.holds Try.pinned (OpenSpec.ofChange diskStaysWrong)

/-- 'escrowlaw2.FramesTurned': WHATEVER THE INPUT: true; the input reads as it did. -/
def framesTurnedSpec : ChangeSpec := { name := "framesTurned", fn := fun _ => fun
  | [d1, d2, d3] => { results := [.lit (.bool true)], args := [d1, d2, d3] }
  | _ => none }
def framesTurnedRow : OpenClaim := { program := "ytfihjjbonahahaa", sum := "f577a5a258d3f59d95974df7d807ce08f6f50712d2b59d36a2b0dbef5bea59eb", func := "escrow/escrowlaw2.FramesTurned", spec := "framesTurned", apart := false }
def FramesTurnedSaid : Prop := framesTurnedRow.holds Try.pinned (OpenSpec.ofChange framesTurnedSpec)

/-- ITS FALSE NEIGHBOUR: 'it returns false'. Refute it at one input. -/
def framesTurnedWrong : ChangeSpec := { name := "framesTurned", fn := fun _ => fun
  | [d1, d2, d3] => { results := [.lit (.bool false)], args := [d1, d2, d3] }
  | _ => none }
def FramesTurnedWrongFalsely : Prop := framesTurnedRow.holds Try.pinned (OpenSpec.ofChange framesTurnedWrong)

/-- 'escrowlaw3.DiskCuts': WHATEVER THE INPUT: true; the input reads as it did. -/
def diskCutsSpec : ChangeSpec := { name := "diskCuts", fn := fun _ => fun
  | [d1, d2, d3, d4] => { results := [.lit (.bool true)], args := [d1, d2, d3, d4] }
  | _ => none }
def diskCutsRow : OpenClaim := { program := "ytfihjjbonahahaa", sum := "f577a5a258d3f59d95974df7d807ce08f6f50712d2b59d36a2b0dbef5bea59eb", func := "escrow/escrowlaw3.DiskCuts", spec := "diskCuts", apart := false }
def DiskCutsSaid : Prop := diskCutsRow.holds Try.pinned (OpenSpec.ofChange diskCutsSpec)

/-- ITS FALSE NEIGHBOUR: 'it returns false'. Refute it at one input. -/
def diskCutsWrong : ChangeSpec := { name := "diskCuts", fn := fun _ => fun
  | [d1, d2, d3, d4] => { results := [.lit (.bool false)], args := [d1, d2, d3, d4] }
  | _ => none }
def DiskCutsWrongFalsely : Prop := diskCutsRow.holds Try.pinned (OpenSpec.ofChange diskCutsWrong)

/-- 'escrowlaw2.FramesWrite': WHATEVER THE INPUT: true; the input reads as it did. -/
def framesWriteSpec : ChangeSpec := { name := "framesWrite", fn := fun _ => fun
  | [d1, d2, d3, d4] => { results := [.lit (.bool true)], args := [d1, d2, d3, d4] }
  | _ => none }
def framesWriteRow : OpenClaim := { program := "ytfihjjbonahahaa", sum := "f577a5a258d3f59d95974df7d807ce08f6f50712d2b59d36a2b0dbef5bea59eb", func := "escrow/escrowlaw2.FramesWrite", spec := "framesWrite", apart := false }
def FramesWriteSaid : Prop := framesWriteRow.holds Try.pinned (OpenSpec.ofChange framesWriteSpec)

/-- ITS FALSE NEIGHBOUR: 'it returns false'. Refute it at one input. -/
def framesWriteWrong : ChangeSpec := { name := "framesWrite", fn := fun _ => fun
  | [d1, d2, d3, d4] => { results := [.lit (.bool false)], args := [d1, d2, d3, d4] }
  | _ => none }
def FramesWriteWrongFalsely : Prop := framesWriteRow.holds Try.pinned (OpenSpec.ofChange framesWriteWrong)

/-- 'escrowlaw2.FramesTorn': WHATEVER THE INPUT: true; the input reads as it did. -/
def framesTornSpec : ChangeSpec := { name := "framesTorn", fn := fun _ => fun
  | [d1, d2, d3] => { results := [.lit (.bool true)], args := [d1, d2, d3] }
  | _ => none }
def framesTornRow : OpenClaim := { program := "ytfihjjbonahahaa", sum := "f577a5a258d3f59d95974df7d807ce08f6f50712d2b59d36a2b0dbef5bea59eb", func := "escrow/escrowlaw2.FramesTorn", spec := "framesTorn", apart := false }
def FramesTornSaid : Prop := framesTornRow.holds Try.pinned (OpenSpec.ofChange framesTornSpec)

/-- ITS FALSE NEIGHBOUR: 'it returns false'. Refute it at one input. -/
def framesTornWrong : ChangeSpec := { name := "framesTorn", fn := fun _ => fun
  | [d1, d2, d3] => { results := [.lit (.bool false)], args := [d1, d2, d3] }
  | _ => none }
def FramesTornWrongFalsely : Prop := framesTornRow.holds Try.pinned (OpenSpec.ofChange framesTornWrong)

/-- 'escrowlaw3.DiskRoom': WHATEVER THE INPUT: true; the input reads as it did. -/
def diskRoomSpec : ChangeSpec := { name := "diskRoom", fn := fun _ => fun
  | [d1, d2] => { results := [.lit (.bool true)], args := [d1, d2] }
  | _ => none }
def diskRoomRow : OpenClaim := { program := "ytfihjjbonahahaa", sum := "f577a5a258d3f59d95974df7d807ce08f6f50712d2b59d36a2b0dbef5bea59eb", func := "escrow/escrowlaw3.DiskRoom", spec := "diskRoom", apart := false }
def DiskRoomSaid : Prop := diskRoomRow.holds Try.pinned (OpenSpec.ofChange diskRoomSpec)

/-- ITS FALSE NEIGHBOUR: 'it returns false'. Refute it at one input. -/
def diskRoomWrong : ChangeSpec := { name := "diskRoom", fn := fun _ => fun
  | [d1, d2] => { results := [.lit (.bool false)], args := [d1, d2] }
  | _ => none }
def DiskRoomWrongFalsely : Prop := diskRoomRow.holds Try.pinned (OpenSpec.ofChange diskRoomWrong)

/-- 'escrowlaw3.DiskTurns': WHATEVER THE INPUT: true; the input reads as it did. -/
def diskTurnsSpec : ChangeSpec := { name := "diskTurns", fn := fun _ => fun
  | [d1, d2, d3, d4, d5] => { results := [.lit (.bool true)], args := [d1, d2, d3, d4, d5] }
  | _ => none }
def diskTurnsRow : OpenClaim := { program := "ytfihjjbonahahaa", sum := "f577a5a258d3f59d95974df7d807ce08f6f50712d2b59d36a2b0dbef5bea59eb", func := "escrow/escrowlaw3.DiskTurns", spec := "diskTurns", apart := false }
def DiskTurnsSaid : Prop := diskTurnsRow.holds Try.pinned (OpenSpec.ofChange diskTurnsSpec)

/-- ITS FALSE NEIGHBOUR: 'it returns false'. Refute it at one input. -/
def diskTurnsWrong : ChangeSpec := { name := "diskTurns", fn := fun _ => fun
  | [d1, d2, d3, d4, d5] => { results := [.lit (.bool false)], args := [d1, d2, d3, d4, d5] }
  | _ => none }
def DiskTurnsWrongFalsely : Prop := diskTurnsRow.holds Try.pinned (OpenSpec.ofChange diskTurnsWrong)

/-- 'escrowlaw3.DiskStops': WHATEVER THE INPUT: true; the input reads as it did. -/
def diskStopsSpec : ChangeSpec := { name := "diskStops", fn := fun _ => fun
  | [d1, d2] => { results := [.lit (.bool true)], args := [d1, d2] }
  | _ => none }
def diskStopsRow : OpenClaim := { program := "ytfihjjbonahahaa", sum := "f577a5a258d3f59d95974df7d807ce08f6f50712d2b59d36a2b0dbef5bea59eb", func := "escrow/escrowlaw3.DiskStops", spec := "diskStops", apart := false }
def DiskStopsSaid : Prop := diskStopsRow.holds Try.pinned (OpenSpec.ofChange diskStopsSpec)

/-- ITS FALSE NEIGHBOUR: 'it returns false'. Refute it at one input. -/
def diskStopsWrong : ChangeSpec := { name := "diskStops", fn := fun _ => fun
  | [d1, d2] => { results := [.lit (.bool false)], args := [d1, d2] }
  | _ => none }
def DiskStopsWrongFalsely : Prop := diskStopsRow.holds Try.pinned (OpenSpec.ofChange diskStopsWrong)

/-- 'escrowlaw3.DiskPlays': WHATEVER THE INPUT: true; the input reads as it did. -/
def diskPlaysSpec : ChangeSpec := { name := "diskPlays", fn := fun _ => fun
  | [d1, d2] => { results := [.lit (.bool true)], args := [d1, d2] }
  | _ => none }
def diskPlaysRow : OpenClaim := { program := "ytfihjjbonahahaa", sum := "f577a5a258d3f59d95974df7d807ce08f6f50712d2b59d36a2b0dbef5bea59eb", func := "escrow/escrowlaw3.DiskPlays", spec := "diskPlays", apart := false }
def DiskPlaysSaid : Prop := diskPlaysRow.holds Try.pinned (OpenSpec.ofChange diskPlaysSpec)

/-- ITS FALSE NEIGHBOUR: 'it returns false'. Refute it at one input. -/
def diskPlaysWrong : ChangeSpec := { name := "diskPlays", fn := fun _ => fun
  | [d1, d2] => { results := [.lit (.bool false)], args := [d1, d2] }
  | _ => none }
def DiskPlaysWrongFalsely : Prop := diskPlaysRow.holds Try.pinned (OpenSpec.ofChange diskPlaysWrong)

/-- 'escrowlaw2.FramesBack': WHATEVER THE INPUT: true; the input reads as it did. -/
def framesBackSpec : ChangeSpec := { name := "framesBack", fn := fun _ => fun
  | [d1, d2] => { results := [.lit (.bool true)], args := [d1, d2] }
  | _ => none }
def framesBackRow : OpenClaim := { program := "ytfihjjbonahahaa", sum := "f577a5a258d3f59d95974df7d807ce08f6f50712d2b59d36a2b0dbef5bea59eb", func := "escrow/escrowlaw2.FramesBack", spec := "framesBack", apart := false }
def FramesBackSaid : Prop := framesBackRow.holds Try.pinned (OpenSpec.ofChange framesBackSpec)

/-- ITS FALSE NEIGHBOUR: 'it returns false'. Refute it at one input. -/
def framesBackWrong : ChangeSpec := { name := "framesBack", fn := fun _ => fun
  | [d1, d2] => { results := [.lit (.bool false)], args := [d1, d2] }
  | _ => none }
def FramesBackWrongFalsely : Prop := framesBackRow.holds Try.pinned (OpenSpec.ofChange framesBackWrong)

/-- 'escrowlaw2.FramesOnes': WHATEVER THE INPUT: true; the input reads as it did. -/
def framesOnesSpec : ChangeSpec := { name := "framesOnes", fn := fun _ => fun
  | [d1, d2, d3] => { results := [.lit (.bool true)], args := [d1, d2, d3] }
  | _ => none }
def framesOnesRow : OpenClaim := { program := "ytfihjjbonahahaa", sum := "f577a5a258d3f59d95974df7d807ce08f6f50712d2b59d36a2b0dbef5bea59eb", func := "escrow/escrowlaw2.FramesOnes", spec := "framesOnes", apart := false }
def FramesOnesSaid : Prop := framesOnesRow.holds Try.pinned (OpenSpec.ofChange framesOnesSpec)

/-- ITS FALSE NEIGHBOUR: 'it returns false'. Refute it at one input. -/
def framesOnesWrong : ChangeSpec := { name := "framesOnes", fn := fun _ => fun
  | [d1, d2, d3] => { results := [.lit (.bool false)], args := [d1, d2, d3] }
  | _ => none }
def FramesOnesWrongFalsely : Prop := framesOnesRow.holds Try.pinned (OpenSpec.ofChange framesOnesWrong)

/- THE SECOND FORM. 'bulk': how many values and letters a reading holds, each counted each time it is reached (what is shared counts as often as it is met; a slice's spare places count too). A statement '..UptoSaid' is the law's where the arguments, and the package variables that the reading takes, are together of bulk at most 1048576: NARROWER than '..Said'. Prove '..Said' where nothing that the law and all that it calls make is longer than what came in: it says more and counts as full. Else prove '..UptoSaid'. A law counts once. -/
mutual
def uptoBulk {H : Type} : DataW H → Nat
  | .lit (.string bytes) => bytes.length + 1
  | .lit _ => 1
  | .nil => 1
  | .ptr d => uptoBulk d + 1
  | .slice elems spare => uptoBulkAll elems + uptoBulkAll spare + 1
  | .agg parts => uptoBulkAll parts + 1
  | .iface _ d => uptoBulk d + 1
  | .map entries => uptoBulkEntries entries + 1
  | .held _ => 1
def uptoBulkAll {H : Type} : List (DataW H) → Nat
  | [] => 0
  | d :: r => uptoBulk d + uptoBulkAll r
def uptoBulkEntries {H : Type} : List (Lit × DataW H) → Nat
  | [] => 0
  | x :: r => uptoBulkEntry x + uptoBulkEntries r
def uptoBulkEntry {H : Type} : Lit × DataW H → Nat
  | (.string bytes, d) => bytes.length + uptoBulk d + 1
  | (_, d) => uptoBulk d + 1
 end
def uptoSmall : (H : Type) → List (DataW H) → Bool := fun _ ds => decide (uptoBulkAll ds ≤ 1048576)
def OpenSpec.upto (s : _root_.Go.ChangeSpec) : _root_.Go.OpenSpec := { _root_.Go.OpenSpec.ofChange s with cond := some uptoSmall }

/-- 'escrowlaw2.FramesScan', WHERE WHAT IT READS IS OF BULK AT MOST 1048576: true; the input reads as it did. -/
def framesScanUptoRow : OpenClaim := { program := "ytfihjjbonahahaa", sum := "f577a5a258d3f59d95974df7d807ce08f6f50712d2b59d36a2b0dbef5bea59eb", func := "escrow/escrowlaw2.FramesScan", spec := "framesScan", apart := false, narrowed := true }
def FramesScanUptoSaid : Prop := framesScanUptoRow.holds Try.pinned (OpenSpec.upto framesScanSpec)

/-- 'escrowlaw3.DiskStays', WHERE WHAT IT READS IS OF BULK AT MOST 1048576: true; the input reads as it did. -/
def diskStaysUptoRow : OpenClaim := { program := "ytfihjjbonahahaa", sum := "f577a5a258d3f59d95974df7d807ce08f6f50712d2b59d36a2b0dbef5bea59eb", func := "escrow/escrowlaw3.DiskStays", spec := "diskStays", apart := false, narrowed := true }
def DiskStaysUptoSaid : Prop := diskStaysUptoRow.holds Try.pinned (OpenSpec.upto diskStaysSpec)

/-- 'escrowlaw2.FramesTurned', WHERE WHAT IT READS IS OF BULK AT MOST 1048576: true; the input reads as it did. -/
def framesTurnedUptoRow : OpenClaim := { program := "ytfihjjbonahahaa", sum := "f577a5a258d3f59d95974df7d807ce08f6f50712d2b59d36a2b0dbef5bea59eb", func := "escrow/escrowlaw2.FramesTurned", spec := "framesTurned", apart := false, narrowed := true }
def FramesTurnedUptoSaid : Prop := framesTurnedUptoRow.holds Try.pinned (OpenSpec.upto framesTurnedSpec)

/-- 'escrowlaw3.DiskCuts', WHERE WHAT IT READS IS OF BULK AT MOST 1048576: true; the input reads as it did. -/
def diskCutsUptoRow : OpenClaim := { program := "ytfihjjbonahahaa", sum := "f577a5a258d3f59d95974df7d807ce08f6f50712d2b59d36a2b0dbef5bea59eb", func := "escrow/escrowlaw3.DiskCuts", spec := "diskCuts", apart := false, narrowed := true }
def DiskCutsUptoSaid : Prop := diskCutsUptoRow.holds Try.pinned (OpenSpec.upto diskCutsSpec)

/-- 'escrowlaw2.FramesWrite', WHERE WHAT IT READS IS OF BULK AT MOST 1048576: true; the input reads as it did. -/
def framesWriteUptoRow : OpenClaim := { program := "ytfihjjbonahahaa", sum := "f577a5a258d3f59d95974df7d807ce08f6f50712d2b59d36a2b0dbef5bea59eb", func := "escrow/escrowlaw2.FramesWrite", spec := "framesWrite", apart := false, narrowed := true }
def FramesWriteUptoSaid : Prop := framesWriteUptoRow.holds Try.pinned (OpenSpec.upto framesWriteSpec)

/-- 'escrowlaw2.FramesTorn', WHERE WHAT IT READS IS OF BULK AT MOST 1048576: true; the input reads as it did. -/
def framesTornUptoRow : OpenClaim := { program := "ytfihjjbonahahaa", sum := "f577a5a258d3f59d95974df7d807ce08f6f50712d2b59d36a2b0dbef5bea59eb", func := "escrow/escrowlaw2.FramesTorn", spec := "framesTorn", apart := false, narrowed := true }
def FramesTornUptoSaid : Prop := framesTornUptoRow.holds Try.pinned (OpenSpec.upto framesTornSpec)

/-- 'escrowlaw3.DiskRoom', WHERE WHAT IT READS IS OF BULK AT MOST 1048576: true; the input reads as it did. -/
def diskRoomUptoRow : OpenClaim := { program := "ytfihjjbonahahaa", sum := "f577a5a258d3f59d95974df7d807ce08f6f50712d2b59d36a2b0dbef5bea59eb", func := "escrow/escrowlaw3.DiskRoom", spec := "diskRoom", apart := false, narrowed := true }
def DiskRoomUptoSaid : Prop := diskRoomUptoRow.holds Try.pinned (OpenSpec.upto diskRoomSpec)

/-- 'escrowlaw3.DiskTurns', WHERE WHAT IT READS IS OF BULK AT MOST 1048576: true; the input reads as it did. -/
def diskTurnsUptoRow : OpenClaim := { program := "ytfihjjbonahahaa", sum := "f577a5a258d3f59d95974df7d807ce08f6f50712d2b59d36a2b0dbef5bea59eb", func := "escrow/escrowlaw3.DiskTurns", spec := "diskTurns", apart := false, narrowed := true }
def DiskTurnsUptoSaid : Prop := diskTurnsUptoRow.holds Try.pinned (OpenSpec.upto diskTurnsSpec)

/-- 'escrowlaw3.DiskStops', WHERE WHAT IT READS IS OF BULK AT MOST 1048576: true; the input reads as it did. -/
def diskStopsUptoRow : OpenClaim := { program := "ytfihjjbonahahaa", sum := "f577a5a258d3f59d95974df7d807ce08f6f50712d2b59d36a2b0dbef5bea59eb", func := "escrow/escrowlaw3.DiskStops", spec := "diskStops", apart := false, narrowed := true }
def DiskStopsUptoSaid : Prop := diskStopsUptoRow.holds Try.pinned (OpenSpec.upto diskStopsSpec)

/-- 'escrowlaw3.DiskPlays', WHERE WHAT IT READS IS OF BULK AT MOST 1048576: true; the input reads as it did. -/
def diskPlaysUptoRow : OpenClaim := { program := "ytfihjjbonahahaa", sum := "f577a5a258d3f59d95974df7d807ce08f6f50712d2b59d36a2b0dbef5bea59eb", func := "escrow/escrowlaw3.DiskPlays", spec := "diskPlays", apart := false, narrowed := true }
def DiskPlaysUptoSaid : Prop := diskPlaysUptoRow.holds Try.pinned (OpenSpec.upto diskPlaysSpec)

/-- 'escrowlaw2.FramesBack', WHERE WHAT IT READS IS OF BULK AT MOST 1048576: true; the input reads as it did. -/
def framesBackUptoRow : OpenClaim := { program := "ytfihjjbonahahaa", sum := "f577a5a258d3f59d95974df7d807ce08f6f50712d2b59d36a2b0dbef5bea59eb", func := "escrow/escrowlaw2.FramesBack", spec := "framesBack", apart := false, narrowed := true }
def FramesBackUptoSaid : Prop := framesBackUptoRow.holds Try.pinned (OpenSpec.upto framesBackSpec)

/-- 'escrowlaw2.FramesOnes', WHERE WHAT IT READS IS OF BULK AT MOST 1048576: true; the input reads as it did. -/
def framesOnesUptoRow : OpenClaim := { program := "ytfihjjbonahahaa", sum := "f577a5a258d3f59d95974df7d807ce08f6f50712d2b59d36a2b0dbef5bea59eb", func := "escrow/escrowlaw2.FramesOnes", spec := "framesOnes", apart := false, narrowed := true }
def FramesOnesUptoSaid : Prop := framesOnesUptoRow.holds Try.pinned (OpenSpec.upto framesOnesSpec)

end Rows
end Go.Proofs.Ytfihjjbonahahaa
