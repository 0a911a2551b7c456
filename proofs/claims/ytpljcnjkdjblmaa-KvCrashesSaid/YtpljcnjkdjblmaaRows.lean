/-
  No cell of these rows narrows 'for every input' (looked for: loops, veiled, ifaces, maps, wideKeys, modest, calm, conditions, laid).
  DERIVED. THE GIVEN ROWS OF THIS SEAT. 7 by the template 'for every input the law returns true; each argument reads behind the call as it read before'; 0 by the template 'total and deterministic' (their statements: YtpljcnjkdjblmaaTotals.lean).
  GIVEN WITH THE SEED: the statements are not yours to turn. If you find one false, say at which input.
  Laid BY PROGRAM, IN A SANDBOX (cutbox-rows.mjs): the forced cells as the released guide's own fill.sh prints them over the translation f1fc88f1e4b208ce… (all of the seat's roots in one cut). By AI agents, Wed Nov 11 2026. No macro, syntax, notation, axiom, sorry.
-/
import Derived.Test.YtpljcnjkdjblmaaChecked
import GoSem.Claim
import GoSem.ClaimJoined
import GoSem.ClaimMapViews
import Derived.JoinedTies
import Derived.KernelRfl
namespace Go.Proofs.Ytpljcnjkdjblmaa
/- THE CELL 'sum', in the pinned program and in every row, IS THE sha256 OF THE DUMP (.gsa) THAT YtpljcnjkdjblmaaProg.lean LOADS. Nothing in Lean hashes anything: it is a label: what it is worth is what the hold of that sum in a sandbox is worth. -/
noncomputable def Try.pinned : Pinned := { name := "ytpljcnjkdjblmaa", sum := "f1fc88f1e4b208cea96bcffd842258a442c8a96e4bdd97d4fa1f7cc81139d7cc", checked := Try.checked }
namespace Rows
def none {H : Type} : Left H := { results := [], args := [] }

/-- 'escrowlaw5.KvMany': WHATEVER THE INPUT: true; the input reads as it did. -/
def kvManySpec : ChangeSpec := { name := "kvMany", fn := fun _ => fun
  | [d1, d2] => { results := [.lit (.bool true)], args := [d1, d2] }
  | _ => none }
def kvManyRow : OpenClaim := { program := "ytpljcnjkdjblmaa", sum := "f1fc88f1e4b208cea96bcffd842258a442c8a96e4bdd97d4fa1f7cc81139d7cc", func := "escrow/escrowlaw5.KvMany", spec := "kvMany", inPlace := ["maps.clone"], unfollowed := true, recurses := true, plainKeys := false, apart := false }
def KvManySaid : Prop := kvManyRow.holds Try.pinned (OpenSpec.ofChange kvManySpec)

/-- ITS FALSE NEIGHBOUR: 'it returns false'. Refute it at one input. -/
def kvManyWrong : ChangeSpec := { name := "kvMany", fn := fun _ => fun
  | [d1, d2] => { results := [.lit (.bool false)], args := [d1, d2] }
  | _ => none }
def KvManyWrongFalsely : Prop := kvManyRow.holds Try.pinned (OpenSpec.ofChange kvManyWrong)

/-- 'escrowlaw5.KvLast': WHATEVER THE INPUT: true; the input reads as it did. -/
def kvLastSpec : ChangeSpec := { name := "kvLast", fn := fun _ => fun
  | [d1, d2] => { results := [.lit (.bool true)], args := [d1, d2] }
  | _ => none }
def kvLastRow : OpenClaim := { program := "ytpljcnjkdjblmaa", sum := "f1fc88f1e4b208cea96bcffd842258a442c8a96e4bdd97d4fa1f7cc81139d7cc", func := "escrow/escrowlaw5.KvLast", spec := "kvLast", inPlace := ["maps.clone"], unfollowed := true, recurses := true, plainKeys := false, apart := false }
def KvLastSaid : Prop := kvLastRow.holds Try.pinned (OpenSpec.ofChange kvLastSpec)

/-- ITS FALSE NEIGHBOUR: 'it returns false'. Refute it at one input. -/
def kvLastWrong : ChangeSpec := { name := "kvLast", fn := fun _ => fun
  | [d1, d2] => { results := [.lit (.bool false)], args := [d1, d2] }
  | _ => none }
def KvLastWrongFalsely : Prop := kvLastRow.holds Try.pinned (OpenSpec.ofChange kvLastWrong)

/-- 'escrowlaw5.KvRefuses': WHATEVER THE INPUT: true; the input reads as it did. -/
def kvRefusesSpec : ChangeSpec := { name := "kvRefuses", fn := fun _ => fun
  | [d1, d2, d3, d4] => { results := [.lit (.bool true)], args := [d1, d2, d3, d4] }
  | _ => none }
def kvRefusesRow : OpenClaim := { program := "ytpljcnjkdjblmaa", sum := "f1fc88f1e4b208cea96bcffd842258a442c8a96e4bdd97d4fa1f7cc81139d7cc", func := "escrow/escrowlaw5.KvRefuses", spec := "kvRefuses", inPlace := ["maps.clone"], unfollowed := true, recurses := true, plainKeys := false, apart := false }
def KvRefusesSaid : Prop := kvRefusesRow.holds Try.pinned (OpenSpec.ofChange kvRefusesSpec)

/-- ITS FALSE NEIGHBOUR: 'it returns false'. Refute it at one input. -/
def kvRefusesWrong : ChangeSpec := { name := "kvRefuses", fn := fun _ => fun
  | [d1, d2, d3, d4] => { results := [.lit (.bool false)], args := [d1, d2, d3, d4] }
  | _ => none }
def KvRefusesWrongFalsely : Prop := kvRefusesRow.holds Try.pinned (OpenSpec.ofChange kvRefusesWrong)

/-- 'escrowlaw5.KvFull': WHATEVER THE INPUT: true; the input reads as it did. -/
def kvFullSpec : ChangeSpec := { name := "kvFull", fn := fun _ => fun
  | [d1, d2] => { results := [.lit (.bool true)], args := [d1, d2] }
  | _ => none }
def kvFullRow : OpenClaim := { program := "ytpljcnjkdjblmaa", sum := "f1fc88f1e4b208cea96bcffd842258a442c8a96e4bdd97d4fa1f7cc81139d7cc", func := "escrow/escrowlaw5.KvFull", spec := "kvFull", inPlace := ["maps.clone"], unfollowed := true, recurses := true, plainKeys := false, apart := false }
def KvFullSaid : Prop := kvFullRow.holds Try.pinned (OpenSpec.ofChange kvFullSpec)

/-- ITS FALSE NEIGHBOUR: 'it returns false'. Refute it at one input. -/
def kvFullWrong : ChangeSpec := { name := "kvFull", fn := fun _ => fun
  | [d1, d2] => { results := [.lit (.bool false)], args := [d1, d2] }
  | _ => none }
def KvFullWrongFalsely : Prop := kvFullRow.holds Try.pinned (OpenSpec.ofChange kvFullWrong)

/-- 'escrowlaw5.KvPlays': WHATEVER THE INPUT: true; the input reads as it did. -/
def kvPlaysSpec : ChangeSpec := { name := "kvPlays", fn := fun _ => fun
  | [d1, d2, d3, d4, d5] => { results := [.lit (.bool true)], args := [d1, d2, d3, d4, d5] }
  | _ => none }
def kvPlaysRow : OpenClaim := { program := "ytpljcnjkdjblmaa", sum := "f1fc88f1e4b208cea96bcffd842258a442c8a96e4bdd97d4fa1f7cc81139d7cc", func := "escrow/escrowlaw5.KvPlays", spec := "kvPlays", inPlace := ["maps.clone"], unfollowed := true, recurses := true, plainKeys := false, apart := false }
def KvPlaysSaid : Prop := kvPlaysRow.holds Try.pinned (OpenSpec.ofChange kvPlaysSpec)

/-- ITS FALSE NEIGHBOUR: 'it returns false'. Refute it at one input. -/
def kvPlaysWrong : ChangeSpec := { name := "kvPlays", fn := fun _ => fun
  | [d1, d2, d3, d4, d5] => { results := [.lit (.bool false)], args := [d1, d2, d3, d4, d5] }
  | _ => none }
def KvPlaysWrongFalsely : Prop := kvPlaysRow.holds Try.pinned (OpenSpec.ofChange kvPlaysWrong)

/-- 'escrowlaw5.KvScans': WHATEVER THE INPUT: true; the input reads as it did. -/
def kvScansSpec : ChangeSpec := { name := "kvScans", fn := fun _ => fun
  | [d1, d2] => { results := [.lit (.bool true)], args := [d1, d2] }
  | _ => none }
def kvScansRow : OpenClaim := { program := "ytpljcnjkdjblmaa", sum := "f1fc88f1e4b208cea96bcffd842258a442c8a96e4bdd97d4fa1f7cc81139d7cc", func := "escrow/escrowlaw5.KvScans", spec := "kvScans", inPlace := ["maps.clone"], unfollowed := true, recurses := true, plainKeys := false, apart := false }
def KvScansSaid : Prop := kvScansRow.holds Try.pinned (OpenSpec.ofChange kvScansSpec)

/-- ITS FALSE NEIGHBOUR: 'it returns false'. Refute it at one input. -/
def kvScansWrong : ChangeSpec := { name := "kvScans", fn := fun _ => fun
  | [d1, d2] => { results := [.lit (.bool false)], args := [d1, d2] }
  | _ => none }
def KvScansWrongFalsely : Prop := kvScansRow.holds Try.pinned (OpenSpec.ofChange kvScansWrong)

/-- 'escrowlaw5.KvCrashes': WHATEVER THE INPUT: true; the input reads as it did. -/
def kvCrashesSpec : ChangeSpec := { name := "kvCrashes", fn := fun _ => fun
  | [d] => { results := [.lit (.bool true)], args := [d] }
  | _ => none }
def kvCrashesRow : OpenClaim := { program := "ytpljcnjkdjblmaa", sum := "f1fc88f1e4b208cea96bcffd842258a442c8a96e4bdd97d4fa1f7cc81139d7cc", func := "escrow/escrowlaw5.KvCrashes", spec := "kvCrashes", inPlace := ["maps.clone"], unfollowed := true, recurses := true, plainKeys := false, apart := false }
def KvCrashesSaid : Prop := kvCrashesRow.holds Try.pinned (OpenSpec.ofChange kvCrashesSpec)

/-- ITS FALSE NEIGHBOUR: 'it returns false'. Refute it at one input. -/
def kvCrashesWrong : ChangeSpec := { name := "kvCrashes", fn := fun _ => fun
  | [d] => { results := [.lit (.bool false)], args := [d] }
  | _ => none }
def KvCrashesWrongFalsely : Prop := kvCrashesRow.holds Try.pinned (OpenSpec.ofChange kvCrashesWrong)

/- THE SECOND FORM. 'bulk': how many values and letters a reading holds, each counted each time it is reached (what is shared counts as often as it is met; a slice's spare places count too). A statement '..UptoSaid' is the law's where the arguments, and the package variables that the reading takes, are together of bulk at most 1048576: NARROWER than '..Said'. Prove '..Said' where nothing that the law and all that it calls make is longer than what came in: it says more and counts as full. Else prove '..UptoSaid'. A law counts once. -/
mutual
def uptoBulk {H : Type} : DataW H → Nat
  | .lit (.string bytes) => bytes.length + 1
  | .lit _ => 1
  | .nil => 1
  | .ptr d => uptoBulk d + 1
  | .slice elems spare => uptoBulkAll elems + uptoBulkAll spare + 1
  | .agg parts => uptoBulkAll parts + 1
  | .iface _ d => uptoBulk d + 1
  | .map entries => uptoBulkEntries entries + 1
  | .held _ => 1
def uptoBulkAll {H : Type} : List (DataW H) → Nat
  | [] => 0
  | d :: r => uptoBulk d + uptoBulkAll r
def uptoBulkEntries {H : Type} : List (Lit × DataW H) → Nat
  | [] => 0
  | x :: r => uptoBulkEntry x + uptoBulkEntries r
def uptoBulkEntry {H : Type} : Lit × DataW H → Nat
  | (.string bytes, d) => bytes.length + uptoBulk d + 1
  | (_, d) => uptoBulk d + 1
 end
def uptoSmall : (H : Type) → List (DataW H) → Bool := fun _ ds => decide (uptoBulkAll ds ≤ 1048576)
def OpenSpec.upto (s : _root_.Go.ChangeSpec) : _root_.Go.OpenSpec := { _root_.Go.OpenSpec.ofChange s with cond := some uptoSmall }

/-- 'escrowlaw5.KvMany', WHERE WHAT IT READS IS OF BULK AT MOST 1048576: true; the input reads as it did. -/
def kvManyUptoRow : OpenClaim := { program := "ytpljcnjkdjblmaa", sum := "f1fc88f1e4b208cea96bcffd842258a442c8a96e4bdd97d4fa1f7cc81139d7cc", func := "escrow/escrowlaw5.KvMany", spec := "kvMany", inPlace := ["maps.clone"], unfollowed := true, recurses := true, plainKeys := false, apart := false, narrowed := true }
def KvManyUptoSaid : Prop := kvManyUptoRow.holds Try.pinned (OpenSpec.upto kvManySpec)

/-- 'escrowlaw5.KvLast', WHERE WHAT IT READS IS OF BULK AT MOST 1048576: true; the input reads as it did. -/
def kvLastUptoRow : OpenClaim := { program := "ytpljcnjkdjblmaa", sum := "f1fc88f1e4b208cea96bcffd842258a442c8a96e4bdd97d4fa1f7cc81139d7cc", func := "escrow/escrowlaw5.KvLast", spec := "kvLast", inPlace := ["maps.clone"], unfollowed := true, recurses := true, plainKeys := false, apart := false, narrowed := true }
def KvLastUptoSaid : Prop := kvLastUptoRow.holds Try.pinned (OpenSpec.upto kvLastSpec)

/-- 'escrowlaw5.KvRefuses', WHERE WHAT IT READS IS OF BULK AT MOST 1048576: true; the input reads as it did. -/
def kvRefusesUptoRow : OpenClaim := { program := "ytpljcnjkdjblmaa", sum := "f1fc88f1e4b208cea96bcffd842258a442c8a96e4bdd97d4fa1f7cc81139d7cc", func := "escrow/escrowlaw5.KvRefuses", spec := "kvRefuses", inPlace := ["maps.clone"], unfollowed := true, recurses := true, plainKeys := false, apart := false, narrowed := true }
def KvRefusesUptoSaid : Prop := kvRefusesUptoRow.holds Try.pinned (OpenSpec.upto kvRefusesSpec)

/-- 'escrowlaw5.KvFull', WHERE WHAT IT READS IS OF BULK AT MOST 1048576: true; the input reads as it did. -/
def kvFullUptoRow : OpenClaim := { program := "ytpljcnjkdjblmaa", sum := "f1fc88f1e4b208cea96bcffd842258a442c8a96e4bdd97d4fa1f7cc81139d7cc", func := "escrow/escrowlaw5.KvFull", spec := "kvFull", inPlace := ["maps.clone"], unfollowed := true, recurses := true, plainKeys := false, apart := false, narrowed := true }
def KvFullUptoSaid : Prop := kvFullUptoRow.holds Try.pinned (OpenSpec.upto kvFullSpec)

/-- 'escrowlaw5.KvPlays', WHERE WHAT IT READS IS OF BULK AT MOST 1048576: true; the input reads as it did. -/
def kvPlaysUptoRow : OpenClaim := { program := "ytpljcnjkdjblmaa", sum := "f1fc88f1e4b208cea96bcffd842258a442c8a96e4bdd97d4fa1f7cc81139d7cc", func := "escrow/escrowlaw5.KvPlays", spec := "kvPlays", inPlace := ["maps.clone"], unfollowed := true, recurses := true, plainKeys := false, apart := false, narrowed := true }
def KvPlaysUptoSaid : Prop := kvPlaysUptoRow.holds Try.pinned (OpenSpec.upto kvPlaysSpec)

/-- 'escrowlaw5.KvScans', WHERE WHAT IT READS IS OF BULK AT MOST 1048576: true; the input reads as it did. -/
def kvScansUptoRow : OpenClaim := { program := "ytpljcnjkdjblmaa", sum := "f1fc88f1e4b208cea96bcffd842258a442c8a96e4bdd97d4fa1f7cc81139d7cc", func := "escrow/escrowlaw5.KvScans", spec := "kvScans", inPlace := ["maps.clone"], unfollowed := true, recurses := true, plainKeys := false, apart := false, narrowed := true }
def KvScansUptoSaid : Prop := kvScansUptoRow.holds Try.pinned (OpenSpec.upto kvScansSpec)

/-- 'escrowlaw5.KvCrashes', WHERE WHAT IT READS IS OF BULK AT MOST 1048576: true; the input reads as it did. -/
def kvCrashesUptoRow : OpenClaim := { program := "ytpljcnjkdjblmaa", sum := "f1fc88f1e4b208cea96bcffd842258a442c8a96e4bdd97d4fa1f7cc81139d7cc", func := "escrow/escrowlaw5.KvCrashes", spec := "kvCrashes", inPlace := ["maps.clone"], unfollowed := true, recurses := true, plainKeys := false, apart := false, narrowed := true }
def KvCrashesUptoSaid : Prop := kvCrashesUptoRow.holds Try.pinned (OpenSpec.upto kvCrashesSpec)

end Rows
end Go.Proofs.Ytpljcnjkdjblmaa
