/-
  No cell of these rows narrows 'for every input' (looked for: loops, veiled, ifaces, maps, wideKeys, modest, calm, conditions, laid).
  DERIVED. THE GIVEN ROWS OF THIS SEAT. 7 by the template 'for every input the law returns true; each argument reads behind the call as it read before'; 0 by the template 'total and deterministic' (their statements: YtfelipkbbefhhaaTotals.lean).
  GIVEN WITH THE SEED: the statements are not yours to turn. If you find one false, say at which input.
  Laid BY PROGRAM, IN A SANDBOX (cutbox-rows.mjs): the forced cells as the released guide's own fill.sh prints them over the translation 8b2ab34c894cb86d… (all of the seat's roots in one cut). By AI agents, Wed Nov 11 2026. No macro, syntax, notation, axiom, sorry.
-/
import Derived.Test.YtfelipkbbefhhaaChecked
import GoSem.Claim
import GoSem.ClaimJoined
import GoSem.ClaimMapViews
import Derived.JoinedTies
import Derived.KernelRfl
namespace Go.Proofs.Ytfelipkbbefhhaa
/- THE CELL 'sum', in the pinned program and in every row, IS THE sha256 OF THE DUMP (.gsa) THAT YtfelipkbbefhhaaProg.lean LOADS. Nothing in Lean hashes anything: it is a label: what it is worth is what the hold of that sum in a sandbox is worth. -/
noncomputable def Try.pinned : Pinned := { name := "ytfelipkbbefhhaa", sum := "8b2ab34c894cb86d4b15943727998e051db682a6ce9aa69a521d1d172eb812d7", checked := Try.checked }
namespace Rows
def none {H : Type} : Left H := { results := [], args := [] }

/-- 'escrowlaw9.OpsCheck': WHATEVER THE INPUT: true; the input reads as it did. -/
def opsCheckSpec : ChangeSpec := { name := "opsCheck", fn := fun _ => fun
  | [d1, d2, d3, d4] => { results := [.lit (.bool true)], args := [d1, d2, d3, d4] }
  | _ => none }
def opsCheckRow : OpenClaim := { program := "ytfelipkbbefhhaa", sum := "8b2ab34c894cb86d4b15943727998e051db682a6ce9aa69a521d1d172eb812d7", func := "escrow/escrowlaw9.OpsCheck", spec := "opsCheck", apart := false }
def OpsCheckSaid : Prop := opsCheckRow.holds Try.pinned (OpenSpec.ofChange opsCheckSpec)

/-- ITS FALSE NEIGHBOUR: 'it returns false'. Refute it at one input. -/
def opsCheckWrong : ChangeSpec := { name := "opsCheck", fn := fun _ => fun
  | [d1, d2, d3, d4] => { results := [.lit (.bool false)], args := [d1, d2, d3, d4] }
  | _ => none }
def OpsCheckWrongFalsely : Prop := opsCheckRow.holds Try.pinned (OpenSpec.ofChange opsCheckWrong)

/-- 'escrowlaw9.OpsRows': WHATEVER THE INPUT: true; the input reads as it did. -/
def opsRowsSpec : ChangeSpec := { name := "opsRows", fn := fun _ => fun
  | [d1, d2] => { results := [.lit (.bool true)], args := [d1, d2] }
  | _ => none }
def opsRowsRow : OpenClaim := { program := "ytfelipkbbefhhaa", sum := "8b2ab34c894cb86d4b15943727998e051db682a6ce9aa69a521d1d172eb812d7", func := "escrow/escrowlaw9.OpsRows", spec := "opsRows", apart := false }
def OpsRowsSaid : Prop := opsRowsRow.holds Try.pinned (OpenSpec.ofChange opsRowsSpec)

/-- ITS FALSE NEIGHBOUR: 'it returns false'. Refute it at one input. -/
def opsRowsWrong : ChangeSpec := { name := "opsRows", fn := fun _ => fun
  | [d1, d2] => { results := [.lit (.bool false)], args := [d1, d2] }
  | _ => none }
def OpsRowsWrongFalsely : Prop := opsRowsRow.holds Try.pinned (OpenSpec.ofChange opsRowsWrong)

/-- 'escrowlaw9.OpsTexts': WHATEVER THE INPUT: true; the input reads as it did. -/
def opsTextsSpec : ChangeSpec := { name := "opsTexts", fn := fun _ => fun
  | [d1, d2, d3, d4] => { results := [.lit (.bool true)], args := [d1, d2, d3, d4] }
  | _ => none }
def opsTextsRow : OpenClaim := { program := "ytfelipkbbefhhaa", sum := "8b2ab34c894cb86d4b15943727998e051db682a6ce9aa69a521d1d172eb812d7", func := "escrow/escrowlaw9.OpsTexts", spec := "opsTexts", apart := false }
def OpsTextsSaid : Prop := opsTextsRow.holds Try.pinned (OpenSpec.ofChange opsTextsSpec)

/-- ITS FALSE NEIGHBOUR: 'it returns false'. Refute it at one input. -/
def opsTextsWrong : ChangeSpec := { name := "opsTexts", fn := fun _ => fun
  | [d1, d2, d3, d4] => { results := [.lit (.bool false)], args := [d1, d2, d3, d4] }
  | _ => none }
def OpsTextsWrongFalsely : Prop := opsTextsRow.holds Try.pinned (OpenSpec.ofChange opsTextsWrong)

/-- 'escrowlaw9.OpsDots': WHATEVER THE INPUT: true; the input reads as it did. -/
def opsDotsSpec : ChangeSpec := { name := "opsDots", fn := fun _ => fun
  | [d] => { results := [.lit (.bool true)], args := [d] }
  | _ => none }
def opsDotsRow : OpenClaim := { program := "ytfelipkbbefhhaa", sum := "8b2ab34c894cb86d4b15943727998e051db682a6ce9aa69a521d1d172eb812d7", func := "escrow/escrowlaw9.OpsDots", spec := "opsDots", apart := false }
def OpsDotsSaid : Prop := opsDotsRow.holds Try.pinned (OpenSpec.ofChange opsDotsSpec)

/-- ITS FALSE NEIGHBOUR: 'it returns false'. Refute it at one input. -/
def opsDotsWrong : ChangeSpec := { name := "opsDots", fn := fun _ => fun
  | [d] => { results := [.lit (.bool false)], args := [d] }
  | _ => none }
def OpsDotsWrongFalsely : Prop := opsDotsRow.holds Try.pinned (OpenSpec.ofChange opsDotsWrong)

/-- 'escrowlaw9.OpsSames': WHATEVER THE INPUT: true; the input reads as it did. -/
def opsSamesSpec : ChangeSpec := { name := "opsSames", fn := fun _ => fun
  | [d1, d2] => { results := [.lit (.bool true)], args := [d1, d2] }
  | _ => none }
def opsSamesRow : OpenClaim := { program := "ytfelipkbbefhhaa", sum := "8b2ab34c894cb86d4b15943727998e051db682a6ce9aa69a521d1d172eb812d7", func := "escrow/escrowlaw9.OpsSames", spec := "opsSames", apart := false }
def OpsSamesSaid : Prop := opsSamesRow.holds Try.pinned (OpenSpec.ofChange opsSamesSpec)

/-- ITS FALSE NEIGHBOUR: 'it returns false'. Refute it at one input. -/
def opsSamesWrong : ChangeSpec := { name := "opsSames", fn := fun _ => fun
  | [d1, d2] => { results := [.lit (.bool false)], args := [d1, d2] }
  | _ => none }
def OpsSamesWrongFalsely : Prop := opsSamesRow.holds Try.pinned (OpenSpec.ofChange opsSamesWrong)

/-- 'escrowlaw9.OpsReads': WHATEVER THE INPUT: true; the input reads as it did. -/
def opsReadsSpec : ChangeSpec := { name := "opsReads", fn := fun _ => fun
  | [d1, d2, d3, d4, d5] => { results := [.lit (.bool true)], args := [d1, d2, d3, d4, d5] }
  | _ => none }
def opsReadsRow : OpenClaim := { program := "ytfelipkbbefhhaa", sum := "8b2ab34c894cb86d4b15943727998e051db682a6ce9aa69a521d1d172eb812d7", func := "escrow/escrowlaw9.OpsReads", spec := "opsReads", unfollowed := true, recurses := true, apart := false }
def OpsReadsSaid : Prop := opsReadsRow.holds Try.pinned (OpenSpec.ofChange opsReadsSpec)

/-- ITS FALSE NEIGHBOUR: 'it returns false'. Refute it at one input. -/
def opsReadsWrong : ChangeSpec := { name := "opsReads", fn := fun _ => fun
  | [d1, d2, d3, d4, d5] => { results := [.lit (.bool false)], args := [d1, d2, d3, d4, d5] }
  | _ => none }
def OpsReadsWrongFalsely : Prop := opsReadsRow.holds Try.pinned (OpenSpec.ofChange opsReadsWrong)

/-- 'escrowlaw9.OpsBytes': WHATEVER THE INPUT: true; the input reads as it did. -/
def opsBytesSpec : ChangeSpec := { name := "opsBytes", fn := fun _ => fun
  | [d1, d2, d3] => { results := [.lit (.bool true)], args := [d1, d2, d3] }
  | _ => none }
def opsBytesRow : OpenClaim := { program := "ytfelipkbbefhhaa", sum := "8b2ab34c894cb86d4b15943727998e051db682a6ce9aa69a521d1d172eb812d7", func := "escrow/escrowlaw9.OpsBytes", spec := "opsBytes", unfollowed := true, recurses := true, apart := false }
def OpsBytesSaid : Prop := opsBytesRow.holds Try.pinned (OpenSpec.ofChange opsBytesSpec)

/-- ITS FALSE NEIGHBOUR: 'it returns false'. Refute it at one input. -/
def opsBytesWrong : ChangeSpec := { name := "opsBytes", fn := fun _ => fun
  | [d1, d2, d3] => { results := [.lit (.bool false)], args := [d1, d2, d3] }
  | _ => none }
def OpsBytesWrongFalsely : Prop := opsBytesRow.holds Try.pinned (OpenSpec.ofChange opsBytesWrong)

/- THE SECOND FORM. 'bulk': how many values and letters a reading holds, each counted each time it is reached (what is shared counts as often as it is met; a slice's spare places count too). A statement '..UptoSaid' is the law's where the arguments, and the package variables that the reading takes, are together of bulk at most 1048576: NARROWER than '..Said'. Prove '..Said' where nothing that the law and all that it calls make is longer than what came in: it says more and counts as full. Else prove '..UptoSaid'. A law counts once. -/
mutual
def uptoBulk {H : Type} : DataW H → Nat
  | .lit (.string bytes) => bytes.length + 1
  | .lit _ => 1
  | .nil => 1
  | .ptr d => uptoBulk d + 1
  | .slice elems spare => uptoBulkAll elems + uptoBulkAll spare + 1
  | .agg parts => uptoBulkAll parts + 1
  | .iface _ d => uptoBulk d + 1
  | .map entries => uptoBulkEntries entries + 1
  | .held _ => 1
def uptoBulkAll {H : Type} : List (DataW H) → Nat
  | [] => 0
  | d :: r => uptoBulk d + uptoBulkAll r
def uptoBulkEntries {H : Type} : List (Lit × DataW H) → Nat
  | [] => 0
  | x :: r => uptoBulkEntry x + uptoBulkEntries r
def uptoBulkEntry {H : Type} : Lit × DataW H → Nat
  | (.string bytes, d) => bytes.length + uptoBulk d + 1
  | (_, d) => uptoBulk d + 1
 end
def uptoSmall : (H : Type) → List (DataW H) → Bool := fun _ ds => decide (uptoBulkAll ds ≤ 1048576)
def OpenSpec.upto (s : _root_.Go.ChangeSpec) : _root_.Go.OpenSpec := { _root_.Go.OpenSpec.ofChange s with cond := some uptoSmall }

/-- 'escrowlaw9.OpsCheck', WHERE WHAT IT READS IS OF BULK AT MOST 1048576: true; the input reads as it did. -/
def opsCheckUptoRow : OpenClaim := { program := "ytfelipkbbefhhaa", sum := "8b2ab34c894cb86d4b15943727998e051db682a6ce9aa69a521d1d172eb812d7", func := "escrow/escrowlaw9.OpsCheck", spec := "opsCheck", apart := false, narrowed := true }
def OpsCheckUptoSaid : Prop := opsCheckUptoRow.holds Try.pinned (OpenSpec.upto opsCheckSpec)

/-- 'escrowlaw9.OpsRows', WHERE WHAT IT READS IS OF BULK AT MOST 1048576: true; the input reads as it did. -/
def opsRowsUptoRow : OpenClaim := { program := "ytfelipkbbefhhaa", sum := "8b2ab34c894cb86d4b15943727998e051db682a6ce9aa69a521d1d172eb812d7", func := "escrow/escrowlaw9.OpsRows", spec := "opsRows", apart := false, narrowed := true }
def OpsRowsUptoSaid : Prop := opsRowsUptoRow.holds Try.pinned (OpenSpec.upto opsRowsSpec)

/-- 'escrowlaw9.OpsTexts', WHERE WHAT IT READS IS OF BULK AT MOST 1048576: true; the input reads as it did. -/
def opsTextsUptoRow : OpenClaim := { program := "ytfelipkbbefhhaa", sum := "8b2ab34c894cb86d4b15943727998e051db682a6ce9aa69a521d1d172eb812d7", func := "escrow/escrowlaw9.OpsTexts", spec := "opsTexts", apart := false, narrowed := true }
def OpsTextsUptoSaid : Prop := opsTextsUptoRow.holds Try.pinned (OpenSpec.upto opsTextsSpec)

/-- 'escrowlaw9.OpsDots', WHERE WHAT IT READS IS OF BULK AT MOST 1048576: true; the input reads as it did. -/
def opsDotsUptoRow : OpenClaim := { program := "ytfelipkbbefhhaa", sum := "8b2ab34c894cb86d4b15943727998e051db682a6ce9aa69a521d1d172eb812d7", func := "escrow/escrowlaw9.OpsDots", spec := "opsDots", apart := false, narrowed := true }
def OpsDotsUptoSaid : Prop := opsDotsUptoRow.holds Try.pinned (OpenSpec.upto opsDotsSpec)

/-- 'escrowlaw9.OpsSames', WHERE WHAT IT READS IS OF BULK AT MOST 1048576: true; the input reads as it did. -/
def opsSamesUptoRow : OpenClaim := { program := "ytfelipkbbefhhaa", sum := "8b2ab34c894cb86d4b15943727998e051db682a6ce9aa69a521d1d172eb812d7", func := "escrow/escrowlaw9.OpsSames", spec := "opsSames", apart := false, narrowed := true }
def OpsSamesUptoSaid : Prop := opsSamesUptoRow.holds Try.pinned (OpenSpec.upto opsSamesSpec)

/-- 'escrowlaw9.OpsReads', WHERE WHAT IT READS IS OF BULK AT MOST 1048576: true; the input reads as it did. -/
def opsReadsUptoRow : OpenClaim := { program := "ytfelipkbbefhhaa", sum := "8b2ab34c894cb86d4b15943727998e051db682a6ce9aa69a521d1d172eb812d7", func := "escrow/escrowlaw9.OpsReads", spec := "opsReads", unfollowed := true, recurses := true, apart := false, narrowed := true }
def OpsReadsUptoSaid : Prop := opsReadsUptoRow.holds Try.pinned (OpenSpec.upto opsReadsSpec)

/-- 'escrowlaw9.OpsBytes', WHERE WHAT IT READS IS OF BULK AT MOST 1048576: true; the input reads as it did. -/
def opsBytesUptoRow : OpenClaim := { program := "ytfelipkbbefhhaa", sum := "8b2ab34c894cb86d4b15943727998e051db682a6ce9aa69a521d1d172eb812d7", func := "escrow/escrowlaw9.OpsBytes", spec := "opsBytes", unfollowed := true, recurses := true, apart := false, narrowed := true }
def OpsBytesUptoSaid : Prop := opsBytesUptoRow.holds Try.pinned (OpenSpec.upto opsBytesSpec)

end Rows
end Go.Proofs.Ytfelipkbbefhhaa
