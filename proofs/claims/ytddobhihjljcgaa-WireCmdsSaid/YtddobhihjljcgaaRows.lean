/-
  No cell of these rows narrows 'for every input' (looked for: loops, veiled, ifaces, maps, wideKeys, modest, calm, conditions, laid).
  DERIVED. THE GIVEN ROWS OF THIS SEAT. 5 by the template 'for every input the law returns true; each argument reads behind the call as it read before'; 0 by the template 'total and deterministic' (their statements: YtddobhihjljcgaaTotals.lean).
  GIVEN WITH THE SEED: the statements are not yours to turn. If you find one false, say at which input.
  Laid BY PROGRAM, IN A SANDBOX (cutbox-rows.mjs): the forced cells as the released guide's own fill.sh prints them over the translation 67e91b914db5f98c… (all of the seat's roots in one cut). By AI agents, Wed Nov 11 2026. No macro, syntax, notation, axiom, sorry.
-/
import Derived.Test.YtddobhihjljcgaaChecked
import GoSem.Claim
import GoSem.ClaimJoined
import GoSem.ClaimMapViews
import Derived.JoinedTies
import Derived.KernelRfl
namespace Go.Proofs.Ytddobhihjljcgaa
/- THE CELL 'sum', in the pinned program and in every row, IS THE sha256 OF THE DUMP (.gsa) THAT YtddobhihjljcgaaProg.lean LOADS. Nothing in Lean hashes anything: it is a label: what it is worth is what the hold of that sum in a sandbox is worth. -/
noncomputable def Try.pinned : Pinned := { name := "ytddobhihjljcgaa", sum := "67e91b914db5f98cdaa7ea13ea5dea9d303768596860af2b854cceeba8fb16df", checked := Try.checked }
namespace Rows
def none {H : Type} : Left H := { results := [], args := [] }

/-- 'escrowlaw14.WireCuts': WHATEVER THE INPUT: true; the input reads as it did. -/
def wireCutsSpec : ChangeSpec := { name := "wireCuts", fn := fun _ => fun
  | [d1, d2, d3] => { results := [.lit (.bool true)], args := [d1, d2, d3] }
  | _ => none }
def wireCutsRow : OpenClaim := { program := "ytddobhihjljcgaa", sum := "67e91b914db5f98cdaa7ea13ea5dea9d303768596860af2b854cceeba8fb16df", func := "escrow/escrowlaw14.WireCuts", spec := "wireCuts", unfollowed := true, recurses := true, apart := false }
def WireCutsSaid : Prop := wireCutsRow.holds Try.pinned (OpenSpec.ofChange wireCutsSpec)

/-- ITS FALSE NEIGHBOUR: 'it returns false'. Refute it at one input. -/
def wireCutsWrong : ChangeSpec := { name := "wireCuts", fn := fun _ => fun
  | [d1, d2, d3] => { results := [.lit (.bool false)], args := [d1, d2, d3] }
  | _ => none }
def WireCutsWrongFalsely : Prop := wireCutsRow.holds Try.pinned (OpenSpec.ofChange wireCutsWrong)

/-- 'escrowlaw14.WireKinds': WHATEVER THE INPUT: true; the input reads as it did. -/
def wireKindsSpec : ChangeSpec := { name := "wireKinds", fn := fun _ => fun
  | [d] => { results := [.lit (.bool true)], args := [d] }
  | _ => none }
def wireKindsRow : OpenClaim := { program := "ytddobhihjljcgaa", sum := "67e91b914db5f98cdaa7ea13ea5dea9d303768596860af2b854cceeba8fb16df", func := "escrow/escrowlaw14.WireKinds", spec := "wireKinds", unfollowed := true, recurses := true, apart := false }
def WireKindsSaid : Prop := wireKindsRow.holds Try.pinned (OpenSpec.ofChange wireKindsSpec)

/-- ITS FALSE NEIGHBOUR: 'it returns false'. Refute it at one input. -/
def wireKindsWrong : ChangeSpec := { name := "wireKinds", fn := fun _ => fun
  | [d] => { results := [.lit (.bool false)], args := [d] }
  | _ => none }
def WireKindsWrongFalsely : Prop := wireKindsRow.holds Try.pinned (OpenSpec.ofChange wireKindsWrong)

/-- 'escrowlaw14.WireCmds': WHATEVER THE INPUT: true; the input reads as it did. -/
def wireCmdsSpec : ChangeSpec := { name := "wireCmds", fn := fun _ => fun
  | [d1, d2, d3, d4] => { results := [.lit (.bool true)], args := [d1, d2, d3, d4] }
  | _ => none }
def wireCmdsRow : OpenClaim := { program := "ytddobhihjljcgaa", sum := "67e91b914db5f98cdaa7ea13ea5dea9d303768596860af2b854cceeba8fb16df", func := "escrow/escrowlaw14.WireCmds", spec := "wireCmds", unfollowed := true, recurses := true, apart := false }
def WireCmdsSaid : Prop := wireCmdsRow.holds Try.pinned (OpenSpec.ofChange wireCmdsSpec)

/-- ITS FALSE NEIGHBOUR: 'it returns false'. Refute it at one input. -/
def wireCmdsWrong : ChangeSpec := { name := "wireCmds", fn := fun _ => fun
  | [d1, d2, d3, d4] => { results := [.lit (.bool false)], args := [d1, d2, d3, d4] }
  | _ => none }
def WireCmdsWrongFalsely : Prop := wireCmdsRow.holds Try.pinned (OpenSpec.ofChange wireCmdsWrong)

/-- 'escrowlaw14.WireBounds': WHATEVER THE INPUT: true; the input reads as it did. -/
def wireBoundsSpec : ChangeSpec := { name := "wireBounds", fn := fun _ => fun
  | [d1, d2] => { results := [.lit (.bool true)], args := [d1, d2] }
  | _ => none }
def wireBoundsRow : OpenClaim := { program := "ytddobhihjljcgaa", sum := "67e91b914db5f98cdaa7ea13ea5dea9d303768596860af2b854cceeba8fb16df", func := "escrow/escrowlaw14.WireBounds", spec := "wireBounds", unfollowed := true, recurses := true, apart := false }
def WireBoundsSaid : Prop := wireBoundsRow.holds Try.pinned (OpenSpec.ofChange wireBoundsSpec)

/-- ITS FALSE NEIGHBOUR: 'it returns false'. Refute it at one input. -/
def wireBoundsWrong : ChangeSpec := { name := "wireBounds", fn := fun _ => fun
  | [d1, d2] => { results := [.lit (.bool false)], args := [d1, d2] }
  | _ => none }
def WireBoundsWrongFalsely : Prop := wireBoundsRow.holds Try.pinned (OpenSpec.ofChange wireBoundsWrong)

/-- 'escrowlaw14.WireSames': WHATEVER THE INPUT: true; the input reads as it did. -/
def wireSamesSpec : ChangeSpec := { name := "wireSames", fn := fun _ => fun
  | [d1, d2] => { results := [.lit (.bool true)], args := [d1, d2] }
  | _ => none }
def wireSamesRow : OpenClaim := { program := "ytddobhihjljcgaa", sum := "67e91b914db5f98cdaa7ea13ea5dea9d303768596860af2b854cceeba8fb16df", func := "escrow/escrowlaw14.WireSames", spec := "wireSames", unfollowed := true, recurses := true, apart := false }
def WireSamesSaid : Prop := wireSamesRow.holds Try.pinned (OpenSpec.ofChange wireSamesSpec)

/-- ITS FALSE NEIGHBOUR: 'it returns false'. Refute it at one input. -/
def wireSamesWrong : ChangeSpec := { name := "wireSames", fn := fun _ => fun
  | [d1, d2] => { results := [.lit (.bool false)], args := [d1, d2] }
  | _ => none }
def WireSamesWrongFalsely : Prop := wireSamesRow.holds Try.pinned (OpenSpec.ofChange wireSamesWrong)

/- THE SECOND FORM. 'bulk': how many values and letters a reading holds, each counted each time it is reached (what is shared counts as often as it is met; a slice's spare places count too). A statement '..UptoSaid' is the law's where the arguments, and the package variables that the reading takes, are together of bulk at most 1048576: NARROWER than '..Said'. Prove '..Said' where nothing that the law and all that it calls make is longer than what came in: it says more and counts as full. Else prove '..UptoSaid'. A law counts once. -/
mutual
def uptoBulk {H : Type} : DataW H → Nat
  | .lit (.string bytes) => bytes.length + 1
  | .lit _ => 1
  | .nil => 1
  | .ptr d => uptoBulk d + 1
  | .slice elems spare => uptoBulkAll elems + uptoBulkAll spare + 1
  | .agg parts => uptoBulkAll parts + 1
  | .iface _ d => uptoBulk d + 1
  | .map entries => uptoBulkEntries entries + 1
  | .held _ => 1
def uptoBulkAll {H : Type} : List (DataW H) → Nat
  | [] => 0
  | d :: r => uptoBulk d + uptoBulkAll r
def uptoBulkEntries {H : Type} : List (Lit × DataW H) → Nat
  | [] => 0
  | x :: r => uptoBulkEntry x + uptoBulkEntries r
def uptoBulkEntry {H : Type} : Lit × DataW H → Nat
  | (.string bytes, d) => bytes.length + uptoBulk d + 1
  | (_, d) => uptoBulk d + 1
 end
def uptoSmall : (H : Type) → List (DataW H) → Bool := fun _ ds => decide (uptoBulkAll ds ≤ 1048576)
def OpenSpec.upto (s : _root_.Go.ChangeSpec) : _root_.Go.OpenSpec := { _root_.Go.OpenSpec.ofChange s with cond := some uptoSmall }

/-- 'escrowlaw14.WireCuts', WHERE WHAT IT READS IS OF BULK AT MOST 1048576: true; the input reads as it did. -/
def wireCutsUptoRow : OpenClaim := { program := "ytddobhihjljcgaa", sum := "67e91b914db5f98cdaa7ea13ea5dea9d303768596860af2b854cceeba8fb16df", func := "escrow/escrowlaw14.WireCuts", spec := "wireCuts", unfollowed := true, recurses := true, apart := false, narrowed := true }
def WireCutsUptoSaid : Prop := wireCutsUptoRow.holds Try.pinned (OpenSpec.upto wireCutsSpec)

/-- 'escrowlaw14.WireKinds', WHERE WHAT IT READS IS OF BULK AT MOST 1048576: true; the input reads as it did. -/
def wireKindsUptoRow : OpenClaim := { program := "ytddobhihjljcgaa", sum := "67e91b914db5f98cdaa7ea13ea5dea9d303768596860af2b854cceeba8fb16df", func := "escrow/escrowlaw14.WireKinds", spec := "wireKinds", unfollowed := true, recurses := true, apart := false, narrowed := true }
def WireKindsUptoSaid : Prop := wireKindsUptoRow.holds Try.pinned (OpenSpec.upto wireKindsSpec)

/-- 'escrowlaw14.WireCmds', WHERE WHAT IT READS IS OF BULK AT MOST 1048576: true; the input reads as it did. -/
def wireCmdsUptoRow : OpenClaim := { program := "ytddobhihjljcgaa", sum := "67e91b914db5f98cdaa7ea13ea5dea9d303768596860af2b854cceeba8fb16df", func := "escrow/escrowlaw14.WireCmds", spec := "wireCmds", unfollowed := true, recurses := true, apart := false, narrowed := true }
def WireCmdsUptoSaid : Prop := wireCmdsUptoRow.holds Try.pinned (OpenSpec.upto wireCmdsSpec)

/-- 'escrowlaw14.WireBounds', WHERE WHAT IT READS IS OF BULK AT MOST 1048576: true; the input reads as it did. -/
def wireBoundsUptoRow : OpenClaim := { program := "ytddobhihjljcgaa", sum := "67e91b914db5f98cdaa7ea13ea5dea9d303768596860af2b854cceeba8fb16df", func := "escrow/escrowlaw14.WireBounds", spec := "wireBounds", unfollowed := true, recurses := true, apart := false, narrowed := true }
def WireBoundsUptoSaid : Prop := wireBoundsUptoRow.holds Try.pinned (OpenSpec.upto wireBoundsSpec)

/-- 'escrowlaw14.WireSames', WHERE WHAT IT READS IS OF BULK AT MOST 1048576: true; the input reads as it did. -/
def wireSamesUptoRow : OpenClaim := { program := "ytddobhihjljcgaa", sum := "67e91b914db5f98cdaa7ea13ea5dea9d303768596860af2b854cceeba8fb16df", func := "escrow/escrowlaw14.WireSames", spec := "wireSames", unfollowed := true, recurses := true, apart := false, narrowed := true }
def WireSamesUptoSaid : Prop := wireSamesUptoRow.holds Try.pinned (OpenSpec.upto wireSamesSpec)

end Rows
end Go.Proofs.Ytddobhihjljcgaa
