/-
  No cell of these rows narrows 'for every input' (looked for: loops, veiled, ifaces, maps, wideKeys, modest, calm, conditions, laid).
  DERIVED. THE GIVEN ROWS OF THIS SEAT. 5 by the template 'for every input the law returns true; each argument reads behind the call as it read before'; 0 by the template 'total and deterministic' (their statements: YtbmkmbankflbpaaTotals.lean).
  GIVEN WITH THE SEED: the statements are not yours to turn. If you find one false, say at which input.
  Laid BY PROGRAM, IN A SANDBOX (cutbox-rows.mjs): the forced cells as the released guide's own fill.sh prints them over the translation e7d7e3c043746dd6… (all of the seat's roots in one cut). By AI agents, Wed Nov 11 2026. No macro, syntax, notation, axiom, sorry.
-/
import Derived.Test.YtbmkmbankflbpaaChecked
import GoSem.Claim
import GoSem.ClaimJoined
import GoSem.ClaimMapViews
import Derived.JoinedTies
import Derived.KernelRfl
namespace Go.Proofs.Ytbmkmbankflbpaa
/- THE CELL 'sum', in the pinned program and in every row, IS THE sha256 OF THE DUMP (.gsa) THAT YtbmkmbankflbpaaProg.lean LOADS. Nothing in Lean hashes anything: it is a label: what it is worth is what the hold of that sum in a sandbox is worth. -/
noncomputable def Try.pinned : Pinned := { name := "ytbmkmbankflbpaa", sum := "e7d7e3c043746dd648f5b1e31f465705e150a8b638078a554a8c3c08121334ad", checked := Try.checked }
namespace Rows
def none {H : Type} : Left H := { results := [], args := [] }

/-- 'escrowlaw4.JournalBad': WHATEVER THE INPUT: true; the input reads as it did. -/
def journalBadSpec : ChangeSpec := { name := "journalBad", fn := fun _ => fun
  | [d1, d2] => { results := [.lit (.bool true)], args := [d1, d2] }
  | _ => none }
def journalBadRow : OpenClaim := { program := "ytbmkmbankflbpaa", sum := "e7d7e3c043746dd648f5b1e31f465705e150a8b638078a554a8c3c08121334ad", func := "escrow/escrowlaw4.JournalBad", spec := "journalBad", unfollowed := true, recurses := true, apart := false }
def JournalBadSaid : Prop := journalBadRow.holds Try.pinned (OpenSpec.ofChange journalBadSpec)

/-- ITS FALSE NEIGHBOUR: 'it returns false'. Refute it at one input. -/
def journalBadWrong : ChangeSpec := { name := "journalBad", fn := fun _ => fun
  | [d1, d2] => { results := [.lit (.bool false)], args := [d1, d2] }
  | _ => none }
def JournalBadWrongFalsely : Prop := journalBadRow.holds Try.pinned (OpenSpec.ofChange journalBadWrong)

/-- 'escrowlaw4.JournalTorn': WHATEVER THE INPUT: true; the input reads as it did. -/
def journalTornSpec : ChangeSpec := { name := "journalTorn", fn := fun _ => fun
  | [d1, d2, d3] => { results := [.lit (.bool true)], args := [d1, d2, d3] }
  | _ => none }
def journalTornRow : OpenClaim := { program := "ytbmkmbankflbpaa", sum := "e7d7e3c043746dd648f5b1e31f465705e150a8b638078a554a8c3c08121334ad", func := "escrow/escrowlaw4.JournalTorn", spec := "journalTorn", unfollowed := true, recurses := true, apart := false }
def JournalTornSaid : Prop := journalTornRow.holds Try.pinned (OpenSpec.ofChange journalTornSpec)

/-- ITS FALSE NEIGHBOUR: 'it returns false'. Refute it at one input. -/
def journalTornWrong : ChangeSpec := { name := "journalTorn", fn := fun _ => fun
  | [d1, d2, d3] => { results := [.lit (.bool false)], args := [d1, d2, d3] }
  | _ => none }
def JournalTornWrongFalsely : Prop := journalTornRow.holds Try.pinned (OpenSpec.ofChange journalTornWrong)

/-- 'escrowlaw4.JournalSnaps': WHATEVER THE INPUT: true; the input reads as it did. -/
def journalSnapsSpec : ChangeSpec := { name := "journalSnaps", fn := fun _ => fun
  | [d1, d2] => { results := [.lit (.bool true)], args := [d1, d2] }
  | _ => none }
def journalSnapsRow : OpenClaim := { program := "ytbmkmbankflbpaa", sum := "e7d7e3c043746dd648f5b1e31f465705e150a8b638078a554a8c3c08121334ad", func := "escrow/escrowlaw4.JournalSnaps", spec := "journalSnaps", unfollowed := true, recurses := true, apart := false }
def JournalSnapsSaid : Prop := journalSnapsRow.holds Try.pinned (OpenSpec.ofChange journalSnapsSpec)

/-- ITS FALSE NEIGHBOUR: 'it returns false'. Refute it at one input. -/
def journalSnapsWrong : ChangeSpec := { name := "journalSnaps", fn := fun _ => fun
  | [d1, d2] => { results := [.lit (.bool false)], args := [d1, d2] }
  | _ => none }
def JournalSnapsWrongFalsely : Prop := journalSnapsRow.holds Try.pinned (OpenSpec.ofChange journalSnapsWrong)

/-- 'escrowlaw4.JournalPlays': WHATEVER THE INPUT: true; the input reads as it did. -/
def journalPlaysSpec : ChangeSpec := { name := "journalPlays", fn := fun _ => fun
  | [d1, d2] => { results := [.lit (.bool true)], args := [d1, d2] }
  | _ => none }
def journalPlaysRow : OpenClaim := { program := "ytbmkmbankflbpaa", sum := "e7d7e3c043746dd648f5b1e31f465705e150a8b638078a554a8c3c08121334ad", func := "escrow/escrowlaw4.JournalPlays", spec := "journalPlays", unfollowed := true, recurses := true, apart := false }
def JournalPlaysSaid : Prop := journalPlaysRow.holds Try.pinned (OpenSpec.ofChange journalPlaysSpec)

/-- ITS FALSE NEIGHBOUR: 'it returns false'. Refute it at one input. -/
def journalPlaysWrong : ChangeSpec := { name := "journalPlays", fn := fun _ => fun
  | [d1, d2] => { results := [.lit (.bool false)], args := [d1, d2] }
  | _ => none }
def JournalPlaysWrongFalsely : Prop := journalPlaysRow.holds Try.pinned (OpenSpec.ofChange journalPlaysWrong)

/-- 'escrowlaw4.JournalKept': WHATEVER THE INPUT: true; the input reads as it did. -/
def journalKeptSpec : ChangeSpec := { name := "journalKept", fn := fun _ => fun
  | [d1, d2, d3, d4] => { results := [.lit (.bool true)], args := [d1, d2, d3, d4] }
  | _ => none }
def journalKeptRow : OpenClaim := { program := "ytbmkmbankflbpaa", sum := "e7d7e3c043746dd648f5b1e31f465705e150a8b638078a554a8c3c08121334ad", func := "escrow/escrowlaw4.JournalKept", spec := "journalKept", unfollowed := true, recurses := true, apart := false }
def JournalKeptSaid : Prop := journalKeptRow.holds Try.pinned (OpenSpec.ofChange journalKeptSpec)

/-- ITS FALSE NEIGHBOUR: 'it returns false'. Refute it at one input. -/
def journalKeptWrong : ChangeSpec := { name := "journalKept", fn := fun _ => fun
  | [d1, d2, d3, d4] => { results := [.lit (.bool false)], args := [d1, d2, d3, d4] }
  | _ => none }
def JournalKeptWrongFalsely : Prop := journalKeptRow.holds Try.pinned (OpenSpec.ofChange journalKeptWrong)

/- THE SECOND FORM. 'bulk': how many values and letters a reading holds, each counted each time it is reached (what is shared counts as often as it is met; a slice's spare places count too). A statement '..UptoSaid' is the law's where the arguments, and the package variables that the reading takes, are together of bulk at most 1048576: NARROWER than '..Said'. Prove '..Said' where nothing that the law and all that it calls make is longer than what came in: it says more and counts as full. Else prove '..UptoSaid'. A law counts once. -/
mutual
def uptoBulk {H : Type} : DataW H → Nat
  | .lit (.string bytes) => bytes.length + 1
  | .lit _ => 1
  | .nil => 1
  | .ptr d => uptoBulk d + 1
  | .slice elems spare => uptoBulkAll elems + uptoBulkAll spare + 1
  | .agg parts => uptoBulkAll parts + 1
  | .iface _ d => uptoBulk d + 1
  | .map entries => uptoBulkEntries entries + 1
  | .held _ => 1
def uptoBulkAll {H : Type} : List (DataW H) → Nat
  | [] => 0
  | d :: r => uptoBulk d + uptoBulkAll r
def uptoBulkEntries {H : Type} : List (Lit × DataW H) → Nat
  | [] => 0
  | x :: r => uptoBulkEntry x + uptoBulkEntries r
def uptoBulkEntry {H : Type} : Lit × DataW H → Nat
  | (.string bytes, d) => bytes.length + uptoBulk d + 1
  | (_, d) => uptoBulk d + 1
 end
def uptoSmall : (H : Type) → List (DataW H) → Bool := fun _ ds => decide (uptoBulkAll ds ≤ 1048576)
def OpenSpec.upto (s : _root_.Go.ChangeSpec) : _root_.Go.OpenSpec := { _root_.Go.OpenSpec.ofChange s with cond := some uptoSmall }

/-- 'escrowlaw4.JournalBad', WHERE WHAT IT READS IS OF BULK AT MOST 1048576: true; the input reads as it did. -/
def journalBadUptoRow : OpenClaim := { program := "ytbmkmbankflbpaa", sum := "e7d7e3c043746dd648f5b1e31f465705e150a8b638078a554a8c3c08121334ad", func := "escrow/escrowlaw4.JournalBad", spec := "journalBad", unfollowed := true, recurses := true, apart := false, narrowed := true }
def JournalBadUptoSaid : Prop := journalBadUptoRow.holds Try.pinned (OpenSpec.upto journalBadSpec)

/-- 'escrowlaw4.JournalTorn', WHERE WHAT IT READS IS OF BULK AT MOST 1048576: true; the input reads as it did. -/
def journalTornUptoRow : OpenClaim := { program := "ytbmkmbankflbpaa", sum := "e7d7e3c043746dd648f5b1e31f465705e150a8b638078a554a8c3c08121334ad", func := "escrow/escrowlaw4.JournalTorn", spec := "journalTorn", unfollowed := true, recurses := true, apart := false, narrowed := true }
def JournalTornUptoSaid : Prop := journalTornUptoRow.holds Try.pinned (OpenSpec.upto journalTornSpec)

/-- 'escrowlaw4.JournalSnaps', WHERE WHAT IT READS IS OF BULK AT MOST 1048576: true; the input reads as it did. -/
def journalSnapsUptoRow : OpenClaim := { program := "ytbmkmbankflbpaa", sum := "e7d7e3c043746dd648f5b1e31f465705e150a8b638078a554a8c3c08121334ad", func := "escrow/escrowlaw4.JournalSnaps", spec := "journalSnaps", unfollowed := true, recurses := true, apart := false, narrowed := true }
def JournalSnapsUptoSaid : Prop := journalSnapsUptoRow.holds Try.pinned (OpenSpec.upto journalSnapsSpec)

/-- 'escrowlaw4.JournalPlays', WHERE WHAT IT READS IS OF BULK AT MOST 1048576: true; the input reads as it did. -/
def journalPlaysUptoRow : OpenClaim := { program := "ytbmkmbankflbpaa", sum := "e7d7e3c043746dd648f5b1e31f465705e150a8b638078a554a8c3c08121334ad", func := "escrow/escrowlaw4.JournalPlays", spec := "journalPlays", unfollowed := true, recurses := true, apart := false, narrowed := true }
def JournalPlaysUptoSaid : Prop := journalPlaysUptoRow.holds Try.pinned (OpenSpec.upto journalPlaysSpec)

/-- 'escrowlaw4.JournalKept', WHERE WHAT IT READS IS OF BULK AT MOST 1048576: true; the input reads as it did. -/
def journalKeptUptoRow : OpenClaim := { program := "ytbmkmbankflbpaa", sum := "e7d7e3c043746dd648f5b1e31f465705e150a8b638078a554a8c3c08121334ad", func := "escrow/escrowlaw4.JournalKept", spec := "journalKept", unfollowed := true, recurses := true, apart := false, narrowed := true }
def JournalKeptUptoSaid : Prop := journalKeptUptoRow.holds Try.pinned (OpenSpec.upto journalKeptSpec)

end Rows
end Go.Proofs.Ytbmkmbankflbpaa
