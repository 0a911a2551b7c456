/-
  NARROWER THAN 'FOR EVERY INPUT', by the rows' own cells (each row's printed sentence says how): SchemaSteps: laid · SchemaBytes: laid · SchemaAlike: laid · SchemaUps: laid · SchemaDowns: laid.
  DERIVED. THE GIVEN ROWS OF THIS SEAT. 5 by the template 'for every input the law returns true; each argument reads behind the call as it read before'; 0 by the template 'total and deterministic' (their statements: YtcopnpkblcgocaaDoorTotals.lean).
  GIVEN WITH THE SEED: the statements are not yours to turn. If you find one false, say at which input.
  Laid BY PROGRAM, IN A SANDBOX (cutbox-rows.mjs): the forced cells as the released guide's own fill.sh prints them over the translation 6bbcf7d513669d75… (all of the seat's roots in one cut). By AI agents, Wed Nov 11 2026. No macro, syntax, notation, axiom, sorry.
-/
import Derived.Test.YtcopnpkblcgocaaDoorChecked
import GoSem.PinnedTables
import GoSem.Claim
import GoSem.ClaimJoined
import GoSem.ClaimMapViews
import Derived.JoinedTies
import Derived.KernelRfl
namespace Go.Proofs.YtcopnpkblcgocaaDoor
/- THE CELL 'sum', in the pinned program and in every row, IS THE sha256 OF THE DUMP (.gsa) THAT YtcopnpkblcgocaaDoorProg.lean LOADS. Nothing in Lean hashes anything: it is a label: what it is worth is what the hold of that sum in a sandbox is worth. -/
noncomputable def Tryd.pinned : Pinned := { name := "ytcopnpkblcgocaadoor", sum := "6bbcf7d513669d75c45af61f138cb7759fa2a123e4d553d13970da8037d7d8d5", checked := Tryd.checked }
namespace Rows
def none {H : Type} : Left H := { results := [], args := [] }

/- WHAT THE LISTED PACKAGE-LEVEL VARIABLES READ AS WHEN THE CALL BEGINS. Each datum BY PROGRAM (the guide's laid-datum.mjs) off the statement by which the dump's own 'gosem.cut.vars' lays the variable. In a bare row this is a premise. The card (YtcopnpkblcgocaaDoorCards.lean) ties it to the program's text. -/
def laid_unicode_utf8_acceptRanges {H : Type} : DataW H := .agg [.agg [.lit (.int .u8 128), .lit (.int .u8 191)], .agg [.lit (.int .u8 160), .lit (.int .u8 191)], .agg [.lit (.int .u8 128), .lit (.int .u8 159)], .agg [.lit (.int .u8 144), .lit (.int .u8 191)], .agg [.lit (.int .u8 128), .lit (.int .u8 143)], .agg [.lit (.int .u8 0), .lit (.int .u8 0)], .agg [.lit (.int .u8 0), .lit (.int .u8 0)], .agg [.lit (.int .u8 0), .lit (.int .u8 0)], .agg [.lit (.int .u8 0), .lit (.int .u8 0)], .agg [.lit (.int .u8 0), .lit (.int .u8 0)], .agg [.lit (.int .u8 0), .lit (.int .u8 0)], .agg [.lit (.int .u8 0), .lit (.int .u8 0)], .agg [.lit (.int .u8 0), .lit (.int .u8 0)], .agg [.lit (.int .u8 0), .lit (.int .u8 0)], .agg [.lit (.int .u8 0), .lit (.int .u8 0)], .agg [.lit (.int .u8 0), .lit (.int .u8 0)]]
/-- One of Go's own tables, pinned by name: the form's constant. -/
def laid_unicode_utf8_first : DataW Unit := Go.Pinned.utf8First

/-- 'escrowlaw8.SchemaSteps': WHATEVER THE INPUT: true; the input reads as it did. -/
def schemaStepsSpec : ChangeSpec := { name := "schemaSteps", fn := fun _ => fun
  | [d1, d2, d3, d4] => { results := [.lit (.bool true)], args := [d1, d2, d3, d4] }
  | _ => none }
def schemaStepsRow : OpenClaim := { program := "ytcopnpkblcgocaadoor", sum := "6bbcf7d513669d75c45af61f138cb7759fa2a123e4d553d13970da8037d7d8d5", func := "escrow/escrowlaw8.SchemaSteps", spec := "schemaSteps", inPlace := ["internal/bytealg.IndexByteString", "internal/bytealg.IndexString"], named := ["unicode/utf8.first", "unicode/utf8.acceptRanges", "internal/bytealg.MaxLen"], apart := false, laid := [("unicode/utf8.acceptRanges", laid_unicode_utf8_acceptRanges), ("unicode/utf8.first", laid_unicode_utf8_first)] }
def SchemaStepsSaid : Prop := schemaStepsRow.holds Tryd.pinned (OpenSpec.ofChange schemaStepsSpec)

/-- ITS FALSE NEIGHBOUR: 'it returns false'. Refute it at one input. -/
def schemaStepsWrong : ChangeSpec := { name := "schemaSteps", fn := fun _ => fun
  | [d1, d2, d3, d4] => { results := [.lit (.bool false)], args := [d1, d2, d3, d4] }
  | _ => none }
def SchemaStepsWrongFalsely : Prop := schemaStepsRow.holds Tryd.pinned (OpenSpec.ofChange schemaStepsWrong)

/-- 'escrowlaw8.SchemaBytes': WHATEVER THE INPUT: true; the input reads as it did. -/
def schemaBytesSpec : ChangeSpec := { name := "schemaBytes", fn := fun _ => fun
  | [d] => { results := [.lit (.bool true)], args := [d] }
  | _ => none }
def schemaBytesRow : OpenClaim := { program := "ytcopnpkblcgocaadoor", sum := "6bbcf7d513669d75c45af61f138cb7759fa2a123e4d553d13970da8037d7d8d5", func := "escrow/escrowlaw8.SchemaBytes", spec := "schemaBytes", inPlace := ["internal/bytealg.IndexByteString", "internal/bytealg.IndexString"], named := ["unicode/utf8.first", "unicode/utf8.acceptRanges", "internal/bytealg.MaxLen"], apart := false, laid := [("unicode/utf8.acceptRanges", laid_unicode_utf8_acceptRanges), ("unicode/utf8.first", laid_unicode_utf8_first)] }
def SchemaBytesSaid : Prop := schemaBytesRow.holds Tryd.pinned (OpenSpec.ofChange schemaBytesSpec)

/-- ITS FALSE NEIGHBOUR: 'it returns false'. Refute it at one input. -/
def schemaBytesWrong : ChangeSpec := { name := "schemaBytes", fn := fun _ => fun
  | [d] => { results := [.lit (.bool false)], args := [d] }
  | _ => none }
def SchemaBytesWrongFalsely : Prop := schemaBytesRow.holds Tryd.pinned (OpenSpec.ofChange schemaBytesWrong)

/-- 'escrowlaw8.SchemaAlike': WHATEVER THE INPUT: true; the input reads as it did. -/
def schemaAlikeSpec : ChangeSpec := { name := "schemaAlike", fn := fun _ => fun
  | [d1, d2, d3] => { results := [.lit (.bool true)], args := [d1, d2, d3] }
  | _ => none }
def schemaAlikeRow : OpenClaim := { program := "ytcopnpkblcgocaadoor", sum := "6bbcf7d513669d75c45af61f138cb7759fa2a123e4d553d13970da8037d7d8d5", func := "escrow/escrowlaw8.SchemaAlike", spec := "schemaAlike", inPlace := ["internal/bytealg.IndexByteString", "internal/bytealg.IndexString"], named := ["unicode/utf8.first", "unicode/utf8.acceptRanges", "internal/bytealg.MaxLen"], apart := false, laid := [("unicode/utf8.acceptRanges", laid_unicode_utf8_acceptRanges), ("unicode/utf8.first", laid_unicode_utf8_first)] }
def SchemaAlikeSaid : Prop := schemaAlikeRow.holds Tryd.pinned (OpenSpec.ofChange schemaAlikeSpec)

/-- ITS FALSE NEIGHBOUR: 'it returns false'. Refute it at one input. -/
def schemaAlikeWrong : ChangeSpec := { name := "schemaAlike", fn := fun _ => fun
  | [d1, d2, d3] => { results := [.lit (.bool false)], args := [d1, d2, d3] }
  | _ => none }
def SchemaAlikeWrongFalsely : Prop := schemaAlikeRow.holds Tryd.pinned (OpenSpec.ofChange schemaAlikeWrong)

/-- 'escrowlaw8.SchemaUps': WHATEVER THE INPUT: true; the input reads as it did. -/
def schemaUpsSpec : ChangeSpec := { name := "schemaUps", fn := fun _ => fun
  | [d1, d2, d3] => { results := [.lit (.bool true)], args := [d1, d2, d3] }
  | _ => none }
def schemaUpsRow : OpenClaim := { program := "ytcopnpkblcgocaadoor", sum := "6bbcf7d513669d75c45af61f138cb7759fa2a123e4d553d13970da8037d7d8d5", func := "escrow/escrowlaw8.SchemaUps", spec := "schemaUps", inPlace := ["internal/bytealg.IndexByteString", "internal/bytealg.IndexString"], named := ["unicode/utf8.first", "unicode/utf8.acceptRanges", "internal/bytealg.MaxLen"], apart := false, laid := [("unicode/utf8.acceptRanges", laid_unicode_utf8_acceptRanges), ("unicode/utf8.first", laid_unicode_utf8_first)] }
def SchemaUpsSaid : Prop := schemaUpsRow.holds Tryd.pinned (OpenSpec.ofChange schemaUpsSpec)

/-- ITS FALSE NEIGHBOUR: 'it returns false'. Refute it at one input. -/
def schemaUpsWrong : ChangeSpec := { name := "schemaUps", fn := fun _ => fun
  | [d1, d2, d3] => { results := [.lit (.bool false)], args := [d1, d2, d3] }
  | _ => none }
def SchemaUpsWrongFalsely : Prop := schemaUpsRow.holds Tryd.pinned (OpenSpec.ofChange schemaUpsWrong)

/-- 'escrowlaw8.SchemaDowns': WHATEVER THE INPUT: true; the input reads as it did. -/
def schemaDownsSpec : ChangeSpec := { name := "schemaDowns", fn := fun _ => fun
  | [d1, d2, d3] => { results := [.lit (.bool true)], args := [d1, d2, d3] }
  | _ => none }
def schemaDownsRow : OpenClaim := { program := "ytcopnpkblcgocaadoor", sum := "6bbcf7d513669d75c45af61f138cb7759fa2a123e4d553d13970da8037d7d8d5", func := "escrow/escrowlaw8.SchemaDowns", spec := "schemaDowns", inPlace := ["internal/bytealg.IndexByteString", "internal/bytealg.IndexString"], named := ["unicode/utf8.first", "unicode/utf8.acceptRanges", "internal/bytealg.MaxLen"], apart := false, laid := [("unicode/utf8.acceptRanges", laid_unicode_utf8_acceptRanges), ("unicode/utf8.first", laid_unicode_utf8_first)] }
def SchemaDownsSaid : Prop := schemaDownsRow.holds Tryd.pinned (OpenSpec.ofChange schemaDownsSpec)

/-- ITS FALSE NEIGHBOUR: 'it returns false'. Refute it at one input. -/
def schemaDownsWrong : ChangeSpec := { name := "schemaDowns", fn := fun _ => fun
  | [d1, d2, d3] => { results := [.lit (.bool false)], args := [d1, d2, d3] }
  | _ => none }
def SchemaDownsWrongFalsely : Prop := schemaDownsRow.holds Tryd.pinned (OpenSpec.ofChange schemaDownsWrong)

/- THE SECOND FORM. 'bulk': how many values and letters a reading holds, each counted each time it is reached (what is shared counts as often as it is met; a slice's spare places count too). A statement '..UptoSaid' is the law's where the arguments, and the package variables that the reading takes, are together of bulk at most 1048576: NARROWER than '..Said'. Prove '..Said' where nothing that the law and all that it calls make is longer than what came in: it says more and counts as full. Else prove '..UptoSaid'. A law counts once. -/
mutual
def uptoBulk {H : Type} : DataW H → Nat
  | .lit (.string bytes) => bytes.length + 1
  | .lit _ => 1
  | .nil => 1
  | .ptr d => uptoBulk d + 1
  | .slice elems spare => uptoBulkAll elems + uptoBulkAll spare + 1
  | .agg parts => uptoBulkAll parts + 1
  | .iface _ d => uptoBulk d + 1
  | .map entries => uptoBulkEntries entries + 1
  | .held _ => 1
def uptoBulkAll {H : Type} : List (DataW H) → Nat
  | [] => 0
  | d :: r => uptoBulk d + uptoBulkAll r
def uptoBulkEntries {H : Type} : List (Lit × DataW H) → Nat
  | [] => 0
  | x :: r => uptoBulkEntry x + uptoBulkEntries r
def uptoBulkEntry {H : Type} : Lit × DataW H → Nat
  | (.string bytes, d) => bytes.length + uptoBulk d + 1
  | (_, d) => uptoBulk d + 1
 end
def uptoSmall : (H : Type) → List (DataW H) → Bool := fun _ ds => decide (uptoBulkAll ds ≤ 1048576)
def OpenSpec.upto (s : _root_.Go.ChangeSpec) : _root_.Go.OpenSpec := { _root_.Go.OpenSpec.ofChange s with cond := some uptoSmall }

/-- 'escrowlaw8.SchemaSteps', WHERE WHAT IT READS IS OF BULK AT MOST 1048576: true; the input reads as it did. -/
def schemaStepsUptoRow : OpenClaim := { program := "ytcopnpkblcgocaadoor", sum := "6bbcf7d513669d75c45af61f138cb7759fa2a123e4d553d13970da8037d7d8d5", func := "escrow/escrowlaw8.SchemaSteps", spec := "schemaSteps", inPlace := ["internal/bytealg.IndexByteString", "internal/bytealg.IndexString"], named := ["unicode/utf8.first", "unicode/utf8.acceptRanges", "internal/bytealg.MaxLen"], apart := false, laid := [("unicode/utf8.acceptRanges", laid_unicode_utf8_acceptRanges), ("unicode/utf8.first", laid_unicode_utf8_first)], narrowed := true }
def SchemaStepsUptoSaid : Prop := schemaStepsUptoRow.holds Tryd.pinned (OpenSpec.upto schemaStepsSpec)

/-- 'escrowlaw8.SchemaBytes', WHERE WHAT IT READS IS OF BULK AT MOST 1048576: true; the input reads as it did. -/
def schemaBytesUptoRow : OpenClaim := { program := "ytcopnpkblcgocaadoor", sum := "6bbcf7d513669d75c45af61f138cb7759fa2a123e4d553d13970da8037d7d8d5", func := "escrow/escrowlaw8.SchemaBytes", spec := "schemaBytes", inPlace := ["internal/bytealg.IndexByteString", "internal/bytealg.IndexString"], named := ["unicode/utf8.first", "unicode/utf8.acceptRanges", "internal/bytealg.MaxLen"], apart := false, laid := [("unicode/utf8.acceptRanges", laid_unicode_utf8_acceptRanges), ("unicode/utf8.first", laid_unicode_utf8_first)], narrowed := true }
def SchemaBytesUptoSaid : Prop := schemaBytesUptoRow.holds Tryd.pinned (OpenSpec.upto schemaBytesSpec)

/-- 'escrowlaw8.SchemaAlike', WHERE WHAT IT READS IS OF BULK AT MOST 1048576: true; the input reads as it did. -/
def schemaAlikeUptoRow : OpenClaim := { program := "ytcopnpkblcgocaadoor", sum := "6bbcf7d513669d75c45af61f138cb7759fa2a123e4d553d13970da8037d7d8d5", func := "escrow/escrowlaw8.SchemaAlike", spec := "schemaAlike", inPlace := ["internal/bytealg.IndexByteString", "internal/bytealg.IndexString"], named := ["unicode/utf8.first", "unicode/utf8.acceptRanges", "internal/bytealg.MaxLen"], apart := false, laid := [("unicode/utf8.acceptRanges", laid_unicode_utf8_acceptRanges), ("unicode/utf8.first", laid_unicode_utf8_first)], narrowed := true }
def SchemaAlikeUptoSaid : Prop := schemaAlikeUptoRow.holds Tryd.pinned (OpenSpec.upto schemaAlikeSpec)

/-- 'escrowlaw8.SchemaUps', WHERE WHAT IT READS IS OF BULK AT MOST 1048576: true; the input reads as it did. -/
def schemaUpsUptoRow : OpenClaim := { program := "ytcopnpkblcgocaadoor", sum := "6bbcf7d513669d75c45af61f138cb7759fa2a123e4d553d13970da8037d7d8d5", func := "escrow/escrowlaw8.SchemaUps", spec := "schemaUps", inPlace := ["internal/bytealg.IndexByteString", "internal/bytealg.IndexString"], named := ["unicode/utf8.first", "unicode/utf8.acceptRanges", "internal/bytealg.MaxLen"], apart := false, laid := [("unicode/utf8.acceptRanges", laid_unicode_utf8_acceptRanges), ("unicode/utf8.first", laid_unicode_utf8_first)], narrowed := true }
def SchemaUpsUptoSaid : Prop := schemaUpsUptoRow.holds Tryd.pinned (OpenSpec.upto schemaUpsSpec)

/-- 'escrowlaw8.SchemaDowns', WHERE WHAT IT READS IS OF BULK AT MOST 1048576: true; the input reads as it did. -/
def schemaDownsUptoRow : OpenClaim := { program := "ytcopnpkblcgocaadoor", sum := "6bbcf7d513669d75c45af61f138cb7759fa2a123e4d553d13970da8037d7d8d5", func := "escrow/escrowlaw8.SchemaDowns", spec := "schemaDowns", inPlace := ["internal/bytealg.IndexByteString", "internal/bytealg.IndexString"], named := ["unicode/utf8.first", "unicode/utf8.acceptRanges", "internal/bytealg.MaxLen"], apart := false, laid := [("unicode/utf8.acceptRanges", laid_unicode_utf8_acceptRanges), ("unicode/utf8.first", laid_unicode_utf8_first)], narrowed := true }
def SchemaDownsUptoSaid : Prop := schemaDownsUptoRow.holds Tryd.pinned (OpenSpec.upto schemaDownsSpec)

end Rows
end Go.Proofs.YtcopnpkblcgocaaDoor
