/- The switch of the law JournalPlays, out of the translation. -/
import Derived.Test.YtbmkmbankflbpaaJoP
namespace Go.Proofs.Ytbmkmbankflbpaa
open Go.RowKit Go.Esc
/-- A block, found in a function's code. -/
def findB (n : Nat) : Code → Option Code
  | .block m c => if m == n then some (.block m c) else findB n c
  | .seq a b => match findB n a with
    | some c => some c
    | none => findB n b
  | .loop c => findB n c
  | .scope c => findB n c
  | .cond _ a b => match findB n a with
    | some c => some c
    | none => findB n b
  | _ => none
noncomputable def swB : Code := ((Try.f6.body.bind (findB 2)).getD .skip)

end Go.Proofs.Ytbmkmbankflbpaa
