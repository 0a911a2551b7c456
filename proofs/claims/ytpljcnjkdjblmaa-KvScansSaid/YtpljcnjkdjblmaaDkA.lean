/- A disk, in plain terms: of no program. -/
import Derived.Test.YtpljcnjkdjblmaaMk
import Derived.Test.YtpljcnjkdjblmaaPlainA
namespace Go.Esc

/-- A disk: how many operations are left till the power goes, whether that number was odd, how many were done, whether the power is gone; the log, how much of it is synced; the snapshot; the room. -/
structure DS where
  left : Nat
  odd : Nat
  done : Nat
  dead : Bool
  log : List UInt8
  synced : Nat
  snap : List UInt8
  room : Nat

def DS.new (room : Nat) : DS := ⟨0, 0, 0, false, [], 0, [], room⟩
/-- An operation is spent (the power is not gone). -/
def DS.spend (s : DS) : DS := if s.left = 1 then { s with left := 0, dead := true } else { s with left := s.left - 1, done := s.done + 1 }
def DS.append (s : DS) (b : List UInt8) : DS × Nat :=
  if s.dead = true then (s, 18) else if s.room < s.log.length + s.snap.length + b.length then (s, 17) else ({ s.spend with log := s.log ++ b }, if s.left = 1 then 18 else 0)
def DS.sync (s : DS) : DS × Nat :=
  if s.dead = true then (s, 18) else if s.left = 1 then (s.spend, 18) else ({ s.spend with synced := s.log.length }, 0)
def DS.cut (s : DS) (n : Int) : DS × Nat :=
  if s.dead = true then (s, 18) else if n < 0 ∨ (s.log.length : Int) < n then (s, 1)
  else (if s.left ≠ 1 ∨ s.odd = 0 then { s.spend with log := s.log.take n.toNat, synced := n.toNat } else s.spend, if s.left = 1 then 18 else 0)
def DS.swap (s : DS) (b : List UInt8) : DS × Nat :=
  if s.dead = true then (s, 18) else if s.room < b.length then (s, 17)
  else (if s.left ≠ 1 ∨ s.odd = 0 then { s.spend with snap := b, log := [], synced := 0 } else s.spend, if s.left = 1 then 18 else 0)
def DS.stop (s : DS) (n : Int) : DS := { s with left := n.toNat, odd := n.toNat % 2 }
/-- How many bytes stay at a crash that were not synced. -/
def DS.keeps (s : DS) (pick : Int) : Nat := (pick % ((s.log.length - s.synced + 1 : Nat) : Int)).toNat
def DS.crash (s : DS) (pick : Int) : DS := { s with left := 0, odd := 0, dead := false, log := s.log.take (s.synced + s.keeps pick), synced := s.synced + s.keeps pick }

/-- What holds of every disk. -/
structure DS.ok (s : DS) : Prop where
  sync : s.synced ≤ s.log.length
  fits : s.log.length + s.snap.length ≤ s.room
  room : s.room ≤ 16777216
  left : s.left ≤ 9223372036854775807
  odd : s.odd ≤ 1
  done : s.done ≤ 4611686018427387904

theorem DS.keeps_le (s : DS) (pick : Int) : s.keeps pick ≤ s.log.length - s.synced := by
  unfold DS.keeps
  have h1 := Int.emod_nonneg pick (show ((s.log.length - s.synced + 1 : Nat) : Int) ≠ 0 by omega)
  have h2 := Int.emod_lt_of_pos pick (show (0 : Int) < ((s.log.length - s.synced + 1 : Nat) : Int) by omega)
  omega
end Go.Esc
