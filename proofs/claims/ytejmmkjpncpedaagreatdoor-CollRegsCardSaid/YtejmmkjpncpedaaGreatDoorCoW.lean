/- Arrays of numbers in memory, plainly. -/
import Derived.Test.YtejmmkjpncpedaaGreatDoorCoU
namespace Go.Esc
open Go.RowKit
set_option linter.unusedVariables false
def natC (m : Nat) (f : Nat → Nat) : List Value := (List.range m).map fun j => .int .i64 ((f j : Nat) : Int)
theorem natC_get {m : Nat} {f : Nat → Nat} {j : Nat} (h : j < m) : (natC m f)[j]? = some (.int .i64 ((f j : Nat) : Int)) := by simp [natC, h]
theorem natC_set {m : Nat} {f : Nat → Nat} {j : Nat} (_h : j < m) (v : Nat) : (natC m f).set j (.int .i64 (v : Int)) = natC m (fun i => if i = j then v else f i) := by
  apply List.ext_getElem
  · simp [natC]
  · intro i h1 h2
    have hi : i < m := by simpa [natC] using h2
    rw [List.getElem_set]
    by_cases e : j = i
    · subst e; simp [natC]
    · rw [if_neg e]; simp [natC, Ne.symm e]
theorem natC_len (m : Nat) (f : Nat → Nat) : (natC m f).length = m := by simp [natC]
theorem natC_ne {m : Nat} {f : Nat → Nat} (h : 0 < m) : natC m f ≠ [] := by
  intro e
  have := congrArg List.length e
  rw [natC_len] at this
  simp at this
  omega
theorem u8_of (n : Nat) (h : n < 256) : (((UInt8.ofNat n).toNat : Nat) : Int) = n := by rw [UInt8.toNat_ofNat_of_lt' (by simpa using h)]
theorem tdiv_ok (n : Int) (k : Nat) (hk : 0 < k) (h : I64ok n) : I64ok (n.tdiv k) := by
  unfold I64ok at *
  have h1 := Int.natAbs_tdiv n k
  have h2 : (n.natAbs / (k : Int).natAbs) ≤ n.natAbs := Nat.div_le_self _ _
  have h3 : (n.tdiv k).natAbs ≤ n.natAbs := by rw [h1]; exact h2
  by_cases hn : 0 ≤ n
  · have := Int.tdiv_nonneg hn (Int.natCast_nonneg k)
    omega
  · have : n.tdiv k ≤ 0 := by
      have := Int.tdiv_nonneg (a := -n) (b := k) (by omega) (Int.natCast_nonneg k)
      rw [Int.neg_tdiv] at this
      omega
    omega
end Go.Esc
