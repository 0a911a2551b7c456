/- All dots of an operation, plainly. -/
import Derived.Test.YtddobhihjljcgaaOpW
namespace Go.Esc
open Go.RowKit
/-- All dots, an error or none. -/
def pAll : Nat → RS → List DotR × RS
  | 0, s => ([], s)
  | n + 1, s => ((pDot s).1 :: (pAll n (pDot s).2).1, (pAll n (pDot s).2).2)
theorem pAll_err {s : RS} (h : s.e ≠ 0) : ∀ n, (pAll n s).2 = s
  | 0 => rfl
  | n + 1 => by unfold pAll; simp only; rw [pDot_err h]; exact pAll_err h n
theorem pAll_state : ∀ (n : Nat) (s : RS), (pAll n s).2 = (pDots n s).2
  | 0, s => rfl
  | n + 1, s => by
    by_cases h : s.e ≠ 0
    · rw [pAll_err h, pDots_err h]
    · unfold pAll pDots
      rw [if_neg h]
      exact pAll_state n _
theorem pAll_list : ∀ (n : Nat) (s : RS), (pDots n s).2.e = 0 → (pAll n s).1 = (pDots n s).1
  | 0, s, _ => rfl
  | n + 1, s, he => by
    by_cases h : s.e ≠ 0
    · rw [pDots_err h] at he; exact absurd he h
    · unfold pAll
      unfold pDots at he ⊢
      rw [if_neg h] at he ⊢
      simp only at he ⊢
      rw [pAll_list n _ he]
end Go.Esc
