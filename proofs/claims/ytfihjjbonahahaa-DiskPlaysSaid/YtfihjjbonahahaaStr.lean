/- Bytes as strings; strings compared. -/
import Derived.Test.YtfihjjbonahahaaSl
namespace Go.Proofs.Ytfihjjbonahahaa
open Go.RowKit Go.Esc

theorem convStr (w : World) (a : Option Addr) (n c : Nat) (l : List UInt8) (hn : n = l.length) (h : Rd w a (bs l)) : (convert 23 9 (.slice a n c)).run Try.prog w = .ok (.string (str l)) w := by
  subst hn; exact run_string_of Try.underlying23 Try.underlying5 Try.underlying9 h
theorem toList_str (l : List UInt8) : (str l).toList = l := by rw [ByteArray.toList_eq]; rfl
theorem beqStrT {x y : List UInt8} (h : x = y) : ((str x).toList == (str y).toList) = true := by rw [toList_str, toList_str, beq_iff_eq]; exact h
theorem beqStrF {x y : List UInt8} (h : x ≠ y) : ((str x).toList == (str y).toList) = false := by rw [toList_str, toList_str, beq_eq_false_iff_ne]; exact h

end Go.Proofs.Ytfihjjbonahahaa
