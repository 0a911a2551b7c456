/- Bytes as strings; strings compared. -/
import Derived.Test.YtpljcnjkdjblmaaSl
import Derived.Lib.Strings
namespace Go.Proofs.Ytpljcnjkdjblmaa
open Go.RowKit Go.Esc

theorem convStr (w : World) (a : Option Addr) (n c : Nat) (l : List UInt8) (hn : n = l.length) (h : Rd w a (bs l)) : (convert 37 9 (.slice a n c)).run Try.prog w = .ok (.string (str l)) w := by
  subst hn; exact run_string_of Try.underlying37 Try.underlying5 Try.underlying9 h
theorem toList_str (l : List UInt8) : (str l).toList = l := by rw [ByteArray.toList_eq]; rfl
theorem beqStrT {x y : List UInt8} (h : x = y) : ((str x).toList == (str y).toList) = true := by rw [toList_str, toList_str, beq_iff_eq]; exact h
theorem beqStrF {x y : List UInt8} (h : x ≠ y) : ((str x).toList == (str y).toList) = false := by rw [toList_str, toList_str, beq_eq_false_iff_ne]; exact h

theorem str_take (l : List UInt8) (n : Nat) : (str l).extract 0 n = str (l.take n) := by
  rw [← str_of ((str l).extract 0 n), Lib.extract_data]
  rfl

theorem str_add (x y : List UInt8) : str x ++ str y = str (x ++ y) := by
  rw [← str_of (str x ++ str y)]
  simp [str]

theorem str_index (w : World) (s : List UInt8) (j : Nat) (b : UInt8) (h : s[j]? = some b) : (Instr.index 9 (.string (str s)) (.int .i64 j)).run Try.prog w = .ok (.int .u8 b.toNat) w := by
  obtain ⟨hj, hb⟩ := List.getElem?_eq_some_iff.1 h
  rw [run_index_string w _ _ _ _ Try.underlying9, dif_pos ⟨by omega, by rw [str_size]; omega⟩]
  simp only [Int.toNat_natCast]
  rw [← hb]; rfl
theorem beqEmptyT {x : List UInt8} (h : x = []) : (str x).toList.isEmpty = true := by rw [toList_str, h]; rfl
theorem beqEmptyF {x : List UInt8} (h : x ≠ []) : (str x).toList.isEmpty = false := by rw [toList_str, List.isEmpty_eq_false_iff]; exact h


end Go.Proofs.Ytpljcnjkdjblmaa
