/- Rows of records: made ones; a place for one more. -/
import Derived.Test.YtejmmkjpncpedaaGreatRowC
namespace Go.Esc
open Go.RowKit
section
variable {P : Program} {α : Type} {f : α → List Value} {k : Nat}
theorem run_make_K {t e : TypeId} {z : Value} {by' : Nat} (T : SlT P t e z k by') {k1 k2 : IntKind} {n m : Nat} (w : World) (B : Nat) (hB : B ≤ w.heap.size) (hnm : n ≤ m) (hb : by' * m ≤ 281474976710656) (h63 : m ≤ maxLen) :
    ∃ zs w', (Instr.makeSlice t (.int k1 (n : Int)) (.int k2 (m : Int))).run P w = .ok (.slice (some ⟨w.heap.size, 0, none⟩) n m) w' ∧ zs.length = n * k ∧ Own w' B (some ⟨w.heap.size, 0, none⟩) k n m zs ∧ Ext no w w' := by
  obtain ⟨i, hi, hz, hk, hbb⟩ := info_parts T.info
  have hm63 : m ≤ 9223372036854775807 := h63
  have hb' : (i.bytes : Int) * (m : Int) ≤ 281474976710656 := by
    have := Int.ofNat_le.2 hb
    rw [Int.natCast_mul] at this
    rw [hbb]
    generalize (by' : Int) * (m : Int) = q at *
    omega
  have hrun := run_make (P := P) w t e i z T.und hi hz k1 k2 n m (by omega) (by omega) hb' (by omega)
  rw [hk] at hrun
  simp only [Int.toNat_natCast] at hrun
  have hl : ((madeCells z.cells (m * k)).toList.take (n * k)).length = n * k := by
    rw [List.length_take, Array.length_toList, size_madeCells]
    have := Nat.mul_le_mul_right k hnm
    omega
  exact ⟨_, _, hrun, hl, Own.fresh w B k n m _ e (0, 0) _ hB hl hnm h63 (size_madeCells _ _) rfl (.inl (Nat.le_refl _)), Ext.alloc no w _⟩
theorem ins_place' (hk : ∀ x, (f x).length = k) (l : List α) (n : Nat) (x : α) (hn : n ≤ l.length) (zs : List Value) (hz : zs.length = k) :
    ((rows f l ++ zs).take ((n + 1) * k) ++ (rows f l).drop (n * k) ++ (rows f l ++ zs).drop ((n + 1 + (l.length - n)) * k)).take (n * k) ++ f x ++
      ((rows f l ++ zs).take ((n + 1) * k) ++ (rows f l).drop (n * k) ++ (rows f l ++ zs).drop ((n + 1 + (l.length - n)) * k)).drop ((n + 1) * k) = rows f (putAt n x l) := by
  rcases Nat.lt_or_ge n l.length with h | h
  · exact ins_place hk l n x h zs hz
  · have e : n = l.length := by omega
    subst e
    have hln : (rows f l).length = l.length * k := rows_length hk l
    have hs : (l.length + 1) * k = l.length * k + k := by rw [Nat.add_mul, Nat.one_mul]
    have h1 : (rows f l ++ zs).take ((l.length + 1) * k) = rows f l ++ zs := List.take_of_length_le (by rw [List.length_append, hln, hz]; omega)
    have h2 : (rows f l).drop (l.length * k) = [] := List.drop_eq_nil_of_le (by omega)
    have h3 : (rows f l ++ zs).drop ((l.length + 1) * k) = [] := List.drop_eq_nil_of_le (by rw [List.length_append, hln, hz]; omega)
    rw [Nat.sub_self, Nat.add_zero, h1, h2, h3, List.append_nil, List.append_nil, h3, List.append_nil]
    rw [← hln, List.take_left, ins_end]
end
end Go.Esc
