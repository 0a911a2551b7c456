/- Walks of the package code: Clone, Int, Text, Ints. -/
import Derived.Test.YtpljcnjkdjblmaaCodeB
namespace Go.Proofs.Ytpljcnjkdjblmaa
open Go.RowKit Go.Esc

set_option maxHeartbeats 400000 in
theorem int_any (w : World) (a : Option Addr) (c : Nat) (l : List UInt8) (n : Int) (hrd : Rd w a (bs l)) (hl : l.length ≤ 549755813888) (hn : I64ok n) :
    Calls Try.prog 54 #[.slice a l.length c, .int .i64 n] w fun e w' => ∃ a' c', e = .returned (.slice a' (l ++ encI n).length c') ∧ Own w' w.heap.size a' 1 (l ++ encI n).length c' (bs (l ++ encI n)) ∧ Ext no w w' := by
  have hz := zig_lt n hn.1 hn.2
  have hr := (row_length (zig n) hz).1
  have hf : flat [⟨a, l, c⟩, ⟨none, row (zig n), 0⟩] = l ++ encI n := by simp [flat, encI]
  have Hf := Lib.hid hf
  clear hf
  go_enter Try.func54, Try.ntmps54
  go_wp2_with fail
  refine (turned_any n w hn.1 hn.2).mono ?_
  rintro e w1 ⟨rfl, rfl⟩
  go_wp2_with fail
  refine (row_any (zig n) hz w).mono ?_
  rintro e w1 ⟨a1, c1, rfl, hown1, hext1⟩
  go_wp2_with fail
  refine (concat_any _ _ 2 [⟨a, l, c⟩, ⟨a1, row (zig n), c1⟩] (by simp) (Rd.lit w1 _ _ _) ?_ ?_).mono ?_
  · intro p hp
    simp only [List.mem_cons, List.not_mem_nil, or_false] at hp
    rcases hp with rfl | rfl
    · exact (hrd.ext hext1 (fun _ _ h => h)).alloc _
    · exact hown1.rd.alloc _
  · have : (flat [⟨a, l, c⟩, ⟨a1, row (zig n), c1⟩]).length = l.length + (row (zig n)).length := by simp [flat]
    rw [this]; omega
  · rintro e w2 ⟨a2, c2, rfl, hown2, hext2⟩
    go_wp2_with fail
    go_ret
    have hfl : flat [⟨a, l, c⟩, ⟨a1, row (zig n), c1⟩] = l ++ encI n := Hf.out
    rw [hfl] at hown2
    refine ⟨a2, c2, ?_, hown2.mono (by have := hext1.size; simp; omega), (hext1.comp (Ext.alloc no _ _)).comp hext2⟩
    rw [← hfl]; rfl
end Go.Proofs.Ytpljcnjkdjblmaa
