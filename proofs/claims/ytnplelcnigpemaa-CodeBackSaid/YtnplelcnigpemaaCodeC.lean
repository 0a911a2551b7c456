/- Walks of the package code: Clone, Int, Text, Ints. -/
import Derived.Test.YtnplelcnigpemaaCodeB
namespace Go.Proofs.Ytnplelcnigpemaa
open Go.RowKit Go.Esc

theorem eqNil (w : World) (a : Option Addr) (n c : Nat) : (binOp .eql 24 (.slice a n c) (.slice none 0 0)).run Try.prog w = .ok (.bool a.isNone) w :=
  Lib.run_eql_slice_nil w _ _ a n c 0 0 Try.underlying24

set_option maxHeartbeats 400000 in
theorem clone_any (w : World) (a : Option Addr) (c : Nat) (l : List UInt8) (hrd : Rd w a (bs l)) (hl : l.length ≤ 70368744177664) :
    Calls Try.prog 36 #[.slice a l.length c] w fun e w' => ∃ a' c', e = .returned (.slice a' l.length c') ∧ Own w' w.heap.size a' 1 l.length c' (bs l) ∧ Ext no w w' := by
  have hq0 := eqNil w none 0 c
  have hq := eqNil w a l.length c
  cases a with
  | none =>
    have h0 : l = [] := by
      cases l with
      | nil => rfl
      | cons x xs => obtain ⟨_, h, _⟩ := hrd 0 _ rfl; cases h
    subst h0
    go_enter Try.func36, Try.ntmps36
    go_wp2_with fail
    go_ret
    exact ⟨none, 0, rfl, Own.nil _ _ _, Ext.refl _ _⟩
  | some ad =>
    have hz : Own (w.alloc (.cells #[] 5)) w.heap.size (some ⟨w.heap.size, 0, none⟩) 1 0 0 [] := Own.fresh w _ _ _ _ _ _ _ _ (Nat.le_refl _) (by simp) (Nat.le_refl _) (Nat.zero_le _) (by simp) (by simp) (.inl (Nat.le_refl _))
    go_enter Try.func36, Try.ntmps36
    go_wp2_with (at_builtin; refine wpList_append TBytes rfl rfl rfl hz rfl (hrd.alloc _) (by simp) (bs_one _) ?c1 ?c2 (by simp) ?_)
    case c1 => unfold maxLen; omega
    case c2 => omega
    intro a' c' w1 happ
    have hown := happ.own
    have hext := happ.ext
    rw [Nat.zero_add, List.nil_append] at hown
    go_wp2_with fail
    go_ret
    exact ⟨a', c', rfl, hown, Ext.ofBelow (((Below.refl _ _).alloc (Nat.le_refl _) _).trans (hz.below hext (by simp))) (Nat.le_refl _)⟩


set_option maxHeartbeats 400000 in
theorem int_any (w : World) (a : Option Addr) (c : Nat) (l : List UInt8) (n : Int) (hrd : Rd w a (bs l)) (hl : l.length ≤ 549755813888) (hn : I64ok n) :
    Calls Try.prog 14 #[.slice a l.length c, .int .i64 n] w fun e w' => ∃ a' c', e = .returned (.slice a' (l ++ encI n).length c') ∧ Own w' w.heap.size a' 1 (l ++ encI n).length c' (bs (l ++ encI n)) ∧ Ext no w w' := by
  have hz := zig_lt n hn.1 hn.2
  have hr := (row_length (zig n) hz).1
  have hf : flat [⟨a, l, c⟩, ⟨none, row (zig n), 0⟩] = l ++ encI n := by simp [flat, encI]
  have Hf := Lib.hid hf
  clear hf
  go_enter Try.func14, Try.ntmps14
  go_wp2_with fail
  refine (turned_any n w hn.1 hn.2).mono ?_
  rintro e w1 ⟨rfl, rfl⟩
  go_wp2_with fail
  refine (row_any (zig n) hz w).mono ?_
  rintro e w1 ⟨a1, c1, rfl, hown1, hext1⟩
  go_wp2_with fail
  refine (concat_any _ _ 2 [⟨a, l, c⟩, ⟨a1, row (zig n), c1⟩] (by simp) (Rd.lit w1 _ _ _) ?_ ?_).mono ?_
  · intro p hp
    simp only [List.mem_cons, List.not_mem_nil, or_false] at hp
    rcases hp with rfl | rfl
    · exact (hrd.ext hext1 (fun _ _ h => h)).alloc _
    · exact hown1.rd.alloc _
  · have : (flat [⟨a, l, c⟩, ⟨a1, row (zig n), c1⟩]).length = l.length + (row (zig n)).length := by simp [flat]
    rw [this]; omega
  · rintro e w2 ⟨a2, c2, rfl, hown2, hext2⟩
    go_wp2_with fail
    go_ret
    have hfl : flat [⟨a, l, c⟩, ⟨a1, row (zig n), c1⟩] = l ++ encI n := Hf.out
    rw [hfl] at hown2
    refine ⟨a2, c2, ?_, hown2.mono (by have := hext1.size; simp; omega), (hext1.comp (Ext.alloc no _ _)).comp hext2⟩
    rw [← hfl]; rfl
end Go.Proofs.Ytnplelcnigpemaa
