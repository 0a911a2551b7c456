/- The walk of the law CodeShort. -/
import Derived.Test.YtnplelcnigpemaaLawA

namespace Go.Proofs.Ytnplelcnigpemaa
open Go.RowKit Go.Esc

set_option maxHeartbeats 400000 in
theorem short_walk (w : World) (n k : Int) (hn : I64ok n) (hk : I64ok k) :
    Calls Try.prog 3 #[.int .i64 n, .int .i64 k] w fun e w' => e = .returned (.bool true) ∧ Ext no w w' := by
  obtain ⟨m, hm, hm63⟩ : ∃ m : Nat, k % 63 = (m : Int) ∧ m < 63 := ⟨(k % 63).toNat, by omega, by omega⟩
  have Hn := Lib.hid hn
  clear hn
  have hp1 : (1 : Int) ≤ 2 ^ m := by have : (0 : Int) < 2 ^ m := Int.pow_pos (by decide); omega
  have hp2 : (2 : Int) ^ m ≤ 4611686018427387904 := by
    have : (2 : Nat) ^ m ≤ 2 ^ 62 := Nat.pow_le_pow_right (by decide) (by omega)
    have e : ((2 : Int) ^ m) = ((2 ^ m : Nat) : Int) := by simp
    rw [e]; omega
  have hw : wrap64 (2 ^ m) = 2 ^ m := by unfold wrap64; omega
  have ha := enc_pow m
  have hb := enc_npow m
  have hc := encI_length n Hn.out
  rw [Int.zero_sub] at hb
  go_enter Try.func3, Try.ntmps3
  go_wp2_with fail
  refine (known_any w).mono ?_
  rintro e w1 ⟨rfl, hext1⟩
  go_wp2_with fail
  refine (within_any k 63 w1 (by omega) (by omega) hk).mono ?_
  rintro e w2 ⟨rfl, rfl⟩
  rw [hm]
  have Hm := Lib.hid hm
  clear hm
  go_wp2_with fail
  refine (int_any w1 none 0 [] (2 ^ m) (Rd.nil _ _) (by simp) ⟨by omega, by omega⟩).mono ?_
  rintro e w2 ⟨a2, c2, rfl, _, hext2⟩
  rw [List.nil_append, ha]
  go_wp2_with fail
  refine (int_any w2 none 0 [] (-2 ^ m) (Rd.nil _ _) (by simp) ⟨by omega, by omega⟩).mono ?_
  rintro e w3 ⟨a3, c3, rfl, _, hext3⟩
  rw [List.nil_append, hb]
  go_wp2_with fail
  refine (int_any w3 none 0 [] n (Rd.nil _ _) (by simp) Hn.out).mono ?_
  rintro e w4 ⟨a4, c4, rfl, _, hext4⟩
  rw [List.nil_append]
  go_wp2_with fail
  go_ret
  refine ⟨?_, ((hext1.comp hext2).comp hext3).comp hext4⟩
  have hd : decide (((encI n).length : Int) ≤ 10) = true := by simp; omega
  rw [← hd]; rfl
end Go.Proofs.Ytnplelcnigpemaa
