/- The walk of the law CodeFails. -/
import Derived.Test.YtnplelcnigpemaaCodeI
import Derived.Test.YtnplelcnigpemaaPlainC
import Derived.Test.YtnplelcnigpemaaLawA
namespace Go.Proofs.Ytnplelcnigpemaa
open Go.RowKit Go.Esc
set_option linter.unusedVariables false

theorem rInt_nil : rInt ⟨[], 0⟩ = (0, ⟨[], 8⟩) := by simp [rInt, scan]

set_option maxHeartbeats 2000000 in
theorem fails_walk (w : World) (a : Option Addr) (l : List UInt8) (c : Nat) (n1 n2 : Int) (hrd : Rd w a (bs l)) (hlc : l.length ≤ c) (hc : c ≤ maxLen) (h1 : I64ok n1) (h2 : I64ok n2) :
    Calls Try.prog 10 #[.slice a l.length c, .int .i64 n1, .int .i64 n2] w fun e w' => e = .returned (.bool true) ∧ Ext no w w' := by
  obtain ⟨k, hk, hk0, hk1⟩ : ∃ k : Int, n1 % 22 = k ∧ 0 ≤ k ∧ k < 22 := ⟨_, rfl, by omega, by omega⟩
  obtain ⟨j, hj, hj0, hj1⟩ : ∃ k : Int, n2 % 22 = k ∧ 0 ≤ k ∧ k < 22 := ⟨_, rfl, by omega, by omega⟩
  have Hk := Lib.hid hk
  have Hj := Lib.hid hj
  have H1 := Lib.hid h1
  have H2 := Lib.hid h2
  clear hk hj h1 h2
  go_enter Try.func10, Try.ntmps10
  go_wp2_with fail
  refine (known_any w).mono ?_
  rintro e w1 ⟨rfl, hext1⟩
  have hrd1 := hrd.ext hext1 (fun _ _ h => h)
  clear hrd
  go_wp2_with fail
  · go_ret
    exact ⟨rfl, hext1⟩
  refine (within_any n1 22 w1 (by omega) (by omega) H1.out).mono ?_
  rintro e w2 ⟨rfl, rfl⟩
  rw [Hk.out]
  go_wp2_with fail
  refine (within_any n2 22 w1 (by omega) (by omega) H2.out).mono ?_
  rintro e w2 ⟨rfl, rfl⟩
  rw [Hj.out]
  go_wp2_with fail
  refine (new_any w1 a c l hrd1 (by omega)).mono ?_
  rintro e w2 ⟨g, d, rfl, hr2, hg2, hd2, hx2⟩
  go_wp2_with fail
  refine (fail_any w2 g l 0 0 hr2).mono ?_
  rintro e w3 ⟨rfl, hr3, hx3⟩
  rw [show fails 0 0 = 0 from rfl] at hr3
  go_wp2_with fail
  refine (end_any w3 g ⟨l, 0⟩ hr3).mono ?_
  rintro e w4 ⟨rfl, rfl⟩
  go_wp2_with fail
  refine (fail_any w3 g l 0 (1 + k) hr3).mono ?_
  rintro e w4 ⟨rfl, hr4, hx4⟩
  rw [show fails 0 (1 + k) = 1 + k from rfl] at hr4
  go_wp2_with fail
  refine (fail_any w4 g l (1 + k) (1 + j) hr4).mono ?_
  rintro e w5 ⟨rfl, hr5, hx5⟩
  rw [show fails (1 + k) (1 + j) = 1 + k from if_neg (by omega)] at hr5
  go_wp2_with fail
  refine (rdInt_any w5 g ⟨l, 1 + k⟩ hr5).mono ?_
  rintro e w6 ⟨rfl, hr6, hx6⟩
  rw [rInt_skip (show (1 + k : Int) ≠ 0 by omega)] at hr6 ⊢
  go_wp2_with fail
  refine (rdText_any w6 g ⟨l, 1 + k⟩ hr6).mono ?_
  rintro e w7 ⟨rfl, hr7, hx7⟩
  rw [rText_skip (show (1 + k : Int) ≠ 0 by omega), show str [] = ⟨#[]⟩ from rfl] at *
  go_wp2_with fail
  refine (rdInts_any w7 g ⟨l, 1 + k⟩ hr7).mono ?_
  rintro e w8 ⟨a8, c8, rfl, hrd8, hfr8, hr8, hx8⟩
  rw [rInts_skip (show (1 + k : Int) ≠ 0 by omega)] at hr8 ⊢
  go_wp2_with fail
  refine (new_any w8 none 0 [] (Rd.nil _ _) (by simp)).mono ?_
  rintro e w9 ⟨g2, d2, rfl, hr9, hg9, hd9, hx9⟩
  have hr9' := hr8.no hx9
  have hglt := hr8.lt
  have hx29 := ((((((hx3.comp hx4).comp hx5).comp hx6).comp hx7).comp hx8).comp (hx9.mono (fun i _ h => h.elim)) : Ext (just g) w2 w9)
  have hx19 := (hext1.comp hx2).trans hx29 (fun i hi h => by have := hext1.size; simp only [Esc.just] at h; omega)
  have hsz := hx19.size
  have hsz8 : w.heap.size ≤ w8.heap.size := Nat.le_trans hext1.size (Nat.le_trans hx2.size ((((((hx3.comp hx4).comp hx5).comp hx6).comp hx7).comp hx8).size))
  clear hr2 hr3 hr4 hr5 hr6 hr7 hrd8 hfr8 hx29 hx3 hx4 hx5 hx6 hx7 hx8 hext1 hx2 hrd1
  go_wp2_with fail
  refine (rdInt_any w9 g2 ⟨[], 0⟩ hr9).mono ?_
  rintro e w10 ⟨rfl, hr10, hx10⟩
  rw [rInt_nil] at hr10 ⊢
  go_wp2_with fail
  refine (fail_any w10 g2 [] 8 (1 + j) hr10).mono ?_
  rintro e w11 ⟨rfl, hr11, hx11⟩
  rw [show fails 8 (1 + j) = 8 from rfl] at hr11
  have hx911 := hx10.comp hx11
  have hrg := hr9'.ext hx911 (fun h => by simp only [Esc.just] at h; omega) (fun i hi h => by have := (hr8.sep i hi).2; simp only [Esc.just] at h; omega)
  have hx011 := hx19.trans hx911 (fun i hi h => by simp only [Esc.just] at h; omega)
  clear hr8 hr9 hr9' hr10 hx10 hx11 hx911 hx19
  cases l with
  | nil =>
    rw [show rEnd ⟨[], 0⟩ = 0 from rfl]
    go_wp2_with fail
    refine (end_any w11 g ⟨[], 1 + k⟩ hrg).mono ?_
    rintro e w12 ⟨rfl, rfl⟩
    rw [show rEnd ⟨[], 1 + k⟩ = 1 + k from if_neg (by rintro ⟨h, _⟩; simp only at h; omega)]
    go_wp2_with fail
    refine (end_any w11 g2 ⟨[], 8⟩ hr11).mono ?_
    rintro e w12 ⟨rfl, rfl⟩
    rw [show rEnd ⟨[], 8⟩ = 8 from rfl]
    go_wp2_with fail
    go_ret
    exact ⟨rfl, hx011⟩
  | cons x l =>
    rw [show rEnd ⟨x :: l, 0⟩ = 9 from rfl]
    have hne : (((l.length : Int) + 1) == 0) = false := by rw [beq_eq_false_iff_ne]; omega
    go_wp2_with fail
    refine (end_any w11 g ⟨x :: l, 1 + k⟩ hrg).mono ?_
    rintro e w12 ⟨rfl, rfl⟩
    rw [show rEnd ⟨x :: l, 1 + k⟩ = 1 + k from if_neg (by rintro ⟨h, _⟩; simp only at h; omega)]
    go_wp2_with fail
    refine (end_any w11 g2 ⟨[], 8⟩ hr11).mono ?_
    rintro e w12 ⟨rfl, rfl⟩
    rw [show rEnd ⟨[], 8⟩ = 8 from rfl]
    go_wp2_with fail
    go_ret
    exact ⟨rfl, hx011⟩
end Go.Proofs.Ytnplelcnigpemaa
