/- The walk of the law SchemaSteps. -/
import Derived.Test.YtcopnpkblcgocaaDoorScL
namespace Go.Proofs.YtcopnpkblcgocaaDoor
open Go.RowKit Go.Esc
set_option linter.unusedVariables false
set_option linter.unusedSimpArgs false

set_option maxRecDepth 100000 in
set_option maxHeartbeats 4000000 in
theorem steps_walk (w : World) (l : List UInt8) (a b c : Int) (hl : l.length ≤ maxLen) (ha : I64ok a) (hb : I64ok b) (hc : I64ok c) :
    Calls Tryd.prog 3 #[.string (str l), .int .i64 a, .int .i64 b, .int .i64 c] w fun e w' => e = .returned (.bool true) ∧ Ext no w w' := by
  unfold maxLen at hl
  have hsz := str_size l
  have Ha := Lib.hid ha
  have Hb := Lib.hid hb
  have Hc := Lib.hid hc
  clear ha hb hc
  by_cases h3 : 300 < l.length
  · have d1 : decide ((300 : Int) < l.length) = true := decT (by omega)
    go_enter Tryd.func3, Tryd.ntmps3
    go_wp2_with fail
    refine (known_any w).mono ?_
    rintro e w1 ⟨rfl, hx1⟩
    go_wp2_with fail
    go_ret
    exact ⟨rfl, hx1⟩
  have d1 : decide ((300 : Int) < l.length) = false := decF (by omega)
  go_enter Tryd.func3, Tryd.ntmps3
  go_wp2_with fail
  refine (known_any w).mono ?_
  rintro e w1 ⟨rfl, hx1⟩
  go_wp2_with fail
  refine (within_any a 3 w1 (by omega) (by omega) Ha.out).mono ?_
  rintro e w2 ⟨rfl, rfl⟩
  have hA : 0 ≤ a % 3 ∧ a % 3 < 3 := by omega
  generalize a % 3 = A at *
  go_wp2_with fail
  refine (within_any b (4 - (1 + A)) w1 (by omega) (by omega) Hb.out).mono ?_
  rintro e w2 ⟨rfl, rfl⟩
  have hB1 := Int.emod_nonneg b (show 4 - (1 + A) ≠ 0 by omega)
  have hB2 := Int.emod_lt_of_pos b (show 0 < 4 - (1 + A) by omega)
  generalize b % (4 - (1 + A)) = B at *
  go_wp2_with fail
  refine (within_any c (4 - (1 + A + B)) w1 (by omega) (by omega) Hc.out).mono ?_
  rintro e w2 ⟨rfl, rfl⟩
  have hC1 := Int.emod_nonneg c (show 4 - (1 + A + B) ≠ 0 by omega)
  have hC2 := Int.emod_lt_of_pos c (show 0 < 4 - (1 + A + B) by omega)
  generalize c % (4 - (1 + A + B)) = C at *
  have Hu := Lib.hid (ups l (a := 1 + A) (b := 1 + A + B) (c := 1 + A + B + C) (by omega) (by omega) (by omega) (by omega))
  have i1 : I64ok (1 + A) := ⟨by omega, by omega⟩
  have i2 : I64ok (1 + A + B) := ⟨by omega, by omega⟩
  have i3 : I64ok (1 + A + B + C) := ⟨by omega, by omega⟩
  have I1 := Lib.hid i1
  have I2 := Lib.hid i2
  have I3 := Lib.hid i3
  clear i1 i2 i3
  go_wp2_with fail
  refine (up_any w1 l (by omega) (1 + A) (1 + A + B) I1.out I2.out).mono ?_
  rintro e w2 ⟨rfl, hx2⟩
  have hlx := up_len l (1 + A) (1 + A + B)
  rw [Hu.out.1]
  go_wp2_with fail
  refine (up_any w2 (up l (1 + A) (1 + A + B)) (by omega) (1 + A + B) (1 + A + B + C) I2.out I3.out).mono ?_
  rintro e w3 ⟨rfl, hx3⟩
  rw [Hu.out.2.1, Hu.out.2.2.2.2.1]
  go_wp2_with fail
  refine (up_any w3 l (by omega) (1 + A) (1 + A + B + C) I1.out I3.out).mono ?_
  rintro e w4 ⟨rfl, hx4⟩
  rw [Hu.out.2.2.1]
  have hlz := up_len l (1 + A) (1 + A + B + C)
  go_wp2_with fail
  refine (up_any w4 l (by omega) (1 + A) (1 + A) I1.out I1.out).mono ?_
  rintro e w5 ⟨rfl, hx5⟩
  rw [Hu.out.2.2.2.1, Hu.out.2.2.2.2.2.1]
  go_wp2_with fail
  refine (up_any w5 (up l (1 + A) (1 + A + B + C)) (by omega) (1 + A) (1 + A + B + C) I1.out I3.out).mono ?_
  rintro e w6 ⟨rfl, hx6⟩
  rw [Hu.out.2.2.1, Hu.out.2.2.2.2.2.2]
  have hx := ((((hx1.comp hx2).comp hx3).comp hx4).comp hx5).comp hx6
  generalize up l (1 + A) (1 + A + B + C) = Z at *
  have hb1 := beqStrT (rfl : Z = Z)
  have hb2 := beqStrT (rfl : l = l)
  go_wp2_with fail
  go_ret
  exact ⟨by first | rfl | simp_all, hx⟩
end Go.Proofs.YtcopnpkblcgocaaDoor
