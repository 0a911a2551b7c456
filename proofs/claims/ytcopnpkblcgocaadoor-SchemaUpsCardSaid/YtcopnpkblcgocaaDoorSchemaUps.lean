/- The walk of the law SchemaUps. -/
import Derived.Test.YtcopnpkblcgocaaDoorScL
namespace Go.Proofs.YtcopnpkblcgocaaDoor
open Go.RowKit Go.Esc
set_option linter.unusedVariables false
set_option linter.unusedSimpArgs false

set_option maxRecDepth 100000 in
set_option maxHeartbeats 4000000 in
theorem ups_walk (w : World) (l : List UInt8) (a b : Int) (hl : l.length ≤ maxLen) (ha : I64ok a) (hb : I64ok b) :
    Calls Tryd.prog 6 #[.string (str l), .int .i64 a, .int .i64 b] w fun e w' => e = .returned (.bool true) ∧ Ext no w w' := by
  unfold maxLen at hl
  go_enter Tryd.func6, Tryd.ntmps6
  go_wp2_with fail
  refine (known_any w).mono ?_
  rintro e w1 ⟨rfl, hx1⟩
  have hsz := str_size l
  by_cases h3 : 300 < l.length
  · have d1 : decide ((300 : Int) < l.length) = true := decT (by omega)
    go_wp2_with fail
    go_ret
    exact ⟨rfl, hx1⟩
  have d1 : decide ((300 : Int) < l.length) = false := decF (by omega)
  go_wp2_with fail
  go_loopw [1, 2, 7] (fun s1 s2 s7 wr => ∃ (k : Nat) (a b : Int), k ≤ 2 ∧ s7 = .int .i64 k ∧ s1 = .int .i64 a ∧ s2 = .int .i64 b ∧ I64ok a ∧ I64ok b ∧ Ext no w wr) (fun _ _ s7 _ => 2 - (intOf s7).toNat)
  case atStart => exact ⟨0, a, b, by omega, rfl, rfl, rfl, ha, hb, hx1⟩
  case round =>
    clear hx1
    obtain ⟨k, a, b, hk, rfl, rfl, rfl, ha, hb, hx⟩ := hrel
    by_cases hlt : k < 2
    rotate_left
    · have e1 : decide ((k : Int) < 2) = false := decF (by omega)
      go_wp2_with fail
      go_ret
      exact ⟨rfl, hx⟩
    have e1 : decide ((k : Int) < 2) = true := decT (by omega)
    have Ha := Lib.hid ha
    have Hb := Lib.hid hb
    clear ha hb
    go_wp2_with fail
    refine (up_any wr l (by omega) a b Ha.out Hb.out).mono ?_
    rintro e w2 ⟨rfl, hx2⟩
    go_wp2_with fail
    refine (refup_any w2 l (by omega) a b Ha.out Hb.out).mono ?_
    rintro e w3 ⟨rfl, hx3⟩
    go_wp2_with fail
    refine (pick_any w3 a b Ha.out Hb.out).mono ?_
    rintro e w4 ⟨rfl, rfl⟩
    go_wp2_with fail
    refine (refpick_any w3 a b Ha.out Hb.out).mono ?_
    rintro e w4 ⟨rfl, rfl⟩
    have hbe := beqStrT (rfl : up l a b = up l a b)
    have hxe := (hx.comp hx2).comp hx3
    go_wp2_with fail
    refine (within_any a 3 w3 (by omega) (by omega) Ha.out).mono ?_
    rintro e w4 ⟨rfl, rfl⟩
    have ha3 : 0 ≤ a % 3 ∧ a % 3 < 3 := by omega
    generalize a % 3 = a' at *
    go_wp2_with fail
    refine (within_any b 3 w3 (by omega) (by omega) Hb.out).mono ?_
    rintro e w4 ⟨rfl, rfl⟩
    have hb3 : 0 ≤ b % 3 ∧ b % 3 < 3 := by omega
    generalize b % 3 = b' at *
    clear hbe
    go_wp2_with fail
    go_roundw
    case rel => exact ⟨k + 1, 1 + a', 1 + b', by omega, by go_num, rfl, rfl, ⟨by omega, by omega⟩, ⟨by omega, by omega⟩, hxe⟩
    case measure => simp [intOf]; omega
end Go.Proofs.YtcopnpkblcgocaaDoor
