/- The reference's Text. -/
import Derived.Test.YtpljcnjkdjblmaaKvD
namespace Go.Proofs.Ytpljcnjkdjblmaa
open Go.RowKit Go.Esc
set_option linter.unusedVariables false
theorem reftext_any (w : World) (s : List UInt8) (hs : s.length ≤ maxLen) :
    Calls Try.prog 38 #[.string (str s)] w fun e w' => e = .returned (.bool (textOk s)) ∧ w = w' := by
  unfold maxLen at hs
  by_cases h40 : s.length ≤ 40
  rotate_left
  · have Hr := Lib.hid (show textOk s = false by
      cases h : textOk s with
      | false => rfl
      | true => have := ((textOk_iff s).1 h).1; omega)
    have d4 : decide ((40 : Int) < ((str s).size : Int)) = true := decT (by rw [str_size]; omega)
    go_enter Try.func38, Try.ntmps38
    go_wp2_with fail
    go_ret
    exact ⟨by rw [Hr.out]; rfl, rfl⟩
  have d4 : decide ((40 : Int) < ((str s).size : Int)) = false := decF (by rw [str_size]; omega)
  go_enter Try.func38, Try.ntmps38
  go_wp2_with fail
  go_loopw [3] (fun s6 wr => ∃ j : Nat, j ≤ s.length ∧ s6 = .int .i64 j ∧ (∀ i b, i < j → s[i]? = some b → 32 ≤ b.toNat ∧ b.toNat ≠ 127) ∧ wr = w) (fun s6 _ => s.length - (intOf s6).toNat)
  case atStart => exact ⟨0, by omega, rfl, fun i b h => absurd h (by omega), rfl⟩
  case round =>
    obtain ⟨j, hj, rfl, hgo, rfl⟩ := hrel
    by_cases hjl : j < s.length
    · obtain ⟨b, hb⟩ : ∃ b, s[j]? = some b := ⟨_, List.getElem?_eq_getElem hjl⟩
      have d1 : decide (j < (str s).size) = true := decT (by rw [str_size]; omega)
      have q1 := str_index wr s j b hb
      by_cases hlo : b.toNat < 32
      · have Hr := Lib.hid (show textOk s = false by
          cases h : textOk s with
          | false => rfl
          | true => have := ((textOk_iff s).1 h).2 j b hb; omega)
        have d2 : decide ((b.toNat : Int) < 32) = true := decT (by omega)
        go_wp2_with fail
        go_ret
        exact ⟨by rw [Hr.out]; rfl, rfl⟩
      · have d2 : decide ((b.toNat : Int) < 32) = false := decF (by omega)
        by_cases hde : b.toNat = 127
        · have Hr := Lib.hid (show textOk s = false by
            cases h : textOk s with
            | false => rfl
            | true => have := ((textOk_iff s).1 h).2 j b hb; omega)
          have Hd := Lib.hid hde
          have d3 : ((b.toNat : Int) == 127) = true := by rw [beq_iff_eq]; have := Hd.out; omega
          clear hde
          go_wp2_with fail
          go_ret
          exact ⟨by rw [Hr.out]; rfl, rfl⟩
        · have d3 : ((b.toNat : Int) == 127) = false := by rw [beq_eq_false_iff_ne]; omega
          go_wp2_with fail
          go_roundw
          case rel => exact ⟨j + 1, by omega, by go_num, fun i c hi hc => by
            by_cases e : i = j
            · subst e; rw [hb] at hc; cases hc; omega
            · exact hgo i c (by omega) hc, trivial⟩
          case measure => simp [intOf]; omega
    · have d1 : decide (j < (str s).size) = false := decF (by rw [str_size]; omega)
      have Hr := Lib.hid (show textOk s = true from (textOk_iff s).2 ⟨h40, fun i b hb => hgo i b (by have := (List.getElem?_eq_some_iff.1 hb).1; omega) hb⟩)
      skip
      go_wp2_with fail
      go_ret
      exact ⟨by rw [Hr.out]; rfl, rfl⟩


end Go.Proofs.Ytpljcnjkdjblmaa
