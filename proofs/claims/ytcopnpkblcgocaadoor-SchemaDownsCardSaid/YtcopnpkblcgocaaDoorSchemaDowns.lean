/- The walk of the law SchemaDowns. -/
import Derived.Test.YtcopnpkblcgocaaDoorScL
namespace Go.Proofs.YtcopnpkblcgocaaDoor
open Go.RowKit Go.Esc
set_option linter.unusedVariables false
set_option linter.unusedSimpArgs false

set_option maxRecDepth 100000 in
set_option maxHeartbeats 4000000 in
theorem downs_walk (w : World) (l : List UInt8) (a b : Int) (hl : l.length ≤ maxLen) (ha : I64ok a) (hb : I64ok b) :
    Calls Tryd.prog 7 #[.string (str l), .int .i64 a, .int .i64 b] w fun e w' => e = .returned (.bool true) ∧ Ext no w w' := by
  unfold maxLen at hl
  have hsz := str_size l
  have Ha := Lib.hid ha
  have Hb := Lib.hid hb
  clear ha hb
  have bad : ¬ (isVer a = true ∧ isVer b = true) → upErr a b = 1 ∧ up l a b = [] ∧ pickN a b = 0 := fun h => by
    have h1 := upErr_bad h
    exact ⟨h1, up_err l (by omega), if_pos (by omega)⟩
  have hbe := beqEmptyT (rfl : ([] : List UInt8) = [])
  by_cases h3 : 300 < l.length
  · have d1 : decide ((300 : Int) < l.length) = true := decT (by omega)
    go_enter Tryd.func7, Tryd.ntmps7
    go_wp2_with fail
    refine (known_any w).mono ?_
    rintro e w1 ⟨rfl, hx1⟩
    go_wp2_with fail
    go_ret
    exact ⟨rfl, hx1⟩
  have d1 : decide ((300 : Int) < l.length) = false := decF (by omega)
  go_enter Tryd.func7, Tryd.ntmps7
  go_wp2_with fail
  refine (known_any w).mono ?_
  rintro e w1 ⟨rfl, hx1⟩
  go_wp2_with fail
  refine (up_any w1 l (by omega) a b Ha.out Hb.out).mono ?_
  rintro e w2 ⟨rfl, hx2⟩
  have hx := hx1.comp hx2
  go_wp2_with fail
  refine (pick_any w2 a b Ha.out Hb.out).mono ?_
  rintro e w3 ⟨rfl, rfl⟩
  have iv : ∀ v : Int, isVer v = true ↔ 1 ≤ v ∧ v ≤ 3 := isVer_iff
  by_cases c1 : a < 1
  · have e1 : decide (a < 1) = true := decT c1
    obtain ⟨r1, r2, r3⟩ := bad (fun h => by have := (iv a).1 h.1; omega)
    rw [r1, r2, r3]
    clear bad iv r1 r2 r3
    go_wp2_with fail
    go_ret
    exact ⟨by first | rfl | simp_all, hx⟩
  have e1 : decide (a < 1) = false := decF c1
  by_cases c2 : 3 < a
  · have e2 : decide (3 < a) = true := decT c2
    obtain ⟨r1, r2, r3⟩ := bad (fun h => by have := (iv a).1 h.1; omega)
    rw [r1, r2, r3]
    clear bad iv r1 r2 r3
    go_wp2_with fail
    go_ret
    exact ⟨by first | rfl | simp_all, hx⟩
  have e2 : decide (3 < a) = false := decF c2
  by_cases c3 : b < 1
  · have e3 : decide (b < 1) = true := decT c3
    obtain ⟨r1, r2, r3⟩ := bad (fun h => by have := (iv b).1 h.2; omega)
    rw [r1, r2, r3]
    clear bad iv r1 r2 r3
    go_wp2_with fail
    go_ret
    exact ⟨by first | rfl | simp_all, hx⟩
  have e3 : decide (b < 1) = false := decF c3
  by_cases c4 : 3 < b
  · have e4 : decide (3 < b) = true := decT c4
    obtain ⟨r1, r2, r3⟩ := bad (fun h => by have := (iv b).1 h.2; omega)
    rw [r1, r2, r3]
    clear bad iv r1 r2 r3
    go_wp2_with fail
    go_ret
    exact ⟨by first | rfl | simp_all, hx⟩
  have e4 : decide (3 < b) = false := decF c4
  have hva := (iv a).2 ⟨by omega, by omega⟩
  have hvb := (iv b).2 ⟨by omega, by omega⟩
  by_cases c5 : b < a
  · have e5 : decide (b < a) = true := decT c5
    have r1 := upErr_lt ⟨hva, hvb⟩ c5
    have r2 := up_err l (show upErr a b ≠ 0 by omega)
    have r3 : pickN a b = 0 := if_pos (by omega)
    rw [r1, r2, r3]
    clear bad iv r1 r2 r3 hva hvb
    go_wp2_with fail
    go_ret
    exact ⟨by first | rfl | simp_all, hx⟩
  have e5 : decide (b < a) = false := decF c5
  have r1 := upErr_ok ⟨hva, hvb⟩ c5
  have r3 : pickN a b = a := if_neg (by omega)
  rw [r1, r3]
  clear bad iv r1 r3 hva hvb
  go_wp2_with fail
  go_ret
  exact ⟨by first | rfl | simp_all, hx⟩
end Go.Proofs.YtcopnpkblcgocaaDoor
