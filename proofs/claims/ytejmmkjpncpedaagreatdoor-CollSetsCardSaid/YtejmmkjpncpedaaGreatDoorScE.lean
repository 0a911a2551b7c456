/- Walks of schema.Up and the reference's. -/
import Derived.Test.YtejmmkjpncpedaaGreatDoorScD
import Derived.Deep.CutBlock
namespace Go.Esc
theorem isVer_iff (v : Int) : isVer v = true ↔ 1 ≤ v ∧ v ≤ 3 := by unfold isVer; rw [decide_eq_true_iff]
theorem upErr_bad {a b : Int} (h : ¬ (isVer a = true ∧ isVer b = true)) : upErr a b = 1 := if_pos h
theorem upErr_lt {a b : Int} (h : isVer a = true ∧ isVer b = true) (hl : b < a) : upErr a b = 13 := by unfold upErr; rw [if_neg (by simp [h.1, h.2]), if_pos hl]
theorem upErr_ok {a b : Int} (h : isVer a = true ∧ isVer b = true) (hl : ¬ b < a) : upErr a b = 0 := by unfold upErr; rw [if_neg (by simp [h.1, h.2]), if_neg hl]
theorem up_err (l : List UInt8) {a b : Int} (h : upErr a b ≠ 0) : up l a b = [] := if_pos h
theorem up_same (l : List UInt8) {a : Int} (h : upErr a a = 0) : up l a a = l := by unfold up; rw [if_neg (by omega), if_pos rfl]
theorem up_12 (l : List UInt8) : up l 1 2 = low l := rfl
theorem up_13 (l : List UInt8) : up l 1 3 = trim (low l) := rfl
theorem up_23 (l : List UInt8) : up l 2 3 = trim l := rfl
end Go.Esc
namespace Go.Proofs.YtejmmkjpncpedaaGreatDoor
open Go.RowKit Go.Esc
set_option linter.unusedVariables false
set_option linter.unusedSimpArgs false

set_option maxHeartbeats 2000000 in
theorem up_any (w : World) (l : List UInt8) (hl : l.length ≤ 1099511627776) (a b : Int) (ha : I64ok a) (hb : I64ok b) :
    Calls Tryz.prog 24 #[.string (str l), .int .i64 a, .int .i64 b] w fun e w' => e = .returned (.tuple #[.string (str (up l a b)), .int .i64 (upErr a b : Nat)]) ∧ Ext no w w' := by
  obtain ⟨va, hva⟩ : ∃ x, x = isVer a := ⟨_, rfl⟩
  obtain ⟨vb, hvb⟩ : ∃ x, x = isVer b := ⟨_, rfl⟩
  have Hva := Lib.hid hva
  have Hvb := Lib.hid hvb
  clear hva hvb
  have hln := low_len l
  go_enter Tryz.func24, Tryz.ntmps24
  go_wp2_with fail
  refine (sknown_any w a ha).mono ?_
  rintro e w1 ⟨rfl, rfl⟩
  rw [← Hva.out]
  cases va with
  | false =>
    have h1 := upErr_bad (a := a) (b := b) (by rw [← Hva.out]; simp)
    have Hb := Lib.hid (show upErr a b = 1 ∧ up l a b = [] from ⟨h1, up_err l (by omega)⟩)
    clear h1
    go_wp2_with fail
    go_ret2
    rw [Hb.out.1, Hb.out.2]
    exact ⟨rfl, Ext.refl _ _⟩
  | true =>
    go_wp2_with fail
    refine (sknown_any w b hb).mono ?_
    rintro e w1 ⟨rfl, rfl⟩
    rw [← Hvb.out]
    cases vb with
    | false =>
      have h1 := upErr_bad (a := a) (b := b) (by rw [← Hvb.out]; simp)
      have Hb := Lib.hid (show upErr a b = 1 ∧ up l a b = [] from ⟨h1, up_err l (by omega)⟩)
      clear h1
      go_wp2_with fail
      go_ret2
      rw [Hb.out.1, Hb.out.2]
      exact ⟨rfl, Ext.refl _ _⟩
    | true =>
      obtain ⟨ha1, ha2⟩ := (isVer_iff a).1 Hva.out.symm
      obtain ⟨hb1, hb2⟩ := (isVer_iff b).1 Hvb.out.symm
      by_cases hlt : b < a
      · have d1 : decide (b < a) = true := decT hlt
        have h1 := upErr_lt ⟨Hva.out.symm, Hvb.out.symm⟩ hlt
        have Hb := Lib.hid (show upErr a b = 13 ∧ up l a b = [] from ⟨h1, up_err l (by omega)⟩)
        clear h1
        go_wp2_with fail
        go_ret2
        rw [Hb.out.1, Hb.out.2]
        exact ⟨rfl, Ext.refl _ _⟩
      have d1 : decide (b < a) = false := decF hlt
      have h0 := upErr_ok ⟨Hva.out.symm, Hvb.out.symm⟩ hlt
      by_cases hab : a = b
      · have Hb := Lib.hid (show upErr a b = 0 ∧ up l a b = l from ⟨h0, by rw [← hab] at h0 ⊢; exact up_same l h0⟩)
        have d2 : (a == b) = true := by rw [beq_iff_eq]; exact hab
        clear h0 hab
        go_wp2_with fail
        go_ret2
        rw [Hb.out.1, Hb.out.2]
        exact ⟨rfl, Ext.refl _ _⟩
      have d2 : (a == b) = false := by rw [beq_eq_false_iff_ne]; exact hab
      rcases (show (a = 1 ∧ b = 2) ∨ (a = 1 ∧ b = 3) ∨ (a = 2 ∧ b = 3) by omega) with ⟨rfl, rfl⟩ | ⟨rfl, rfl⟩ | ⟨rfl, rfl⟩
      · have Hb := Lib.hid (show upErr 1 2 = 0 ∧ up l 1 2 = low l from ⟨h0, rfl⟩)
        clear h0 hab d1 d2 hlt
        go_wp2_with fail
        refine (lower_any w l hl).mono ?_
        rintro e w2 ⟨rfl, hx⟩
        go_wp2_with fail
        go_ret2
        rw [Hb.out.1, Hb.out.2]
        exact ⟨rfl, hx⟩
      · have Hb := Lib.hid (show upErr 1 3 = 0 ∧ up l 1 3 = trim (low l) from ⟨h0, rfl⟩)
        clear h0 hab d1 d2 hlt
        go_wp2_with fail
        refine (lower_any w l hl).mono ?_
        rintro e w2 ⟨rfl, hx⟩
        go_wp2_with fail
        refine (trim_any w2 (low l) (by omega)).mono ?_
        rintro e w3 ⟨rfl, hx2⟩
        go_wp2_with fail
        go_ret2
        rw [Hb.out.1, Hb.out.2]
        exact ⟨rfl, hx.comp hx2⟩
      · have Hb := Lib.hid (show upErr 2 3 = 0 ∧ up l 2 3 = trim l from ⟨h0, rfl⟩)
        clear h0 hab d1 d2 hlt
        go_wp2_with fail
        refine (trim_any w l hl).mono ?_
        rintro e w3 ⟨rfl, hx2⟩
        go_wp2_with fail
        go_ret2
        rw [Hb.out.1, Hb.out.2]
        exact ⟨rfl, hx2⟩
end Go.Proofs.YtejmmkjpncpedaaGreatDoor
