/- Walks of strings.Trim at a blank, of versions, of Pick and the reference's. -/
import Derived.Test.YtcopnpkblcgocaaDoorScC
import Derived.Test.YtcopnpkblcgocaaDoorRegionF
namespace Go.Esc
/-- What Pick picks. -/
def pickN (a b : Int) : Int := if upErr a b ≠ 0 then 0 else a
end Go.Esc
namespace Go.Proofs.YtcopnpkblcgocaaDoor
open Go.RowKit Go.Esc
set_option linter.unusedVariables false
set_option linter.unusedSimpArgs false

set_option maxRecDepth 100000 in
set_option maxHeartbeats 1000000 in
theorem trim_any (w : World) (l : List UInt8) (hl : l.length ≤ 1099511627776) :
    Calls Tryd.prog 16 #[.string (str l), .string ⟨#[32]⟩] w fun e w' => e = .returned (.string (str (trim l))) ∧ Ext no w w' := by
  have hlr := trimR_len l
  by_cases h0 : l = []
  · have hb := beqEmptyT h0
    have hr : trim l = l := by rw [h0]; rfl
    have Hr := Lib.hid hr
    clear hr h0
    go_enter Tryd.func16, Tryd.ntmps16
    go_wp2_with fail
    go_ret
    exact ⟨by rw [Hr.out]; rfl, Ext.refl _ _⟩
  have hb := beqEmptyF h0
  clear h0
  go_enter Tryd.func16, Tryd.ntmps16
  have h32 : ((({ data := #[32] } : ByteArray)[0]'(by decide)).toNat : Int) = 32 := rfl
  go_upto_region 4 with fail
  --<A
  refine wp_region_F [] (looks []) (by kernel_rfl) ?_
  have hT0 : ∀ k, looks [] k (w.drew) := looks_all trivial
  refine wpF_take 0 (v := ?_) rfl (by kernel_rfl) (by kernel_rfl) (by kernel_rfl) (fun _ _ _ h => h) hT0 (by rfl) ?_ ?_
  rotate_left
  · (intro wq; go_simp; try with_reducible rfl)
  simp only [Act.put, List.setIfInBounds_toArray, List.set_cons_zero, List.set_cons_succ]
  refine wpF_take 1 (v := ?_) rfl (by kernel_rfl) (by kernel_rfl) (by kernel_rfl) (fun _ _ _ h => h) hT0 (by rfl) ?_ ?_
  rotate_left
  · (intro wq; go_simp; try with_reducible rfl)
  simp only [Act.put, List.setIfInBounds_toArray, List.set_cons_zero, List.set_cons_succ]
  refine wpF_take 2 (v := ?_) rfl (by kernel_rfl) (by kernel_rfl) (by kernel_rfl) (fun _ _ _ h => h) hT0 (by rfl) ?_ ?_
  rotate_left
  · (intro wq; go_simp; try with_reducible rfl)
  simp only [Act.put, List.setIfInBounds_toArray, List.set_cons_zero, List.set_cons_succ]
  refine wpF_call 3 (v := .string (str (trimR l))) 19 #[.string (str l), .int .u8 32] rfl (by kernel_rfl) (by kernel_rfl) (by kernel_rfl) (fun _ _ _ h => h) hT0 (by rfl) (by intro wq; go_simp; try with_reducible rfl) (fun w => right_any w l hl) ?_
  simp only [Act.put, List.setIfInBounds_toArray, List.set_cons_zero, List.set_cons_succ]
  refine wpF_take 4 (v := ?_) rfl (by kernel_rfl) (by kernel_rfl) (by kernel_rfl) (fun _ _ _ h => h) hT0 (by rfl) ?_ ?_
  rotate_left
  · (intro wq; go_simp; try with_reducible rfl)
  simp only [Act.put, List.setIfInBounds_toArray, List.set_cons_zero, List.set_cons_succ]
  refine wpF_take 5 (v := ?_) rfl (by kernel_rfl) (by kernel_rfl) (by kernel_rfl) (fun _ _ _ h => h) hT0 (by rfl) ?_ ?_
  rotate_left
  · (intro wq; go_simp; try with_reducible rfl)
  simp only [Act.put, List.setIfInBounds_toArray, List.set_cons_zero, List.set_cons_succ]
  refine wpF_call 6 (v := .string (str (trim l))) 18 #[.string (str (trimR l)), .int .u8 32] rfl (by kernel_rfl) (by kernel_rfl) (by kernel_rfl) (fun _ _ _ h => h) hT0 (by rfl) (by intro wq; go_simp; try with_reducible rfl) (fun w => left_any w (trimR l) (by omega)) ?_
  simp only [Act.put, List.setIfInBounds_toArray, List.set_cons_zero, List.set_cons_succ]
  refine wpF_take 7 (v := ?_) rfl (by kernel_rfl) (by kernel_rfl) (by kernel_rfl) (fun _ _ _ h => h) hT0 (by rfl) ?_ ?_
  rotate_left
  · (intro wq; go_simp; try with_reducible rfl)
  simp only [Act.put, List.setIfInBounds_toArray, List.set_cons_zero, List.set_cons_succ]
  refine wpF_done (by kernel_rfl) ?_ _
  go_wp2_with fail
  go_ret
  exact ⟨rfl, Ext.drew _ _⟩
  -->A

theorem sknown_any (w : World) (v : Int) (hv : I64ok v) : Calls Tryd.prog 14 #[.int .i64 v] w fun e w' => e = .returned (.bool (isVer v)) ∧ w = w' := by
  go_enter Tryd.func14, Tryd.ntmps14
  unfold isVer
  by_cases h1 : 1 ≤ v
  · have d1 : decide (1 ≤ v) = true := decT h1
    by_cases h2 : v ≤ 3
    · have d2 : decide (v ≤ 3) = true := decT h2
      rw [decT (show 1 ≤ v ∧ v ≤ 3 from ⟨h1, h2⟩)]
      go_wp2_with fail
      go_ret
      exact ⟨rfl, rfl⟩
    · have d2 : decide (v ≤ 3) = false := decF h2
      rw [decF (show ¬ (1 ≤ v ∧ v ≤ 3) from fun h => h2 h.2)]
      go_wp2_with fail
      go_ret
      exact ⟨rfl, rfl⟩
  · have d1 : decide (1 ≤ v) = false := decF h1
    rw [decF (show ¬ (1 ≤ v ∧ v ≤ 3) from fun h => h1 h.1)]
    go_wp2_with fail
    go_ret
    exact ⟨rfl, rfl⟩
theorem version_any (w : World) (v : Int) (hv : I64ok v) : Calls Tryd.prog 17 #[.int .i64 v] w fun e w' => e = .returned (.bool (isVer v)) ∧ w = w' := by
  go_enter Tryd.func17, Tryd.ntmps17
  unfold isVer
  by_cases h1 : 1 ≤ v
  · have d1 : decide (1 ≤ v) = true := decT h1
    by_cases h2 : v ≤ 3
    · have d2 : decide (v ≤ 3) = true := decT h2
      rw [decT (show 1 ≤ v ∧ v ≤ 3 from ⟨h1, h2⟩)]
      go_wp2_with fail
      go_ret
      exact ⟨rfl, rfl⟩
    · have d2 : decide (v ≤ 3) = false := decF h2
      rw [decF (show ¬ (1 ≤ v ∧ v ≤ 3) from fun h => h2 h.2)]
      go_wp2_with fail
      go_ret
      exact ⟨rfl, rfl⟩
  · have d1 : decide (1 ≤ v) = false := decF h1
    rw [decF (show ¬ (1 ≤ v ∧ v ≤ 3) from fun h => h1 h.1)]
    go_wp2_with fail
    go_ret
    exact ⟨rfl, rfl⟩
set_option maxHeartbeats 1000000 in
theorem pick_any (w : World) (a b : Int) (ha : I64ok a) (hb : I64ok b) : Calls Tryd.prog 12 #[.int .i64 a, .int .i64 b] w fun e w' => e = .returned (.tuple #[.int .i64 (pickN a b), .int .i64 (upErr a b : Nat)]) ∧ w = w' := by
  obtain ⟨va, hva⟩ : ∃ x, x = isVer a := ⟨_, rfl⟩
  obtain ⟨vb, hvb⟩ : ∃ x, x = isVer b := ⟨_, rfl⟩
  have Hva := Lib.hid hva
  have Hvb := Lib.hid hvb
  clear hva hvb
  have bad : ¬ (isVer a = true ∧ isVer b = true) → pickN a b = 0 ∧ upErr a b = 1 := fun h => by
    have h1 : upErr a b = 1 := if_pos h
    exact ⟨by unfold pickN; rw [if_pos (by omega)], h1⟩
  go_enter Tryd.func12, Tryd.ntmps12
  go_wp2_with fail
  refine (sknown_any w a ha).mono ?_
  rintro e w1 ⟨rfl, rfl⟩
  rw [← Hva.out]
  cases va with
  | false =>
    have Hb := Lib.hid (bad (by rw [← Hva.out]; simp))
    clear bad
    go_wp2_with fail
    go_ret2
    rw [Hb.out.1, Hb.out.2]
    exact ⟨rfl, rfl⟩
  | true =>
    go_wp2_with fail
    refine (sknown_any w b hb).mono ?_
    rintro e w1 ⟨rfl, rfl⟩
    rw [← Hvb.out]
    cases vb with
    | false =>
      have Hb := Lib.hid (bad (by rw [← Hvb.out]; simp))
      clear bad
      go_wp2_with fail
      go_ret2
      rw [Hb.out.1, Hb.out.2]
      exact ⟨rfl, rfl⟩
    | true =>
      clear bad
      by_cases hlt : b < a
      · have d1 : decide (b < a) = true := decT hlt
        have h13 : upErr a b = 13 := by unfold upErr; rw [if_neg (by rw [← Hva.out, ← Hvb.out]; simp), if_pos hlt]
        have Hb := Lib.hid (show pickN a b = 0 ∧ upErr a b = 13 from ⟨by unfold pickN; rw [if_pos (by omega)], h13⟩)
        clear h13
        go_wp2_with fail
        go_ret2
        rw [Hb.out.1, Hb.out.2]
        exact ⟨rfl, rfl⟩
      · have d1 : decide (b < a) = false := decF hlt
        have h0 : upErr a b = 0 := by unfold upErr; rw [if_neg (by rw [← Hva.out, ← Hvb.out]; simp), if_neg hlt]
        have Hb := Lib.hid (show pickN a b = a ∧ upErr a b = 0 from ⟨by unfold pickN; rw [if_neg (by omega)], h0⟩)
        clear h0
        go_wp2_with fail
        go_ret2
        rw [Hb.out.1, Hb.out.2]
        exact ⟨rfl, rfl⟩
set_option maxHeartbeats 1000000 in
theorem refpick_any (w : World) (a b : Int) (ha : I64ok a) (hb : I64ok b) : Calls Tryd.prog 13 #[.int .i64 a, .int .i64 b] w fun e w' => e = .returned (.tuple #[.int .i64 (pickN a b), .int .i64 (upErr a b : Nat)]) ∧ w = w' := by
  obtain ⟨va, hva⟩ : ∃ x, x = isVer a := ⟨_, rfl⟩
  obtain ⟨vb, hvb⟩ : ∃ x, x = isVer b := ⟨_, rfl⟩
  have Hva := Lib.hid hva
  have Hvb := Lib.hid hvb
  clear hva hvb
  have bad : ¬ (isVer a = true ∧ isVer b = true) → pickN a b = 0 ∧ upErr a b = 1 := fun h => by
    have h1 : upErr a b = 1 := if_pos h
    exact ⟨by unfold pickN; rw [if_pos (by omega)], h1⟩
  go_enter Tryd.func13, Tryd.ntmps13
  go_wp2_with fail
  refine (version_any w a ha).mono ?_
  rintro e w1 ⟨rfl, rfl⟩
  rw [← Hva.out]
  cases va with
  | false =>
    have Hb := Lib.hid (bad (by rw [← Hva.out]; simp))
    clear bad
    go_wp2_with fail
    go_ret2
    rw [Hb.out.1, Hb.out.2]
    exact ⟨rfl, rfl⟩
  | true =>
    go_wp2_with fail
    refine (version_any w b hb).mono ?_
    rintro e w1 ⟨rfl, rfl⟩
    rw [← Hvb.out]
    cases vb with
    | false =>
      have Hb := Lib.hid (bad (by rw [← Hvb.out]; simp))
      clear bad
      go_wp2_with fail
      go_ret2
      rw [Hb.out.1, Hb.out.2]
      exact ⟨rfl, rfl⟩
    | true =>
      clear bad
      by_cases hlt : b < a
      · have d1 : decide (b < a) = true := decT hlt
        have h13 : upErr a b = 13 := by unfold upErr; rw [if_neg (by rw [← Hva.out, ← Hvb.out]; simp), if_pos hlt]
        have Hb := Lib.hid (show pickN a b = 0 ∧ upErr a b = 13 from ⟨by unfold pickN; rw [if_pos (by omega)], h13⟩)
        clear h13
        go_wp2_with fail
        go_ret2
        rw [Hb.out.1, Hb.out.2]
        exact ⟨rfl, rfl⟩
      · have d1 : decide (b < a) = false := decF hlt
        have h0 : upErr a b = 0 := by unfold upErr; rw [if_neg (by rw [← Hva.out, ← Hvb.out]; simp), if_neg hlt]
        have Hb := Lib.hid (show pickN a b = a ∧ upErr a b = 0 from ⟨by unfold pickN; rw [if_neg (by omega)], h0⟩)
        clear h0
        go_wp2_with fail
        go_ret2
        rw [Hb.out.1, Hb.out.2]
        exact ⟨rfl, rfl⟩
end Go.Proofs.YtcopnpkblcgocaaDoor
