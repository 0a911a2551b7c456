/- Walks of strings.Trim at a blank, of versions, of Pick and the reference's. -/
import Derived.Test.YtejmmkjpncpedaaGreatDoorScC
import Derived.Test.YtejmmkjpncpedaaGreatDoorRegionF
namespace Go.Esc
/-- What Pick picks. -/
def pickN (a b : Int) : Int := if upErr a b ≠ 0 then 0 else a
end Go.Esc
namespace Go.Proofs.YtejmmkjpncpedaaGreatDoor
open Go.RowKit Go.Esc
set_option linter.unusedVariables false
set_option linter.unusedSimpArgs false

set_option maxRecDepth 100000 in
set_option maxHeartbeats 1000000 in
theorem trim_any (w : World) (l : List UInt8) (hl : l.length ≤ 1099511627776) :
    Calls Tryz.prog 57 #[.string (str l), .string ⟨#[32]⟩] w fun e w' => e = .returned (.string (str (trim l))) ∧ Ext no w w' := by
  have hlr := trimR_len l
  by_cases h0 : l = []
  · have hb := beqEmptyT h0
    have hr : trim l = l := by rw [h0]; rfl
    have Hr := Lib.hid hr
    clear hr h0
    go_enter Tryz.func57, Tryz.ntmps57
    go_wp2_with fail
    go_ret
    exact ⟨by rw [Hr.out]; rfl, Ext.refl _ _⟩
  have hb := beqEmptyF h0
  clear h0
  go_enter Tryz.func57, Tryz.ntmps57
  have h32 : ((({ data := #[32] } : ByteArray)[0]'(by decide)).toNat : Int) = 32 := rfl
  go_upto_region 4 with fail
  --<A
  refine wp_region_F [] (looks []) (by kernel_rfl) ?_
  have hT0 : ∀ k, looks [] k (w.drew) := looks_all trivial
  refine wpF_take 0 (v := ?_) rfl (by kernel_rfl) (by kernel_rfl) (by kernel_rfl) (fun _ _ _ h => h) hT0 (by rfl) ?_ ?_
  rotate_left
  · (intro wq; go_simp; try with_reducible rfl)
  simp only [Act.put, List.setIfInBounds_toArray, List.set_cons_zero, List.set_cons_succ]
  refine wpF_take 1 (v := ?_) rfl (by kernel_rfl) (by kernel_rfl) (by kernel_rfl) (fun _ _ _ h => h) hT0 (by rfl) ?_ ?_
  rotate_left
  · (intro wq; go_simp; try with_reducible rfl)
  simp only [Act.put, List.setIfInBounds_toArray, List.set_cons_zero, List.set_cons_succ]
  refine wpF_take 2 (v := ?_) rfl (by kernel_rfl) (by kernel_rfl) (by kernel_rfl) (fun _ _ _ h => h) hT0 (by rfl) ?_ ?_
  rotate_left
  · (intro wq; go_simp; try with_reducible rfl)
  simp only [Act.put, List.setIfInBounds_toArray, List.set_cons_zero, List.set_cons_succ]
  refine wpF_call 3 (v := .string (str (trimR l))) 85 #[.string (str l), .int .u8 32] rfl (by kernel_rfl) (by kernel_rfl) (by kernel_rfl) (fun _ _ _ h => h) hT0 (by rfl) (by intro wq; go_simp; try with_reducible rfl) (fun w => right_any w l hl) ?_
  simp only [Act.put, List.setIfInBounds_toArray, List.set_cons_zero, List.set_cons_succ]
  refine wpF_take 4 (v := ?_) rfl (by kernel_rfl) (by kernel_rfl) (by kernel_rfl) (fun _ _ _ h => h) hT0 (by rfl) ?_ ?_
  rotate_left
  · (intro wq; go_simp; try with_reducible rfl)
  simp only [Act.put, List.setIfInBounds_toArray, List.set_cons_zero, List.set_cons_succ]
  refine wpF_take 5 (v := ?_) rfl (by kernel_rfl) (by kernel_rfl) (by kernel_rfl) (fun _ _ _ h => h) hT0 (by rfl) ?_ ?_
  rotate_left
  · (intro wq; go_simp; try with_reducible rfl)
  simp only [Act.put, List.setIfInBounds_toArray, List.set_cons_zero, List.set_cons_succ]
  refine wpF_call 6 (v := .string (str (trim l))) 84 #[.string (str (trimR l)), .int .u8 32] rfl (by kernel_rfl) (by kernel_rfl) (by kernel_rfl) (fun _ _ _ h => h) hT0 (by rfl) (by intro wq; go_simp; try with_reducible rfl) (fun w => left_any w (trimR l) (by omega)) ?_
  simp only [Act.put, List.setIfInBounds_toArray, List.set_cons_zero, List.set_cons_succ]
  refine wpF_take 7 (v := ?_) rfl (by kernel_rfl) (by kernel_rfl) (by kernel_rfl) (fun _ _ _ h => h) hT0 (by rfl) ?_ ?_
  rotate_left
  · (intro wq; go_simp; try with_reducible rfl)
  simp only [Act.put, List.setIfInBounds_toArray, List.set_cons_zero, List.set_cons_succ]
  refine wpF_done (by kernel_rfl) ?_ _
  go_wp2_with fail
  go_ret
  exact ⟨rfl, Ext.drew _ _⟩
  -->A

theorem sknown_any (w : World) (v : Int) (hv : I64ok v) : Calls Tryz.prog 55 #[.int .i64 v] w fun e w' => e = .returned (.bool (isVer v)) ∧ w = w' := by
  go_enter Tryz.func55, Tryz.ntmps55
  unfold isVer
  by_cases h1 : 1 ≤ v
  · have d1 : decide (1 ≤ v) = true := decT h1
    by_cases h2 : v ≤ 3
    · have d2 : decide (v ≤ 3) = true := decT h2
      rw [decT (show 1 ≤ v ∧ v ≤ 3 from ⟨h1, h2⟩)]
      go_wp2_with fail
      go_ret
      exact ⟨rfl, rfl⟩
    · have d2 : decide (v ≤ 3) = false := decF h2
      rw [decF (show ¬ (1 ≤ v ∧ v ≤ 3) from fun h => h2 h.2)]
      go_wp2_with fail
      go_ret
      exact ⟨rfl, rfl⟩
  · have d1 : decide (1 ≤ v) = false := decF h1
    rw [decF (show ¬ (1 ≤ v ∧ v ≤ 3) from fun h => h1 h.1)]
    go_wp2_with fail
    go_ret
    exact ⟨rfl, rfl⟩
end Go.Proofs.YtejmmkjpncpedaaGreatDoor
