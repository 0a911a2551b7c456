/- The walk of the law OpsRows. -/
import Derived.Test.YtfelipkbbefhhaaOpL
namespace Go.Proofs.Ytfelipkbbefhhaa
open Go.RowKit Go.Esc
set_option linter.unusedVariables false

set_option maxRecDepth 100000 in
set_option maxHeartbeats 16000000 in
theorem rows_walk (w : World) (which n : Int) (hwh : I64ok which) (hn : I64ok n) :
    Calls Try.prog 4 #[.int .i64 which, .int .i64 n] w fun e w' => e = .returned (.bool true) ∧ Ext no w w' := by
  go_enter Try.func4, Try.ntmps4
  go_wp2_with fail
  refine (known_any w).mono ?_
  rintro e w1 ⟨rfl, hx1⟩
  go_wp2_with fail
  refine (within_any n 4 w1 (by omega) (by omega) hn).mono ?_
  rintro e w2 ⟨rfl, rfl⟩
  have hq : n % 4 = 0 ∨ n % 4 = 1 ∨ n % 4 = 2 ∨ n % 4 = 3 := by omega
  rcases hq with hq | hq | hq | hq <;> rw [hq] <;> clear hq
  · go_upto_region 7 with fail
    have hb := Blk.at (w1.alloc (.cells #[.int .i64 (-1), .int .i64 0, .int .i64 1, .int .i64 1000] 3)) #[.int .i64 1, .int .i64 1, .int .i64 1, .int .i64 1, .int .i64 2, .int .i64 4, .string { data := #[107] }, .string { data := #[] }, .int .i64 1, .int .i64 0, .slice none 0 0] 26 (w1.heap.size + 1) (by simp)
    have hx2 : Ext no w1 ((w1.alloc (.cells #[.int .i64 (-1), .int .i64 0, .int .i64 1, .int .i64 1000] 3)).alloc (.cells #[.int .i64 1, .int .i64 1, .int .i64 1, .int .i64 1, .int .i64 2, .int .i64 4, .string { data := #[107] }, .string { data := #[] }, .int .i64 1, .int .i64 0, .slice none 0 0] 26)) := (Ext.alloc _ _ _).comp (Ext.alloc _ _ _)
    generalize (w1.alloc (.cells #[.int .i64 (-1), .int .i64 0, .int .i64 1, .int .i64 1000] 3)).alloc (.cells #[.int .i64 1, .int .i64 1, .int .i64 1, .int .i64 1, .int .i64 2, .int .i64 4, .string { data := #[107] }, .string { data := #[] }, .int .i64 1, .int .i64 0, .slice none 0 0] 26) = w2 at *
    have hx02 := hx1.comp hx2
    have hge : w.heap.size ≤ w1.heap.size + 1 := by have := hx1.size; omega
    clear hx1 hx2
    generalize w1.heap.size + 1 = g at *
    go_wp2_with fail
    refine (within_any which 9 w2 (by omega) (by omega) hwh).mono ?_
    rintro e w3 ⟨rfl, rfl⟩
    have hc : which % 9 = 0 ∨ which % 9 = 1 ∨ which % 9 = 2 ∨ which % 9 = 3 ∨ which % 9 = 4 ∨ which % 9 = 5 ∨ which % 9 = 6 ∨ which % 9 = 7 ∨ which % 9 = 8 := by omega
    have f0 := hb.fr 0
    have f1 := hb.fr 1
    have f2 := hb.fr 2
    have f3 := hb.fr 3
    have f4 := hb.fr 4
    have f5 := hb.fr 5
    have f8 := hb.fr 8
    have f9 := hb.fr 9
    rcases hc with hc | hc | hc | hc | hc | hc | hc | hc | hc <;> rw [hc] <;> clear hc
    · have Hr := Lib.hid (show checkOp ⟨⟨4, 1, 1⟩, 1, 2, 4, [107], [], 1, 0, []⟩ = 0 by decide)
      have e0 := hb.cell 0 _ rfl
      go_upto_region 26 with fail
      have hb3 := (hb.set 0 (.int .i64 4) (by simp))
      have hx3 := (hx02.trans (Ext.setCell w2 ⟨g, 0, none⟩ (.int .i64 4) (S := just g) rfl) (fun i hi h => by simp only [Esc.just] at h; omega))
      clear hb hx02 f0 f1 f2 f3 f4 f5 f8 f9 e0
      generalize (w2.setCell ⟨g, 0, none⟩ (.int .i64 4)) = w3 at *
      have b0 := hb3.cell 0 _ rfl
      have b1 := hb3.cell 1 _ rfl
      have b2 := hb3.cell 2 _ rfl
      have b3 := hb3.cell 3 _ rfl
      have b4 := hb3.cell 4 _ rfl
      have b5 := hb3.cell 5 _ rfl
      have b6 := hb3.cell 6 _ rfl
      have b7 := hb3.cell 7 _ rfl
      have b8 := hb3.cell 8 _ rfl
      have b9 := hb3.cell 9 _ rfl
      have b10 := hb3.cell 10 _ rfl
      go_wp2_with fail
      refine (check_any w3 ⟨⟨4, 1, 1⟩, 1, 2, 4, [107], [], 1, 0, []⟩ none 0 (Rd.nil _ _) (by simp) (by unfold maxLen; simp) (by unfold maxLen; simp)).mono ?_
      rintro e w4 ⟨rfl, hx4⟩
      rw [Hr.out]
      go_wp2_with fail
      go_ret
      exact ⟨rfl, hx3.comp hx4⟩
    · have Hr := Lib.hid (show checkOp ⟨⟨1, 1073741823, 1⟩, 1, 2, 4, [107], [], 1, 0, []⟩ = 0 by decide)
      have e1 := hb.cell 1 _ rfl
      go_upto_region 26 with fail
      have hb3 := (hb.set 1 (.int .i64 1073741823) (by simp))
      have hx3 := (hx02.trans (Ext.setCell w2 ⟨g, 1, none⟩ (.int .i64 1073741823) (S := just g) rfl) (fun i hi h => by simp only [Esc.just] at h; omega))
      clear hb hx02 f0 f1 f2 f3 f4 f5 f8 f9 e1
      generalize (w2.setCell ⟨g, 1, none⟩ (.int .i64 1073741823)) = w3 at *
      have b0 := hb3.cell 0 _ rfl
      have b1 := hb3.cell 1 _ rfl
      have b2 := hb3.cell 2 _ rfl
      have b3 := hb3.cell 3 _ rfl
      have b4 := hb3.cell 4 _ rfl
      have b5 := hb3.cell 5 _ rfl
      have b6 := hb3.cell 6 _ rfl
      have b7 := hb3.cell 7 _ rfl
      have b8 := hb3.cell 8 _ rfl
      have b9 := hb3.cell 9 _ rfl
      have b10 := hb3.cell 10 _ rfl
      go_wp2_with fail
      refine (check_any w3 ⟨⟨1, 1073741823, 1⟩, 1, 2, 4, [107], [], 1, 0, []⟩ none 0 (Rd.nil _ _) (by simp) (by unfold maxLen; simp) (by unfold maxLen; simp)).mono ?_
      rintro e w4 ⟨rfl, hx4⟩
      rw [Hr.out]
      go_wp2_with fail
      go_ret
      exact ⟨rfl, hx3.comp hx4⟩
    · have Hr := Lib.hid (show checkOp ⟨⟨1, 1, 1073741823⟩, 1, 2, 4, [107], [], 1, 0, []⟩ = 0 by decide)
      have e2 := hb.cell 2 _ rfl
      go_upto_region 26 with fail
      have hb3 := (hb.set 2 (.int .i64 1073741823) (by simp))
      have hx3 := (hx02.trans (Ext.setCell w2 ⟨g, 2, none⟩ (.int .i64 1073741823) (S := just g) rfl) (fun i hi h => by simp only [Esc.just] at h; omega))
      clear hb hx02 f0 f1 f2 f3 f4 f5 f8 f9 e2
      generalize (w2.setCell ⟨g, 2, none⟩ (.int .i64 1073741823)) = w3 at *
      have b0 := hb3.cell 0 _ rfl
      have b1 := hb3.cell 1 _ rfl
      have b2 := hb3.cell 2 _ rfl
      have b3 := hb3.cell 3 _ rfl
      have b4 := hb3.cell 4 _ rfl
      have b5 := hb3.cell 5 _ rfl
      have b6 := hb3.cell 6 _ rfl
      have b7 := hb3.cell 7 _ rfl
      have b8 := hb3.cell 8 _ rfl
      have b9 := hb3.cell 9 _ rfl
      have b10 := hb3.cell 10 _ rfl
      go_wp2_with fail
      refine (check_any w3 ⟨⟨1, 1, 1073741823⟩, 1, 2, 4, [107], [], 1, 0, []⟩ none 0 (Rd.nil _ _) (by simp) (by unfold maxLen; simp) (by unfold maxLen; simp)).mono ?_
      rintro e w4 ⟨rfl, hx4⟩
      rw [Hr.out]
      go_wp2_with fail
      go_ret
      exact ⟨rfl, hx3.comp hx4⟩
    · have Hr := Lib.hid (show checkOp ⟨⟨1, 1, 1⟩, 1, 2, 4, [107], [], 1, 0, []⟩ = 0 by decide)
      have e3 := hb.cell 3 _ rfl
      go_upto_region 26 with fail
      have hb3 := (hb.set 3 (.int .i64 1) (by simp))
      have hx3 := (hx02.trans (Ext.setCell w2 ⟨g, 3, none⟩ (.int .i64 1) (S := just g) rfl) (fun i hi h => by simp only [Esc.just] at h; omega))
      clear hb hx02 f0 f1 f2 f3 f4 f5 f8 f9 e3
      generalize (w2.setCell ⟨g, 3, none⟩ (.int .i64 1)) = w3 at *
      have b0 := hb3.cell 0 _ rfl
      have b1 := hb3.cell 1 _ rfl
      have b2 := hb3.cell 2 _ rfl
      have b3 := hb3.cell 3 _ rfl
      have b4 := hb3.cell 4 _ rfl
      have b5 := hb3.cell 5 _ rfl
      have b6 := hb3.cell 6 _ rfl
      have b7 := hb3.cell 7 _ rfl
      have b8 := hb3.cell 8 _ rfl
      have b9 := hb3.cell 9 _ rfl
      have b10 := hb3.cell 10 _ rfl
      go_wp2_with fail
      refine (check_any w3 ⟨⟨1, 1, 1⟩, 1, 2, 4, [107], [], 1, 0, []⟩ none 0 (Rd.nil _ _) (by simp) (by unfold maxLen; simp) (by unfold maxLen; simp)).mono ?_
      rintro e w4 ⟨rfl, hx4⟩
      rw [Hr.out]
      go_wp2_with fail
      go_ret
      exact ⟨rfl, hx3.comp hx4⟩
    · have Hr := Lib.hid (show checkOp ⟨⟨1, 1, 1⟩, 1, 2, 4, [107], [], 1, 0, []⟩ = 0 by decide)
      have e4 := hb.cell 4 _ rfl
      go_upto_region 26 with fail
      have hb3 := (hb.set 4 (.int .i64 2) (by simp))
      have hx3 := (hx02.trans (Ext.setCell w2 ⟨g, 4, none⟩ (.int .i64 2) (S := just g) rfl) (fun i hi h => by simp only [Esc.just] at h; omega))
      clear hb hx02 f0 f1 f2 f3 f4 f5 f8 f9 e4
      generalize (w2.setCell ⟨g, 4, none⟩ (.int .i64 2)) = w3 at *
      have b0 := hb3.cell 0 _ rfl
      have b1 := hb3.cell 1 _ rfl
      have b2 := hb3.cell 2 _ rfl
      have b3 := hb3.cell 3 _ rfl
      have b4 := hb3.cell 4 _ rfl
      have b5 := hb3.cell 5 _ rfl
      have b6 := hb3.cell 6 _ rfl
      have b7 := hb3.cell 7 _ rfl
      have b8 := hb3.cell 8 _ rfl
      have b9 := hb3.cell 9 _ rfl
      have b10 := hb3.cell 10 _ rfl
      go_wp2_with fail
      refine (check_any w3 ⟨⟨1, 1, 1⟩, 1, 2, 4, [107], [], 1, 0, []⟩ none 0 (Rd.nil _ _) (by simp) (by unfold maxLen; simp) (by unfold maxLen; simp)).mono ?_
      rintro e w4 ⟨rfl, hx4⟩
      rw [Hr.out]
      go_wp2_with fail
      go_ret
      exact ⟨rfl, hx3.comp hx4⟩
    · have Hr := Lib.hid (show checkOp ⟨⟨1, 1, 1⟩, 1, 2, 4, [107], [], 1, 1099511627775, []⟩ = 0 by decide)
      have e9 := hb.cell 9 _ rfl
      go_upto_region 26 with fail
      have hb3 := (hb.set 9 (.int .i64 1099511627775) (by simp))
      have hx3 := (hx02.trans (Ext.setCell w2 ⟨g, 9, none⟩ (.int .i64 1099511627775) (S := just g) rfl) (fun i hi h => by simp only [Esc.just] at h; omega))
      clear hb hx02 f0 f1 f2 f3 f4 f5 f8 f9 e9
      generalize (w2.setCell ⟨g, 9, none⟩ (.int .i64 1099511627775)) = w3 at *
      have b0 := hb3.cell 0 _ rfl
      have b1 := hb3.cell 1 _ rfl
      have b2 := hb3.cell 2 _ rfl
      have b3 := hb3.cell 3 _ rfl
      have b4 := hb3.cell 4 _ rfl
      have b5 := hb3.cell 5 _ rfl
      have b6 := hb3.cell 6 _ rfl
      have b7 := hb3.cell 7 _ rfl
      have b8 := hb3.cell 8 _ rfl
      have b9 := hb3.cell 9 _ rfl
      have b10 := hb3.cell 10 _ rfl
      go_wp2_with fail
      refine (check_any w3 ⟨⟨1, 1, 1⟩, 1, 2, 4, [107], [], 1, 1099511627775, []⟩ none 0 (Rd.nil _ _) (by simp) (by unfold maxLen; simp) (by unfold maxLen; simp)).mono ?_
      rintro e w4 ⟨rfl, hx4⟩
      rw [Hr.out]
      go_wp2_with fail
      go_ret
      exact ⟨rfl, hx3.comp hx4⟩
    · have Hr := Lib.hid (show checkOp ⟨⟨1, 1, 1⟩, 1, 2, 4, [107], [], 1, 0, []⟩ = 0 by decide)
      have e5 := hb.cell 5 _ rfl
      go_upto_region 26 with fail
      have hb3 := (hb.set 5 (.int .i64 4) (by simp))
      have hx3 := (hx02.trans (Ext.setCell w2 ⟨g, 5, none⟩ (.int .i64 4) (S := just g) rfl) (fun i hi h => by simp only [Esc.just] at h; omega))
      clear hb hx02 f0 f1 f2 f3 f4 f5 f8 f9 e5
      generalize (w2.setCell ⟨g, 5, none⟩ (.int .i64 4)) = w3 at *
      have b0 := hb3.cell 0 _ rfl
      have b1 := hb3.cell 1 _ rfl
      have b2 := hb3.cell 2 _ rfl
      have b3 := hb3.cell 3 _ rfl
      have b4 := hb3.cell 4 _ rfl
      have b5 := hb3.cell 5 _ rfl
      have b6 := hb3.cell 6 _ rfl
      have b7 := hb3.cell 7 _ rfl
      have b8 := hb3.cell 8 _ rfl
      have b9 := hb3.cell 9 _ rfl
      have b10 := hb3.cell 10 _ rfl
      go_wp2_with fail
      refine (check_any w3 ⟨⟨1, 1, 1⟩, 1, 2, 4, [107], [], 1, 0, []⟩ none 0 (Rd.nil _ _) (by simp) (by unfold maxLen; simp) (by unfold maxLen; simp)).mono ?_
      rintro e w4 ⟨rfl, hx4⟩
      rw [Hr.out]
      go_wp2_with fail
      go_ret
      exact ⟨rfl, hx3.comp hx4⟩
    · have Hr := Lib.hid (show checkOp ⟨⟨1, 1, 1⟩, 1, 2, 4, [107], [], 1099511627775, 0, []⟩ = 0 by decide)
      have e8 := hb.cell 8 _ rfl
      go_upto_region 26 with fail
      have hb3 := (hb.set 8 (.int .i64 1099511627775) (by simp))
      have hx3 := (hx02.trans (Ext.setCell w2 ⟨g, 8, none⟩ (.int .i64 1099511627775) (S := just g) rfl) (fun i hi h => by simp only [Esc.just] at h; omega))
      clear hb hx02 f0 f1 f2 f3 f4 f5 f8 f9 e8
      generalize (w2.setCell ⟨g, 8, none⟩ (.int .i64 1099511627775)) = w3 at *
      have b0 := hb3.cell 0 _ rfl
      have b1 := hb3.cell 1 _ rfl
      have b2 := hb3.cell 2 _ rfl
      have b3 := hb3.cell 3 _ rfl
      have b4 := hb3.cell 4 _ rfl
      have b5 := hb3.cell 5 _ rfl
      have b6 := hb3.cell 6 _ rfl
      have b7 := hb3.cell 7 _ rfl
      have b8 := hb3.cell 8 _ rfl
      have b9 := hb3.cell 9 _ rfl
      have b10 := hb3.cell 10 _ rfl
      go_wp2_with fail
      refine (check_any w3 ⟨⟨1, 1, 1⟩, 1, 2, 4, [107], [], 1099511627775, 0, []⟩ none 0 (Rd.nil _ _) (by simp) (by unfold maxLen; simp) (by unfold maxLen; simp)).mono ?_
      rintro e w4 ⟨rfl, hx4⟩
      rw [Hr.out]
      go_wp2_with fail
      go_ret
      exact ⟨rfl, hx3.comp hx4⟩
    · have Hr := Lib.hid (show checkOp ⟨⟨1, 1, 1⟩, 1, 2, 5, [107], [], 998, 0, []⟩ = 0 by decide)
      have e5 := hb.cell 5 _ rfl
      have e8 := hb.cell 8 _ rfl
      have e9' := (hb.set 5 (.int .i64 5) (by simp)).cell 8 _ rfl
      have f9' := (hb.set 5 (.int .i64 5) (by simp)).fr 8
      go_upto_region 26 with fail
      have hb3 := ((hb.set 5 (.int .i64 5) (by simp)).set 8 (.int .i64 998) (by simp))
      have hx3 := ((hx02.trans (Ext.setCell w2 ⟨g, 5, none⟩ (.int .i64 5) (S := just g) rfl) (fun i hi h => by simp only [Esc.just] at h; omega)).trans (Ext.setCell (w2.setCell ⟨g, 5, none⟩ (.int .i64 5)) ⟨g, 8, none⟩ (.int .i64 998) (S := just g) rfl) (fun i hi h => by simp only [Esc.just] at h; omega))
      clear hb hx02 f0 f1 f2 f3 f4 f5 f8 f9 e5 e8 e9' f9'
      generalize ((w2.setCell ⟨g, 5, none⟩ (.int .i64 5)).setCell ⟨g, 8, none⟩ (.int .i64 998)) = w3 at *
      have b0 := hb3.cell 0 _ rfl
      have b1 := hb3.cell 1 _ rfl
      have b2 := hb3.cell 2 _ rfl
      have b3 := hb3.cell 3 _ rfl
      have b4 := hb3.cell 4 _ rfl
      have b5 := hb3.cell 5 _ rfl
      have b6 := hb3.cell 6 _ rfl
      have b7 := hb3.cell 7 _ rfl
      have b8 := hb3.cell 8 _ rfl
      have b9 := hb3.cell 9 _ rfl
      have b10 := hb3.cell 10 _ rfl
      go_wp2_with fail
      refine (check_any w3 ⟨⟨1, 1, 1⟩, 1, 2, 5, [107], [], 998, 0, []⟩ none 0 (Rd.nil _ _) (by simp) (by unfold maxLen; simp) (by unfold maxLen; simp)).mono ?_
      rintro e w4 ⟨rfl, hx4⟩
      rw [Hr.out]
      go_wp2_with fail
      go_ret
      exact ⟨rfl, hx3.comp hx4⟩
  · go_upto_region 7 with fail
    have hb := Blk.at (w1.alloc (.cells #[.int .i64 (-1), .int .i64 0, .int .i64 1, .int .i64 1000] 3)) #[.int .i64 1, .int .i64 1, .int .i64 1, .int .i64 1, .int .i64 2, .int .i64 4, .string { data := #[107] }, .string { data := #[] }, .int .i64 1, .int .i64 0, .slice none 0 0] 26 (w1.heap.size + 1) (by simp)
    have hx2 : Ext no w1 ((w1.alloc (.cells #[.int .i64 (-1), .int .i64 0, .int .i64 1, .int .i64 1000] 3)).alloc (.cells #[.int .i64 1, .int .i64 1, .int .i64 1, .int .i64 1, .int .i64 2, .int .i64 4, .string { data := #[107] }, .string { data := #[] }, .int .i64 1, .int .i64 0, .slice none 0 0] 26)) := (Ext.alloc _ _ _).comp (Ext.alloc _ _ _)
    generalize (w1.alloc (.cells #[.int .i64 (-1), .int .i64 0, .int .i64 1, .int .i64 1000] 3)).alloc (.cells #[.int .i64 1, .int .i64 1, .int .i64 1, .int .i64 1, .int .i64 2, .int .i64 4, .string { data := #[107] }, .string { data := #[] }, .int .i64 1, .int .i64 0, .slice none 0 0] 26) = w2 at *
    have hx02 := hx1.comp hx2
    have hge : w.heap.size ≤ w1.heap.size + 1 := by have := hx1.size; omega
    clear hx1 hx2
    generalize w1.heap.size + 1 = g at *
    go_wp2_with fail
    refine (within_any which 9 w2 (by omega) (by omega) hwh).mono ?_
    rintro e w3 ⟨rfl, rfl⟩
    have hc : which % 9 = 0 ∨ which % 9 = 1 ∨ which % 9 = 2 ∨ which % 9 = 3 ∨ which % 9 = 4 ∨ which % 9 = 5 ∨ which % 9 = 6 ∨ which % 9 = 7 ∨ which % 9 = 8 := by omega
    have f0 := hb.fr 0
    have f1 := hb.fr 1
    have f2 := hb.fr 2
    have f3 := hb.fr 3
    have f4 := hb.fr 4
    have f5 := hb.fr 5
    have f8 := hb.fr 8
    have f9 := hb.fr 9
    rcases hc with hc | hc | hc | hc | hc | hc | hc | hc | hc <;> rw [hc] <;> clear hc
    · have Hr := Lib.hid (show checkOp ⟨⟨5, 1, 1⟩, 1, 2, 4, [107], [], 1, 0, []⟩ = 0 by decide)
      have e0 := hb.cell 0 _ rfl
      go_upto_region 26 with fail
      have hb3 := (hb.set 0 (.int .i64 5) (by simp))
      have hx3 := (hx02.trans (Ext.setCell w2 ⟨g, 0, none⟩ (.int .i64 5) (S := just g) rfl) (fun i hi h => by simp only [Esc.just] at h; omega))
      clear hb hx02 f0 f1 f2 f3 f4 f5 f8 f9 e0
      generalize (w2.setCell ⟨g, 0, none⟩ (.int .i64 5)) = w3 at *
      have b0 := hb3.cell 0 _ rfl
      have b1 := hb3.cell 1 _ rfl
      have b2 := hb3.cell 2 _ rfl
      have b3 := hb3.cell 3 _ rfl
      have b4 := hb3.cell 4 _ rfl
      have b5 := hb3.cell 5 _ rfl
      have b6 := hb3.cell 6 _ rfl
      have b7 := hb3.cell 7 _ rfl
      have b8 := hb3.cell 8 _ rfl
      have b9 := hb3.cell 9 _ rfl
      have b10 := hb3.cell 10 _ rfl
      go_wp2_with fail
      refine (check_any w3 ⟨⟨5, 1, 1⟩, 1, 2, 4, [107], [], 1, 0, []⟩ none 0 (Rd.nil _ _) (by simp) (by unfold maxLen; simp) (by unfold maxLen; simp)).mono ?_
      rintro e w4 ⟨rfl, hx4⟩
      rw [Hr.out]
      go_wp2_with fail
      go_ret
      exact ⟨rfl, hx3.comp hx4⟩
    · have Hr := Lib.hid (show checkOp ⟨⟨1, 1073741824, 1⟩, 1, 2, 4, [107], [], 1, 0, []⟩ = 0 by decide)
      have e1 := hb.cell 1 _ rfl
      go_upto_region 26 with fail
      have hb3 := (hb.set 1 (.int .i64 1073741824) (by simp))
      have hx3 := (hx02.trans (Ext.setCell w2 ⟨g, 1, none⟩ (.int .i64 1073741824) (S := just g) rfl) (fun i hi h => by simp only [Esc.just] at h; omega))
      clear hb hx02 f0 f1 f2 f3 f4 f5 f8 f9 e1
      generalize (w2.setCell ⟨g, 1, none⟩ (.int .i64 1073741824)) = w3 at *
      have b0 := hb3.cell 0 _ rfl
      have b1 := hb3.cell 1 _ rfl
      have b2 := hb3.cell 2 _ rfl
      have b3 := hb3.cell 3 _ rfl
      have b4 := hb3.cell 4 _ rfl
      have b5 := hb3.cell 5 _ rfl
      have b6 := hb3.cell 6 _ rfl
      have b7 := hb3.cell 7 _ rfl
      have b8 := hb3.cell 8 _ rfl
      have b9 := hb3.cell 9 _ rfl
      have b10 := hb3.cell 10 _ rfl
      go_wp2_with fail
      refine (check_any w3 ⟨⟨1, 1073741824, 1⟩, 1, 2, 4, [107], [], 1, 0, []⟩ none 0 (Rd.nil _ _) (by simp) (by unfold maxLen; simp) (by unfold maxLen; simp)).mono ?_
      rintro e w4 ⟨rfl, hx4⟩
      rw [Hr.out]
      go_wp2_with fail
      go_ret
      exact ⟨rfl, hx3.comp hx4⟩
    · have Hr := Lib.hid (show checkOp ⟨⟨1, 1, 1073741824⟩, 1, 2, 4, [107], [], 1, 0, []⟩ = 0 by decide)
      have e2 := hb.cell 2 _ rfl
      go_upto_region 26 with fail
      have hb3 := (hb.set 2 (.int .i64 1073741824) (by simp))
      have hx3 := (hx02.trans (Ext.setCell w2 ⟨g, 2, none⟩ (.int .i64 1073741824) (S := just g) rfl) (fun i hi h => by simp only [Esc.just] at h; omega))
      clear hb hx02 f0 f1 f2 f3 f4 f5 f8 f9 e2
      generalize (w2.setCell ⟨g, 2, none⟩ (.int .i64 1073741824)) = w3 at *
      have b0 := hb3.cell 0 _ rfl
      have b1 := hb3.cell 1 _ rfl
      have b2 := hb3.cell 2 _ rfl
      have b3 := hb3.cell 3 _ rfl
      have b4 := hb3.cell 4 _ rfl
      have b5 := hb3.cell 5 _ rfl
      have b6 := hb3.cell 6 _ rfl
      have b7 := hb3.cell 7 _ rfl
      have b8 := hb3.cell 8 _ rfl
      have b9 := hb3.cell 9 _ rfl
      have b10 := hb3.cell 10 _ rfl
      go_wp2_with fail
      refine (check_any w3 ⟨⟨1, 1, 1073741824⟩, 1, 2, 4, [107], [], 1, 0, []⟩ none 0 (Rd.nil _ _) (by simp) (by unfold maxLen; simp) (by unfold maxLen; simp)).mono ?_
      rintro e w4 ⟨rfl, hx4⟩
      rw [Hr.out]
      go_wp2_with fail
      go_ret
      exact ⟨rfl, hx3.comp hx4⟩
    · have Hr := Lib.hid (show checkOp ⟨⟨1, 1, 1⟩, 2, 2, 4, [107], [], 1, 0, []⟩ = 0 by decide)
      have e3 := hb.cell 3 _ rfl
      go_upto_region 26 with fail
      have hb3 := (hb.set 3 (.int .i64 2) (by simp))
      have hx3 := (hx02.trans (Ext.setCell w2 ⟨g, 3, none⟩ (.int .i64 2) (S := just g) rfl) (fun i hi h => by simp only [Esc.just] at h; omega))
      clear hb hx02 f0 f1 f2 f3 f4 f5 f8 f9 e3
      generalize (w2.setCell ⟨g, 3, none⟩ (.int .i64 2)) = w3 at *
      have b0 := hb3.cell 0 _ rfl
      have b1 := hb3.cell 1 _ rfl
      have b2 := hb3.cell 2 _ rfl
      have b3 := hb3.cell 3 _ rfl
      have b4 := hb3.cell 4 _ rfl
      have b5 := hb3.cell 5 _ rfl
      have b6 := hb3.cell 6 _ rfl
      have b7 := hb3.cell 7 _ rfl
      have b8 := hb3.cell 8 _ rfl
      have b9 := hb3.cell 9 _ rfl
      have b10 := hb3.cell 10 _ rfl
      go_wp2_with fail
      refine (check_any w3 ⟨⟨1, 1, 1⟩, 2, 2, 4, [107], [], 1, 0, []⟩ none 0 (Rd.nil _ _) (by simp) (by unfold maxLen; simp) (by unfold maxLen; simp)).mono ?_
      rintro e w4 ⟨rfl, hx4⟩
      rw [Hr.out]
      go_wp2_with fail
      go_ret
      exact ⟨rfl, hx3.comp hx4⟩
    · have Hr := Lib.hid (show checkOp ⟨⟨1, 1, 1⟩, 1, 3, 4, [107], [], 1, 0, []⟩ = 0 by decide)
      have e4 := hb.cell 4 _ rfl
      go_upto_region 26 with fail
      have hb3 := (hb.set 4 (.int .i64 3) (by simp))
      have hx3 := (hx02.trans (Ext.setCell w2 ⟨g, 4, none⟩ (.int .i64 3) (S := just g) rfl) (fun i hi h => by simp only [Esc.just] at h; omega))
      clear hb hx02 f0 f1 f2 f3 f4 f5 f8 f9 e4
      generalize (w2.setCell ⟨g, 4, none⟩ (.int .i64 3)) = w3 at *
      have b0 := hb3.cell 0 _ rfl
      have b1 := hb3.cell 1 _ rfl
      have b2 := hb3.cell 2 _ rfl
      have b3 := hb3.cell 3 _ rfl
      have b4 := hb3.cell 4 _ rfl
      have b5 := hb3.cell 5 _ rfl
      have b6 := hb3.cell 6 _ rfl
      have b7 := hb3.cell 7 _ rfl
      have b8 := hb3.cell 8 _ rfl
      have b9 := hb3.cell 9 _ rfl
      have b10 := hb3.cell 10 _ rfl
      go_wp2_with fail
      refine (check_any w3 ⟨⟨1, 1, 1⟩, 1, 3, 4, [107], [], 1, 0, []⟩ none 0 (Rd.nil _ _) (by simp) (by unfold maxLen; simp) (by unfold maxLen; simp)).mono ?_
      rintro e w4 ⟨rfl, hx4⟩
      rw [Hr.out]
      go_wp2_with fail
      go_ret
      exact ⟨rfl, hx3.comp hx4⟩
    · have Hr := Lib.hid (show checkOp ⟨⟨1, 1, 1⟩, 1, 2, 4, [107], [], 1, 1099511627776, []⟩ = 0 by decide)
      have e9 := hb.cell 9 _ rfl
      go_upto_region 26 with fail
      have hb3 := (hb.set 9 (.int .i64 1099511627776) (by simp))
      have hx3 := (hx02.trans (Ext.setCell w2 ⟨g, 9, none⟩ (.int .i64 1099511627776) (S := just g) rfl) (fun i hi h => by simp only [Esc.just] at h; omega))
      clear hb hx02 f0 f1 f2 f3 f4 f5 f8 f9 e9
      generalize (w2.setCell ⟨g, 9, none⟩ (.int .i64 1099511627776)) = w3 at *
      have b0 := hb3.cell 0 _ rfl
      have b1 := hb3.cell 1 _ rfl
      have b2 := hb3.cell 2 _ rfl
      have b3 := hb3.cell 3 _ rfl
      have b4 := hb3.cell 4 _ rfl
      have b5 := hb3.cell 5 _ rfl
      have b6 := hb3.cell 6 _ rfl
      have b7 := hb3.cell 7 _ rfl
      have b8 := hb3.cell 8 _ rfl
      have b9 := hb3.cell 9 _ rfl
      have b10 := hb3.cell 10 _ rfl
      go_wp2_with fail
      refine (check_any w3 ⟨⟨1, 1, 1⟩, 1, 2, 4, [107], [], 1, 1099511627776, []⟩ none 0 (Rd.nil _ _) (by simp) (by unfold maxLen; simp) (by unfold maxLen; simp)).mono ?_
      rintro e w4 ⟨rfl, hx4⟩
      rw [Hr.out]
      go_wp2_with fail
      go_ret
      exact ⟨rfl, hx3.comp hx4⟩
    · have Hr := Lib.hid (show checkOp ⟨⟨1, 1, 1⟩, 1, 2, 5, [107], [], 1, 0, []⟩ = 0 by decide)
      have e5 := hb.cell 5 _ rfl
      go_upto_region 26 with fail
      have hb3 := (hb.set 5 (.int .i64 5) (by simp))
      have hx3 := (hx02.trans (Ext.setCell w2 ⟨g, 5, none⟩ (.int .i64 5) (S := just g) rfl) (fun i hi h => by simp only [Esc.just] at h; omega))
      clear hb hx02 f0 f1 f2 f3 f4 f5 f8 f9 e5
      generalize (w2.setCell ⟨g, 5, none⟩ (.int .i64 5)) = w3 at *
      have b0 := hb3.cell 0 _ rfl
      have b1 := hb3.cell 1 _ rfl
      have b2 := hb3.cell 2 _ rfl
      have b3 := hb3.cell 3 _ rfl
      have b4 := hb3.cell 4 _ rfl
      have b5 := hb3.cell 5 _ rfl
      have b6 := hb3.cell 6 _ rfl
      have b7 := hb3.cell 7 _ rfl
      have b8 := hb3.cell 8 _ rfl
      have b9 := hb3.cell 9 _ rfl
      have b10 := hb3.cell 10 _ rfl
      go_wp2_with fail
      refine (check_any w3 ⟨⟨1, 1, 1⟩, 1, 2, 5, [107], [], 1, 0, []⟩ none 0 (Rd.nil _ _) (by simp) (by unfold maxLen; simp) (by unfold maxLen; simp)).mono ?_
      rintro e w4 ⟨rfl, hx4⟩
      rw [Hr.out]
      go_wp2_with fail
      go_ret
      exact ⟨rfl, hx3.comp hx4⟩
    · have Hr := Lib.hid (show checkOp ⟨⟨1, 1, 1⟩, 1, 2, 4, [107], [], 1099511627776, 0, []⟩ = 0 by decide)
      have e8 := hb.cell 8 _ rfl
      go_upto_region 26 with fail
      have hb3 := (hb.set 8 (.int .i64 1099511627776) (by simp))
      have hx3 := (hx02.trans (Ext.setCell w2 ⟨g, 8, none⟩ (.int .i64 1099511627776) (S := just g) rfl) (fun i hi h => by simp only [Esc.just] at h; omega))
      clear hb hx02 f0 f1 f2 f3 f4 f5 f8 f9 e8
      generalize (w2.setCell ⟨g, 8, none⟩ (.int .i64 1099511627776)) = w3 at *
      have b0 := hb3.cell 0 _ rfl
      have b1 := hb3.cell 1 _ rfl
      have b2 := hb3.cell 2 _ rfl
      have b3 := hb3.cell 3 _ rfl
      have b4 := hb3.cell 4 _ rfl
      have b5 := hb3.cell 5 _ rfl
      have b6 := hb3.cell 6 _ rfl
      have b7 := hb3.cell 7 _ rfl
      have b8 := hb3.cell 8 _ rfl
      have b9 := hb3.cell 9 _ rfl
      have b10 := hb3.cell 10 _ rfl
      go_wp2_with fail
      refine (check_any w3 ⟨⟨1, 1, 1⟩, 1, 2, 4, [107], [], 1099511627776, 0, []⟩ none 0 (Rd.nil _ _) (by simp) (by unfold maxLen; simp) (by unfold maxLen; simp)).mono ?_
      rintro e w4 ⟨rfl, hx4⟩
      rw [Hr.out]
      go_wp2_with fail
      go_ret
      exact ⟨rfl, hx3.comp hx4⟩
    · have Hr := Lib.hid (show checkOp ⟨⟨1, 1, 1⟩, 1, 2, 5, [107], [], 999, 0, []⟩ = 0 by decide)
      have e5 := hb.cell 5 _ rfl
      have e8 := hb.cell 8 _ rfl
      have e9' := (hb.set 5 (.int .i64 5) (by simp)).cell 8 _ rfl
      have f9' := (hb.set 5 (.int .i64 5) (by simp)).fr 8
      go_upto_region 26 with fail
      have hb3 := ((hb.set 5 (.int .i64 5) (by simp)).set 8 (.int .i64 999) (by simp))
      have hx3 := ((hx02.trans (Ext.setCell w2 ⟨g, 5, none⟩ (.int .i64 5) (S := just g) rfl) (fun i hi h => by simp only [Esc.just] at h; omega)).trans (Ext.setCell (w2.setCell ⟨g, 5, none⟩ (.int .i64 5)) ⟨g, 8, none⟩ (.int .i64 999) (S := just g) rfl) (fun i hi h => by simp only [Esc.just] at h; omega))
      clear hb hx02 f0 f1 f2 f3 f4 f5 f8 f9 e5 e8 e9' f9'
      generalize ((w2.setCell ⟨g, 5, none⟩ (.int .i64 5)).setCell ⟨g, 8, none⟩ (.int .i64 999)) = w3 at *
      have b0 := hb3.cell 0 _ rfl
      have b1 := hb3.cell 1 _ rfl
      have b2 := hb3.cell 2 _ rfl
      have b3 := hb3.cell 3 _ rfl
      have b4 := hb3.cell 4 _ rfl
      have b5 := hb3.cell 5 _ rfl
      have b6 := hb3.cell 6 _ rfl
      have b7 := hb3.cell 7 _ rfl
      have b8 := hb3.cell 8 _ rfl
      have b9 := hb3.cell 9 _ rfl
      have b10 := hb3.cell 10 _ rfl
      go_wp2_with fail
      refine (check_any w3 ⟨⟨1, 1, 1⟩, 1, 2, 5, [107], [], 999, 0, []⟩ none 0 (Rd.nil _ _) (by simp) (by unfold maxLen; simp) (by unfold maxLen; simp)).mono ?_
      rintro e w4 ⟨rfl, hx4⟩
      rw [Hr.out]
      go_wp2_with fail
      go_ret
      exact ⟨rfl, hx3.comp hx4⟩
  · go_upto_region 7 with fail
    have hb := Blk.at (w1.alloc (.cells #[.int .i64 (-1), .int .i64 0, .int .i64 1, .int .i64 1000] 3)) #[.int .i64 1, .int .i64 1, .int .i64 1, .int .i64 1, .int .i64 2, .int .i64 4, .string { data := #[107] }, .string { data := #[] }, .int .i64 1, .int .i64 0, .slice none 0 0] 26 (w1.heap.size + 1) (by simp)
    have hx2 : Ext no w1 ((w1.alloc (.cells #[.int .i64 (-1), .int .i64 0, .int .i64 1, .int .i64 1000] 3)).alloc (.cells #[.int .i64 1, .int .i64 1, .int .i64 1, .int .i64 1, .int .i64 2, .int .i64 4, .string { data := #[107] }, .string { data := #[] }, .int .i64 1, .int .i64 0, .slice none 0 0] 26)) := (Ext.alloc _ _ _).comp (Ext.alloc _ _ _)
    generalize (w1.alloc (.cells #[.int .i64 (-1), .int .i64 0, .int .i64 1, .int .i64 1000] 3)).alloc (.cells #[.int .i64 1, .int .i64 1, .int .i64 1, .int .i64 1, .int .i64 2, .int .i64 4, .string { data := #[107] }, .string { data := #[] }, .int .i64 1, .int .i64 0, .slice none 0 0] 26) = w2 at *
    have hx02 := hx1.comp hx2
    have hge : w.heap.size ≤ w1.heap.size + 1 := by have := hx1.size; omega
    clear hx1 hx2
    generalize w1.heap.size + 1 = g at *
    go_wp2_with fail
    refine (within_any which 9 w2 (by omega) (by omega) hwh).mono ?_
    rintro e w3 ⟨rfl, rfl⟩
    have hc : which % 9 = 0 ∨ which % 9 = 1 ∨ which % 9 = 2 ∨ which % 9 = 3 ∨ which % 9 = 4 ∨ which % 9 = 5 ∨ which % 9 = 6 ∨ which % 9 = 7 ∨ which % 9 = 8 := by omega
    have f0 := hb.fr 0
    have f1 := hb.fr 1
    have f2 := hb.fr 2
    have f3 := hb.fr 3
    have f4 := hb.fr 4
    have f5 := hb.fr 5
    have f8 := hb.fr 8
    have f9 := hb.fr 9
    rcases hc with hc | hc | hc | hc | hc | hc | hc | hc | hc <;> rw [hc] <;> clear hc
    · have Hr := Lib.hid (show checkOp ⟨⟨6, 1, 1⟩, 1, 2, 4, [107], [], 1, 0, []⟩ = 1 by decide)
      have e0 := hb.cell 0 _ rfl
      go_upto_region 26 with fail
      have hb3 := (hb.set 0 (.int .i64 6) (by simp))
      have hx3 := (hx02.trans (Ext.setCell w2 ⟨g, 0, none⟩ (.int .i64 6) (S := just g) rfl) (fun i hi h => by simp only [Esc.just] at h; omega))
      clear hb hx02 f0 f1 f2 f3 f4 f5 f8 f9 e0
      generalize (w2.setCell ⟨g, 0, none⟩ (.int .i64 6)) = w3 at *
      have b0 := hb3.cell 0 _ rfl
      have b1 := hb3.cell 1 _ rfl
      have b2 := hb3.cell 2 _ rfl
      have b3 := hb3.cell 3 _ rfl
      have b4 := hb3.cell 4 _ rfl
      have b5 := hb3.cell 5 _ rfl
      have b6 := hb3.cell 6 _ rfl
      have b7 := hb3.cell 7 _ rfl
      have b8 := hb3.cell 8 _ rfl
      have b9 := hb3.cell 9 _ rfl
      have b10 := hb3.cell 10 _ rfl
      go_wp2_with fail
      refine (check_any w3 ⟨⟨6, 1, 1⟩, 1, 2, 4, [107], [], 1, 0, []⟩ none 0 (Rd.nil _ _) (by simp) (by unfold maxLen; simp) (by unfold maxLen; simp)).mono ?_
      rintro e w4 ⟨rfl, hx4⟩
      rw [Hr.out]
      go_wp2_with fail
      go_ret
      exact ⟨rfl, hx3.comp hx4⟩
    · have Hr := Lib.hid (show checkOp ⟨⟨1, 1073741825, 1⟩, 1, 2, 4, [107], [], 1, 0, []⟩ = 1 by decide)
      have e1 := hb.cell 1 _ rfl
      go_upto_region 26 with fail
      have hb3 := (hb.set 1 (.int .i64 1073741825) (by simp))
      have hx3 := (hx02.trans (Ext.setCell w2 ⟨g, 1, none⟩ (.int .i64 1073741825) (S := just g) rfl) (fun i hi h => by simp only [Esc.just] at h; omega))
      clear hb hx02 f0 f1 f2 f3 f4 f5 f8 f9 e1
      generalize (w2.setCell ⟨g, 1, none⟩ (.int .i64 1073741825)) = w3 at *
      have b0 := hb3.cell 0 _ rfl
      have b1 := hb3.cell 1 _ rfl
      have b2 := hb3.cell 2 _ rfl
      have b3 := hb3.cell 3 _ rfl
      have b4 := hb3.cell 4 _ rfl
      have b5 := hb3.cell 5 _ rfl
      have b6 := hb3.cell 6 _ rfl
      have b7 := hb3.cell 7 _ rfl
      have b8 := hb3.cell 8 _ rfl
      have b9 := hb3.cell 9 _ rfl
      have b10 := hb3.cell 10 _ rfl
      go_wp2_with fail
      refine (check_any w3 ⟨⟨1, 1073741825, 1⟩, 1, 2, 4, [107], [], 1, 0, []⟩ none 0 (Rd.nil _ _) (by simp) (by unfold maxLen; simp) (by unfold maxLen; simp)).mono ?_
      rintro e w4 ⟨rfl, hx4⟩
      rw [Hr.out]
      go_wp2_with fail
      go_ret
      exact ⟨rfl, hx3.comp hx4⟩
    · have Hr := Lib.hid (show checkOp ⟨⟨1, 1, 1073741825⟩, 1, 2, 4, [107], [], 1, 0, []⟩ = 1 by decide)
      have e2 := hb.cell 2 _ rfl
      go_upto_region 26 with fail
      have hb3 := (hb.set 2 (.int .i64 1073741825) (by simp))
      have hx3 := (hx02.trans (Ext.setCell w2 ⟨g, 2, none⟩ (.int .i64 1073741825) (S := just g) rfl) (fun i hi h => by simp only [Esc.just] at h; omega))
      clear hb hx02 f0 f1 f2 f3 f4 f5 f8 f9 e2
      generalize (w2.setCell ⟨g, 2, none⟩ (.int .i64 1073741825)) = w3 at *
      have b0 := hb3.cell 0 _ rfl
      have b1 := hb3.cell 1 _ rfl
      have b2 := hb3.cell 2 _ rfl
      have b3 := hb3.cell 3 _ rfl
      have b4 := hb3.cell 4 _ rfl
      have b5 := hb3.cell 5 _ rfl
      have b6 := hb3.cell 6 _ rfl
      have b7 := hb3.cell 7 _ rfl
      have b8 := hb3.cell 8 _ rfl
      have b9 := hb3.cell 9 _ rfl
      have b10 := hb3.cell 10 _ rfl
      go_wp2_with fail
      refine (check_any w3 ⟨⟨1, 1, 1073741825⟩, 1, 2, 4, [107], [], 1, 0, []⟩ none 0 (Rd.nil _ _) (by simp) (by unfold maxLen; simp) (by unfold maxLen; simp)).mono ?_
      rintro e w4 ⟨rfl, hx4⟩
      rw [Hr.out]
      go_wp2_with fail
      go_ret
      exact ⟨rfl, hx3.comp hx4⟩
    · have Hr := Lib.hid (show checkOp ⟨⟨1, 1, 1⟩, 3, 2, 4, [107], [], 1, 0, []⟩ = 1 by decide)
      have e3 := hb.cell 3 _ rfl
      go_upto_region 26 with fail
      have hb3 := (hb.set 3 (.int .i64 3) (by simp))
      have hx3 := (hx02.trans (Ext.setCell w2 ⟨g, 3, none⟩ (.int .i64 3) (S := just g) rfl) (fun i hi h => by simp only [Esc.just] at h; omega))
      clear hb hx02 f0 f1 f2 f3 f4 f5 f8 f9 e3
      generalize (w2.setCell ⟨g, 3, none⟩ (.int .i64 3)) = w3 at *
      have b0 := hb3.cell 0 _ rfl
      have b1 := hb3.cell 1 _ rfl
      have b2 := hb3.cell 2 _ rfl
      have b3 := hb3.cell 3 _ rfl
      have b4 := hb3.cell 4 _ rfl
      have b5 := hb3.cell 5 _ rfl
      have b6 := hb3.cell 6 _ rfl
      have b7 := hb3.cell 7 _ rfl
      have b8 := hb3.cell 8 _ rfl
      have b9 := hb3.cell 9 _ rfl
      have b10 := hb3.cell 10 _ rfl
      go_wp2_with fail
      refine (check_any w3 ⟨⟨1, 1, 1⟩, 3, 2, 4, [107], [], 1, 0, []⟩ none 0 (Rd.nil _ _) (by simp) (by unfold maxLen; simp) (by unfold maxLen; simp)).mono ?_
      rintro e w4 ⟨rfl, hx4⟩
      rw [Hr.out]
      go_wp2_with fail
      go_ret
      exact ⟨rfl, hx3.comp hx4⟩
    · have Hr := Lib.hid (show checkOp ⟨⟨1, 1, 1⟩, 1, 4, 4, [107], [], 1, 0, []⟩ = 1 by decide)
      have e4 := hb.cell 4 _ rfl
      go_upto_region 26 with fail
      have hb3 := (hb.set 4 (.int .i64 4) (by simp))
      have hx3 := (hx02.trans (Ext.setCell w2 ⟨g, 4, none⟩ (.int .i64 4) (S := just g) rfl) (fun i hi h => by simp only [Esc.just] at h; omega))
      clear hb hx02 f0 f1 f2 f3 f4 f5 f8 f9 e4
      generalize (w2.setCell ⟨g, 4, none⟩ (.int .i64 4)) = w3 at *
      have b0 := hb3.cell 0 _ rfl
      have b1 := hb3.cell 1 _ rfl
      have b2 := hb3.cell 2 _ rfl
      have b3 := hb3.cell 3 _ rfl
      have b4 := hb3.cell 4 _ rfl
      have b5 := hb3.cell 5 _ rfl
      have b6 := hb3.cell 6 _ rfl
      have b7 := hb3.cell 7 _ rfl
      have b8 := hb3.cell 8 _ rfl
      have b9 := hb3.cell 9 _ rfl
      have b10 := hb3.cell 10 _ rfl
      go_wp2_with fail
      refine (check_any w3 ⟨⟨1, 1, 1⟩, 1, 4, 4, [107], [], 1, 0, []⟩ none 0 (Rd.nil _ _) (by simp) (by unfold maxLen; simp) (by unfold maxLen; simp)).mono ?_
      rintro e w4 ⟨rfl, hx4⟩
      rw [Hr.out]
      go_wp2_with fail
      go_ret
      exact ⟨rfl, hx3.comp hx4⟩
    · have Hr := Lib.hid (show checkOp ⟨⟨1, 1, 1⟩, 1, 2, 4, [107], [], 1, 1099511627777, []⟩ = 1 by decide)
      have e9 := hb.cell 9 _ rfl
      go_upto_region 26 with fail
      have hb3 := (hb.set 9 (.int .i64 1099511627777) (by simp))
      have hx3 := (hx02.trans (Ext.setCell w2 ⟨g, 9, none⟩ (.int .i64 1099511627777) (S := just g) rfl) (fun i hi h => by simp only [Esc.just] at h; omega))
      clear hb hx02 f0 f1 f2 f3 f4 f5 f8 f9 e9
      generalize (w2.setCell ⟨g, 9, none⟩ (.int .i64 1099511627777)) = w3 at *
      have b0 := hb3.cell 0 _ rfl
      have b1 := hb3.cell 1 _ rfl
      have b2 := hb3.cell 2 _ rfl
      have b3 := hb3.cell 3 _ rfl
      have b4 := hb3.cell 4 _ rfl
      have b5 := hb3.cell 5 _ rfl
      have b6 := hb3.cell 6 _ rfl
      have b7 := hb3.cell 7 _ rfl
      have b8 := hb3.cell 8 _ rfl
      have b9 := hb3.cell 9 _ rfl
      have b10 := hb3.cell 10 _ rfl
      go_wp2_with fail
      refine (check_any w3 ⟨⟨1, 1, 1⟩, 1, 2, 4, [107], [], 1, 1099511627777, []⟩ none 0 (Rd.nil _ _) (by simp) (by unfold maxLen; simp) (by unfold maxLen; simp)).mono ?_
      rintro e w4 ⟨rfl, hx4⟩
      rw [Hr.out]
      go_wp2_with fail
      go_ret
      exact ⟨rfl, hx3.comp hx4⟩
    · have Hr := Lib.hid (show checkOp ⟨⟨1, 1, 1⟩, 1, 2, 6, [107], [], 1, 0, []⟩ = 3 by decide)
      have e5 := hb.cell 5 _ rfl
      go_upto_region 26 with fail
      have hb3 := (hb.set 5 (.int .i64 6) (by simp))
      have hx3 := (hx02.trans (Ext.setCell w2 ⟨g, 5, none⟩ (.int .i64 6) (S := just g) rfl) (fun i hi h => by simp only [Esc.just] at h; omega))
      clear hb hx02 f0 f1 f2 f3 f4 f5 f8 f9 e5
      generalize (w2.setCell ⟨g, 5, none⟩ (.int .i64 6)) = w3 at *
      have b0 := hb3.cell 0 _ rfl
      have b1 := hb3.cell 1 _ rfl
      have b2 := hb3.cell 2 _ rfl
      have b3 := hb3.cell 3 _ rfl
      have b4 := hb3.cell 4 _ rfl
      have b5 := hb3.cell 5 _ rfl
      have b6 := hb3.cell 6 _ rfl
      have b7 := hb3.cell 7 _ rfl
      have b8 := hb3.cell 8 _ rfl
      have b9 := hb3.cell 9 _ rfl
      have b10 := hb3.cell 10 _ rfl
      go_wp2_with fail
      refine (check_any w3 ⟨⟨1, 1, 1⟩, 1, 2, 6, [107], [], 1, 0, []⟩ none 0 (Rd.nil _ _) (by simp) (by unfold maxLen; simp) (by unfold maxLen; simp)).mono ?_
      rintro e w4 ⟨rfl, hx4⟩
      rw [Hr.out]
      go_wp2_with fail
      go_ret
      exact ⟨rfl, hx3.comp hx4⟩
    · have Hr := Lib.hid (show checkOp ⟨⟨1, 1, 1⟩, 1, 2, 4, [107], [], 1099511627777, 0, []⟩ = 11 by decide)
      have e8 := hb.cell 8 _ rfl
      go_upto_region 26 with fail
      have hb3 := (hb.set 8 (.int .i64 1099511627777) (by simp))
      have hx3 := (hx02.trans (Ext.setCell w2 ⟨g, 8, none⟩ (.int .i64 1099511627777) (S := just g) rfl) (fun i hi h => by simp only [Esc.just] at h; omega))
      clear hb hx02 f0 f1 f2 f3 f4 f5 f8 f9 e8
      generalize (w2.setCell ⟨g, 8, none⟩ (.int .i64 1099511627777)) = w3 at *
      have b0 := hb3.cell 0 _ rfl
      have b1 := hb3.cell 1 _ rfl
      have b2 := hb3.cell 2 _ rfl
      have b3 := hb3.cell 3 _ rfl
      have b4 := hb3.cell 4 _ rfl
      have b5 := hb3.cell 5 _ rfl
      have b6 := hb3.cell 6 _ rfl
      have b7 := hb3.cell 7 _ rfl
      have b8 := hb3.cell 8 _ rfl
      have b9 := hb3.cell 9 _ rfl
      have b10 := hb3.cell 10 _ rfl
      go_wp2_with fail
      refine (check_any w3 ⟨⟨1, 1, 1⟩, 1, 2, 4, [107], [], 1099511627777, 0, []⟩ none 0 (Rd.nil _ _) (by simp) (by unfold maxLen; simp) (by unfold maxLen; simp)).mono ?_
      rintro e w4 ⟨rfl, hx4⟩
      rw [Hr.out]
      go_wp2_with fail
      go_ret
      exact ⟨rfl, hx3.comp hx4⟩
    · have Hr := Lib.hid (show checkOp ⟨⟨1, 1, 1⟩, 1, 2, 5, [107], [], 1000, 0, []⟩ = 11 by decide)
      have e5 := hb.cell 5 _ rfl
      have e8 := hb.cell 8 _ rfl
      have e9' := (hb.set 5 (.int .i64 5) (by simp)).cell 8 _ rfl
      have f9' := (hb.set 5 (.int .i64 5) (by simp)).fr 8
      go_upto_region 26 with fail
      have hb3 := ((hb.set 5 (.int .i64 5) (by simp)).set 8 (.int .i64 1000) (by simp))
      have hx3 := ((hx02.trans (Ext.setCell w2 ⟨g, 5, none⟩ (.int .i64 5) (S := just g) rfl) (fun i hi h => by simp only [Esc.just] at h; omega)).trans (Ext.setCell (w2.setCell ⟨g, 5, none⟩ (.int .i64 5)) ⟨g, 8, none⟩ (.int .i64 1000) (S := just g) rfl) (fun i hi h => by simp only [Esc.just] at h; omega))
      clear hb hx02 f0 f1 f2 f3 f4 f5 f8 f9 e5 e8 e9' f9'
      generalize ((w2.setCell ⟨g, 5, none⟩ (.int .i64 5)).setCell ⟨g, 8, none⟩ (.int .i64 1000)) = w3 at *
      have b0 := hb3.cell 0 _ rfl
      have b1 := hb3.cell 1 _ rfl
      have b2 := hb3.cell 2 _ rfl
      have b3 := hb3.cell 3 _ rfl
      have b4 := hb3.cell 4 _ rfl
      have b5 := hb3.cell 5 _ rfl
      have b6 := hb3.cell 6 _ rfl
      have b7 := hb3.cell 7 _ rfl
      have b8 := hb3.cell 8 _ rfl
      have b9 := hb3.cell 9 _ rfl
      have b10 := hb3.cell 10 _ rfl
      go_wp2_with fail
      refine (check_any w3 ⟨⟨1, 1, 1⟩, 1, 2, 5, [107], [], 1000, 0, []⟩ none 0 (Rd.nil _ _) (by simp) (by unfold maxLen; simp) (by unfold maxLen; simp)).mono ?_
      rintro e w4 ⟨rfl, hx4⟩
      rw [Hr.out]
      go_wp2_with fail
      go_ret
      exact ⟨rfl, hx3.comp hx4⟩
  · go_upto_region 7 with fail
    have hb := Blk.at (w1.alloc (.cells #[.int .i64 (-1), .int .i64 0, .int .i64 1, .int .i64 1000] 3)) #[.int .i64 1, .int .i64 1, .int .i64 1, .int .i64 1, .int .i64 2, .int .i64 4, .string { data := #[107] }, .string { data := #[] }, .int .i64 1, .int .i64 0, .slice none 0 0] 26 (w1.heap.size + 1) (by simp)
    have hx2 : Ext no w1 ((w1.alloc (.cells #[.int .i64 (-1), .int .i64 0, .int .i64 1, .int .i64 1000] 3)).alloc (.cells #[.int .i64 1, .int .i64 1, .int .i64 1, .int .i64 1, .int .i64 2, .int .i64 4, .string { data := #[107] }, .string { data := #[] }, .int .i64 1, .int .i64 0, .slice none 0 0] 26)) := (Ext.alloc _ _ _).comp (Ext.alloc _ _ _)
    generalize (w1.alloc (.cells #[.int .i64 (-1), .int .i64 0, .int .i64 1, .int .i64 1000] 3)).alloc (.cells #[.int .i64 1, .int .i64 1, .int .i64 1, .int .i64 1, .int .i64 2, .int .i64 4, .string { data := #[107] }, .string { data := #[] }, .int .i64 1, .int .i64 0, .slice none 0 0] 26) = w2 at *
    have hx02 := hx1.comp hx2
    have hge : w.heap.size ≤ w1.heap.size + 1 := by have := hx1.size; omega
    clear hx1 hx2
    generalize w1.heap.size + 1 = g at *
    go_wp2_with fail
    refine (within_any which 9 w2 (by omega) (by omega) hwh).mono ?_
    rintro e w3 ⟨rfl, rfl⟩
    have hc : which % 9 = 0 ∨ which % 9 = 1 ∨ which % 9 = 2 ∨ which % 9 = 3 ∨ which % 9 = 4 ∨ which % 9 = 5 ∨ which % 9 = 6 ∨ which % 9 = 7 ∨ which % 9 = 8 := by omega
    have f0 := hb.fr 0
    have f1 := hb.fr 1
    have f2 := hb.fr 2
    have f3 := hb.fr 3
    have f4 := hb.fr 4
    have f5 := hb.fr 5
    have f8 := hb.fr 8
    have f9 := hb.fr 9
    rcases hc with hc | hc | hc | hc | hc | hc | hc | hc | hc <;> rw [hc] <;> clear hc
    · have Hr := Lib.hid (show checkOp ⟨⟨1005, 1, 1⟩, 1, 2, 4, [107], [], 1, 0, []⟩ = 1 by decide)
      have e0 := hb.cell 0 _ rfl
      go_upto_region 26 with fail
      have hb3 := (hb.set 0 (.int .i64 1005) (by simp))
      have hx3 := (hx02.trans (Ext.setCell w2 ⟨g, 0, none⟩ (.int .i64 1005) (S := just g) rfl) (fun i hi h => by simp only [Esc.just] at h; omega))
      clear hb hx02 f0 f1 f2 f3 f4 f5 f8 f9 e0
      generalize (w2.setCell ⟨g, 0, none⟩ (.int .i64 1005)) = w3 at *
      have b0 := hb3.cell 0 _ rfl
      have b1 := hb3.cell 1 _ rfl
      have b2 := hb3.cell 2 _ rfl
      have b3 := hb3.cell 3 _ rfl
      have b4 := hb3.cell 4 _ rfl
      have b5 := hb3.cell 5 _ rfl
      have b6 := hb3.cell 6 _ rfl
      have b7 := hb3.cell 7 _ rfl
      have b8 := hb3.cell 8 _ rfl
      have b9 := hb3.cell 9 _ rfl
      have b10 := hb3.cell 10 _ rfl
      go_wp2_with fail
      refine (check_any w3 ⟨⟨1005, 1, 1⟩, 1, 2, 4, [107], [], 1, 0, []⟩ none 0 (Rd.nil _ _) (by simp) (by unfold maxLen; simp) (by unfold maxLen; simp)).mono ?_
      rintro e w4 ⟨rfl, hx4⟩
      rw [Hr.out]
      go_wp2_with fail
      go_ret
      exact ⟨rfl, hx3.comp hx4⟩
    · have Hr := Lib.hid (show checkOp ⟨⟨1, 1073742824, 1⟩, 1, 2, 4, [107], [], 1, 0, []⟩ = 1 by decide)
      have e1 := hb.cell 1 _ rfl
      go_upto_region 26 with fail
      have hb3 := (hb.set 1 (.int .i64 1073742824) (by simp))
      have hx3 := (hx02.trans (Ext.setCell w2 ⟨g, 1, none⟩ (.int .i64 1073742824) (S := just g) rfl) (fun i hi h => by simp only [Esc.just] at h; omega))
      clear hb hx02 f0 f1 f2 f3 f4 f5 f8 f9 e1
      generalize (w2.setCell ⟨g, 1, none⟩ (.int .i64 1073742824)) = w3 at *
      have b0 := hb3.cell 0 _ rfl
      have b1 := hb3.cell 1 _ rfl
      have b2 := hb3.cell 2 _ rfl
      have b3 := hb3.cell 3 _ rfl
      have b4 := hb3.cell 4 _ rfl
      have b5 := hb3.cell 5 _ rfl
      have b6 := hb3.cell 6 _ rfl
      have b7 := hb3.cell 7 _ rfl
      have b8 := hb3.cell 8 _ rfl
      have b9 := hb3.cell 9 _ rfl
      have b10 := hb3.cell 10 _ rfl
      go_wp2_with fail
      refine (check_any w3 ⟨⟨1, 1073742824, 1⟩, 1, 2, 4, [107], [], 1, 0, []⟩ none 0 (Rd.nil _ _) (by simp) (by unfold maxLen; simp) (by unfold maxLen; simp)).mono ?_
      rintro e w4 ⟨rfl, hx4⟩
      rw [Hr.out]
      go_wp2_with fail
      go_ret
      exact ⟨rfl, hx3.comp hx4⟩
    · have Hr := Lib.hid (show checkOp ⟨⟨1, 1, 1073742824⟩, 1, 2, 4, [107], [], 1, 0, []⟩ = 1 by decide)
      have e2 := hb.cell 2 _ rfl
      go_upto_region 26 with fail
      have hb3 := (hb.set 2 (.int .i64 1073742824) (by simp))
      have hx3 := (hx02.trans (Ext.setCell w2 ⟨g, 2, none⟩ (.int .i64 1073742824) (S := just g) rfl) (fun i hi h => by simp only [Esc.just] at h; omega))
      clear hb hx02 f0 f1 f2 f3 f4 f5 f8 f9 e2
      generalize (w2.setCell ⟨g, 2, none⟩ (.int .i64 1073742824)) = w3 at *
      have b0 := hb3.cell 0 _ rfl
      have b1 := hb3.cell 1 _ rfl
      have b2 := hb3.cell 2 _ rfl
      have b3 := hb3.cell 3 _ rfl
      have b4 := hb3.cell 4 _ rfl
      have b5 := hb3.cell 5 _ rfl
      have b6 := hb3.cell 6 _ rfl
      have b7 := hb3.cell 7 _ rfl
      have b8 := hb3.cell 8 _ rfl
      have b9 := hb3.cell 9 _ rfl
      have b10 := hb3.cell 10 _ rfl
      go_wp2_with fail
      refine (check_any w3 ⟨⟨1, 1, 1073742824⟩, 1, 2, 4, [107], [], 1, 0, []⟩ none 0 (Rd.nil _ _) (by simp) (by unfold maxLen; simp) (by unfold maxLen; simp)).mono ?_
      rintro e w4 ⟨rfl, hx4⟩
      rw [Hr.out]
      go_wp2_with fail
      go_ret
      exact ⟨rfl, hx3.comp hx4⟩
    · have Hr := Lib.hid (show checkOp ⟨⟨1, 1, 1⟩, 1002, 2, 4, [107], [], 1, 0, []⟩ = 1 by decide)
      have e3 := hb.cell 3 _ rfl
      go_upto_region 26 with fail
      have hb3 := (hb.set 3 (.int .i64 1002) (by simp))
      have hx3 := (hx02.trans (Ext.setCell w2 ⟨g, 3, none⟩ (.int .i64 1002) (S := just g) rfl) (fun i hi h => by simp only [Esc.just] at h; omega))
      clear hb hx02 f0 f1 f2 f3 f4 f5 f8 f9 e3
      generalize (w2.setCell ⟨g, 3, none⟩ (.int .i64 1002)) = w3 at *
      have b0 := hb3.cell 0 _ rfl
      have b1 := hb3.cell 1 _ rfl
      have b2 := hb3.cell 2 _ rfl
      have b3 := hb3.cell 3 _ rfl
      have b4 := hb3.cell 4 _ rfl
      have b5 := hb3.cell 5 _ rfl
      have b6 := hb3.cell 6 _ rfl
      have b7 := hb3.cell 7 _ rfl
      have b8 := hb3.cell 8 _ rfl
      have b9 := hb3.cell 9 _ rfl
      have b10 := hb3.cell 10 _ rfl
      go_wp2_with fail
      refine (check_any w3 ⟨⟨1, 1, 1⟩, 1002, 2, 4, [107], [], 1, 0, []⟩ none 0 (Rd.nil _ _) (by simp) (by unfold maxLen; simp) (by unfold maxLen; simp)).mono ?_
      rintro e w4 ⟨rfl, hx4⟩
      rw [Hr.out]
      go_wp2_with fail
      go_ret
      exact ⟨rfl, hx3.comp hx4⟩
    · have Hr := Lib.hid (show checkOp ⟨⟨1, 1, 1⟩, 1, 1003, 4, [107], [], 1, 0, []⟩ = 1 by decide)
      have e4 := hb.cell 4 _ rfl
      go_upto_region 26 with fail
      have hb3 := (hb.set 4 (.int .i64 1003) (by simp))
      have hx3 := (hx02.trans (Ext.setCell w2 ⟨g, 4, none⟩ (.int .i64 1003) (S := just g) rfl) (fun i hi h => by simp only [Esc.just] at h; omega))
      clear hb hx02 f0 f1 f2 f3 f4 f5 f8 f9 e4
      generalize (w2.setCell ⟨g, 4, none⟩ (.int .i64 1003)) = w3 at *
      have b0 := hb3.cell 0 _ rfl
      have b1 := hb3.cell 1 _ rfl
      have b2 := hb3.cell 2 _ rfl
      have b3 := hb3.cell 3 _ rfl
      have b4 := hb3.cell 4 _ rfl
      have b5 := hb3.cell 5 _ rfl
      have b6 := hb3.cell 6 _ rfl
      have b7 := hb3.cell 7 _ rfl
      have b8 := hb3.cell 8 _ rfl
      have b9 := hb3.cell 9 _ rfl
      have b10 := hb3.cell 10 _ rfl
      go_wp2_with fail
      refine (check_any w3 ⟨⟨1, 1, 1⟩, 1, 1003, 4, [107], [], 1, 0, []⟩ none 0 (Rd.nil _ _) (by simp) (by unfold maxLen; simp) (by unfold maxLen; simp)).mono ?_
      rintro e w4 ⟨rfl, hx4⟩
      rw [Hr.out]
      go_wp2_with fail
      go_ret
      exact ⟨rfl, hx3.comp hx4⟩
    · have Hr := Lib.hid (show checkOp ⟨⟨1, 1, 1⟩, 1, 2, 4, [107], [], 1, 1099511628776, []⟩ = 1 by decide)
      have e9 := hb.cell 9 _ rfl
      go_upto_region 26 with fail
      have hb3 := (hb.set 9 (.int .i64 1099511628776) (by simp))
      have hx3 := (hx02.trans (Ext.setCell w2 ⟨g, 9, none⟩ (.int .i64 1099511628776) (S := just g) rfl) (fun i hi h => by simp only [Esc.just] at h; omega))
      clear hb hx02 f0 f1 f2 f3 f4 f5 f8 f9 e9
      generalize (w2.setCell ⟨g, 9, none⟩ (.int .i64 1099511628776)) = w3 at *
      have b0 := hb3.cell 0 _ rfl
      have b1 := hb3.cell 1 _ rfl
      have b2 := hb3.cell 2 _ rfl
      have b3 := hb3.cell 3 _ rfl
      have b4 := hb3.cell 4 _ rfl
      have b5 := hb3.cell 5 _ rfl
      have b6 := hb3.cell 6 _ rfl
      have b7 := hb3.cell 7 _ rfl
      have b8 := hb3.cell 8 _ rfl
      have b9 := hb3.cell 9 _ rfl
      have b10 := hb3.cell 10 _ rfl
      go_wp2_with fail
      refine (check_any w3 ⟨⟨1, 1, 1⟩, 1, 2, 4, [107], [], 1, 1099511628776, []⟩ none 0 (Rd.nil _ _) (by simp) (by unfold maxLen; simp) (by unfold maxLen; simp)).mono ?_
      rintro e w4 ⟨rfl, hx4⟩
      rw [Hr.out]
      go_wp2_with fail
      go_ret
      exact ⟨rfl, hx3.comp hx4⟩
    · have Hr := Lib.hid (show checkOp ⟨⟨1, 1, 1⟩, 1, 2, 1005, [107], [], 1, 0, []⟩ = 3 by decide)
      have e5 := hb.cell 5 _ rfl
      go_upto_region 26 with fail
      have hb3 := (hb.set 5 (.int .i64 1005) (by simp))
      have hx3 := (hx02.trans (Ext.setCell w2 ⟨g, 5, none⟩ (.int .i64 1005) (S := just g) rfl) (fun i hi h => by simp only [Esc.just] at h; omega))
      clear hb hx02 f0 f1 f2 f3 f4 f5 f8 f9 e5
      generalize (w2.setCell ⟨g, 5, none⟩ (.int .i64 1005)) = w3 at *
      have b0 := hb3.cell 0 _ rfl
      have b1 := hb3.cell 1 _ rfl
      have b2 := hb3.cell 2 _ rfl
      have b3 := hb3.cell 3 _ rfl
      have b4 := hb3.cell 4 _ rfl
      have b5 := hb3.cell 5 _ rfl
      have b6 := hb3.cell 6 _ rfl
      have b7 := hb3.cell 7 _ rfl
      have b8 := hb3.cell 8 _ rfl
      have b9 := hb3.cell 9 _ rfl
      have b10 := hb3.cell 10 _ rfl
      go_wp2_with fail
      refine (check_any w3 ⟨⟨1, 1, 1⟩, 1, 2, 1005, [107], [], 1, 0, []⟩ none 0 (Rd.nil _ _) (by simp) (by unfold maxLen; simp) (by unfold maxLen; simp)).mono ?_
      rintro e w4 ⟨rfl, hx4⟩
      rw [Hr.out]
      go_wp2_with fail
      go_ret
      exact ⟨rfl, hx3.comp hx4⟩
    · have Hr := Lib.hid (show checkOp ⟨⟨1, 1, 1⟩, 1, 2, 4, [107], [], 1099511628776, 0, []⟩ = 11 by decide)
      have e8 := hb.cell 8 _ rfl
      go_upto_region 26 with fail
      have hb3 := (hb.set 8 (.int .i64 1099511628776) (by simp))
      have hx3 := (hx02.trans (Ext.setCell w2 ⟨g, 8, none⟩ (.int .i64 1099511628776) (S := just g) rfl) (fun i hi h => by simp only [Esc.just] at h; omega))
      clear hb hx02 f0 f1 f2 f3 f4 f5 f8 f9 e8
      generalize (w2.setCell ⟨g, 8, none⟩ (.int .i64 1099511628776)) = w3 at *
      have b0 := hb3.cell 0 _ rfl
      have b1 := hb3.cell 1 _ rfl
      have b2 := hb3.cell 2 _ rfl
      have b3 := hb3.cell 3 _ rfl
      have b4 := hb3.cell 4 _ rfl
      have b5 := hb3.cell 5 _ rfl
      have b6 := hb3.cell 6 _ rfl
      have b7 := hb3.cell 7 _ rfl
      have b8 := hb3.cell 8 _ rfl
      have b9 := hb3.cell 9 _ rfl
      have b10 := hb3.cell 10 _ rfl
      go_wp2_with fail
      refine (check_any w3 ⟨⟨1, 1, 1⟩, 1, 2, 4, [107], [], 1099511628776, 0, []⟩ none 0 (Rd.nil _ _) (by simp) (by unfold maxLen; simp) (by unfold maxLen; simp)).mono ?_
      rintro e w4 ⟨rfl, hx4⟩
      rw [Hr.out]
      go_wp2_with fail
      go_ret
      exact ⟨rfl, hx3.comp hx4⟩
    · have Hr := Lib.hid (show checkOp ⟨⟨1, 1, 1⟩, 1, 2, 5, [107], [], 1999, 0, []⟩ = 11 by decide)
      have e5 := hb.cell 5 _ rfl
      have e8 := hb.cell 8 _ rfl
      have e9' := (hb.set 5 (.int .i64 5) (by simp)).cell 8 _ rfl
      have f9' := (hb.set 5 (.int .i64 5) (by simp)).fr 8
      go_upto_region 26 with fail
      have hb3 := ((hb.set 5 (.int .i64 5) (by simp)).set 8 (.int .i64 1999) (by simp))
      have hx3 := ((hx02.trans (Ext.setCell w2 ⟨g, 5, none⟩ (.int .i64 5) (S := just g) rfl) (fun i hi h => by simp only [Esc.just] at h; omega)).trans (Ext.setCell (w2.setCell ⟨g, 5, none⟩ (.int .i64 5)) ⟨g, 8, none⟩ (.int .i64 1999) (S := just g) rfl) (fun i hi h => by simp only [Esc.just] at h; omega))
      clear hb hx02 f0 f1 f2 f3 f4 f5 f8 f9 e5 e8 e9' f9'
      generalize ((w2.setCell ⟨g, 5, none⟩ (.int .i64 5)).setCell ⟨g, 8, none⟩ (.int .i64 1999)) = w3 at *
      have b0 := hb3.cell 0 _ rfl
      have b1 := hb3.cell 1 _ rfl
      have b2 := hb3.cell 2 _ rfl
      have b3 := hb3.cell 3 _ rfl
      have b4 := hb3.cell 4 _ rfl
      have b5 := hb3.cell 5 _ rfl
      have b6 := hb3.cell 6 _ rfl
      have b7 := hb3.cell 7 _ rfl
      have b8 := hb3.cell 8 _ rfl
      have b9 := hb3.cell 9 _ rfl
      have b10 := hb3.cell 10 _ rfl
      go_wp2_with fail
      refine (check_any w3 ⟨⟨1, 1, 1⟩, 1, 2, 5, [107], [], 1999, 0, []⟩ none 0 (Rd.nil _ _) (by simp) (by unfold maxLen; simp) (by unfold maxLen; simp)).mono ?_
      rintro e w4 ⟨rfl, hx4⟩
      rw [Hr.out]
      go_wp2_with fail
      go_ret
      exact ⟨rfl, hx3.comp hx4⟩
end Go.Proofs.Ytfelipkbbefhhaa
