/- Walks: rows of dots held against one another; operations held against one another. -/
import Derived.Test.YtddobhihjljcgaaOpG

namespace Go.Proofs.Ytddobhihjljcgaa
open Go.RowKit Go.Esc
set_option linter.unusedVariables false
set_option linter.unusedSimpArgs false


set_option maxHeartbeats 1000000 in
theorem eqdots_any (w : World) (a b : Option Addr) (c d : Nat) (l m : List DotR) (hl : Rd w a (ds l)) (hm : Rd w b (ds m)) (hll : l.length ≤ 1099511627776) (hml : m.length ≤ 1099511627776) :
    Calls Try.prog 80 #[.slice a l.length c, .slice b m.length d] w fun e w' => ∃ r : Bool, e = .returned (.bool r) ∧ (r = true ↔ l = m) ∧ Ext no w w' := by
  by_cases hlm : l.length = m.length
  rotate_left
  · have Hne := Lib.hid (show ¬ l = m from fun h => hlm (by rw [h]))
    have d0 : (((l.length : Nat) : Int) != ((m.length : Nat) : Int)) = true := by rw [bne_iff_ne]; omega
    have d0' : (l.length == m.length) = false := by rw [beq_eq_false_iff_ne]; exact hlm
    go_enter Try.func80, Try.ntmps80
    clear hlm
    go_wp2_with fail
    go_ret
    exact ⟨false, rfl, by simp [Hne.out], Ext.refl _ _⟩
  have Hlm := Lib.hid hlm
  have d0' : (l.length == m.length) = true := by rw [beq_iff_eq]; exact hlm
  have d0 : (((l.length : Nat) : Int) != ((m.length : Nat) : Int)) = false := by rw [bne_eq_false_iff_eq]; omega
  clear hlm
  go_enter Try.func80, Try.ntmps80
  go_wp2_with fail
  go_loopw [13] (fun s wr => ∃ i : Nat, i ≤ l.length ∧ s = .int .i64 i ∧ l.take i = m.take i ∧ Ext no w wr) (fun s _ => l.length - (intOf s).toNat)
  case atStart => exact ⟨0, by omega, rfl, rfl, Ext.refl _ _⟩
  case round =>
    obtain ⟨i, hi, rfl, htk, hx⟩ := hrel
    have Htk := Lib.hid htk
    clear htk
    by_cases hil : i < l.length
    · have d1 : decide (i < l.length) = true := decT hil
      have him : i < m.length := by have := Hlm.out; omega
      have hl2 := hl.ext hx (fun _ _ h => h)
      have hm2 := hm.ext hx (fun _ _ h => h)
      obtain ⟨ab, ao, rfl, _⟩ := ds_shape hl2 (by omega)
      obtain ⟨bb, bo, rfl, _⟩ := ds_shape hm2 (by omega)
      obtain ⟨x, hx1⟩ : ∃ x, l[i]? = some x := ⟨_, List.getElem?_eq_getElem hil⟩
      obtain ⟨y, hy1⟩ : ∃ y, m[i]? = some y := ⟨_, List.getElem?_eq_getElem him⟩
      have x0 := ds_cell hl2 hx1 0 _ rfl
      have x1 := ds_cell hl2 hx1 1 _ rfl
      have x2 := ds_cell hl2 hx1 2 _ rfl
      have y0 := ds_cell hm2 hy1 0 _ rfl
      have y1 := ds_cell hm2 hy1 1 _ rfl
      have y2 := ds_cell hm2 hy1 2 _ rfl
      rw [Nat.add_zero] at x0 y0
      by_cases hxy : x = y
      · have HE := Lib.hid (show l.take (i + 1) = m.take (i + 1) by
          obtain ⟨h1, h2⟩ := List.getElem?_eq_some_iff.1 hx1
          obtain ⟨h3, h4⟩ := List.getElem?_eq_some_iff.1 hy1
          rw [List.take_succ_eq_append_getElem h1, List.take_succ_eq_append_getElem h3, Htk.out, h2, h4, hxy])
        subst hxy
        go_upto_region 6 with fail
        --<ET
        refine wp_region_F [3, 7] (looks [(3, fun z => Ext no wr z), (7, fun z => Ext no wr z)]) (by kernel_rfl) ?_
        have hT0 : ∀ k, looks [(3, fun z => Ext no wr z), (7, fun z => Ext no wr z)] k (wr.drew) := looks_all ⟨(Ext.drew no wr), (Ext.drew no wr), trivial⟩
        refine wpF_take 0 (v := ?_) rfl (by kernel_rfl) (by kernel_rfl) (by kernel_rfl) (fun _ _ _ h => h) hT0 (by rfl) ?_ ?_
        rotate_left
        · (intro wq; go_simp; try with_reducible rfl)
        simp only [Act.put, List.setIfInBounds_toArray, List.set_cons_zero, List.set_cons_succ]
        refine wpF_take 1 (v := ?_) rfl (by kernel_rfl) (by kernel_rfl) (by kernel_rfl) (fun _ _ _ h => h) hT0 (by rfl) ?_ ?_
        rotate_left
        · (intro wq; go_simp; try with_reducible rfl)
        simp only [Act.put, List.setIfInBounds_toArray, List.set_cons_zero, List.set_cons_succ]
        refine wpF_take 2 (v := .pointer (some ⟨ab, ao + i * 3, none⟩)) rfl (by kernel_rfl) (by kernel_rfl) (by kernel_rfl) (fun _ _ _ h => h) hT0 (by rfl) (by intro wq; go_simp) ?_
        simp only [Act.put, List.setIfInBounds_toArray, List.set_cons_zero, List.set_cons_succ]
        refine wpF_look 3 (v := .agg #[.int .i64 x.dev, .int .i64 x.ep, .int .i64 x.seq]) rfl rfl (by kernel_rfl) (by kernel_rfl) (by kernel_rfl) (by kernel_rfl) (fun _ _ _ h => h) hT0 (by rfl) (fun w hS => by have hS : Ext no wr w := hS; have q0 := hS.keeps x0 (fun h => h); have q1 := hS.keeps x1 (fun h => h); have q2 := hS.keeps x2 (fun h => h); go_simp) ?_
        simp only [Act.put, List.setIfInBounds_toArray, List.set_cons_zero, List.set_cons_succ]
        refine wpF_take 4 (v := ?_) rfl (by kernel_rfl) (by kernel_rfl) (by kernel_rfl) (fun _ _ _ h => h) hT0 (by rfl) ?_ ?_
        rotate_left
        · (intro wq; go_simp; try with_reducible rfl)
        simp only [Act.put, List.setIfInBounds_toArray, List.set_cons_zero, List.set_cons_succ]
        refine wpF_take 5 (v := ?_) rfl (by kernel_rfl) (by kernel_rfl) (by kernel_rfl) (fun _ _ _ h => h) hT0 (by rfl) ?_ ?_
        rotate_left
        · (intro wq; go_simp; try with_reducible rfl)
        simp only [Act.put, List.setIfInBounds_toArray, List.set_cons_zero, List.set_cons_succ]
        refine wpF_take 6 (v := .pointer (some ⟨bb, bo + i * 3, none⟩)) rfl (by kernel_rfl) (by kernel_rfl) (by kernel_rfl) (fun _ _ _ h => h) hT0 (by rfl) (by intro wq; go_simp) ?_
        simp only [Act.put, List.setIfInBounds_toArray, List.set_cons_zero, List.set_cons_succ]
        refine wpF_look 7 (v := .agg #[.int .i64 x.dev, .int .i64 x.ep, .int .i64 x.seq]) rfl rfl (by kernel_rfl) (by kernel_rfl) (by kernel_rfl) (by kernel_rfl) (fun _ _ _ h => h) hT0 (by rfl) (fun w hS => by have hS : Ext no wr w := hS; have q0 := hS.keeps y0 (fun h => h); have q1 := hS.keeps y1 (fun h => h); have q2 := hS.keeps y2 (fun h => h); go_simp) ?_
        simp only [Act.put, List.setIfInBounds_toArray, List.set_cons_zero, List.set_cons_succ]
        refine wpF_take 8 (v := .bool false) rfl (by kernel_rfl) (by kernel_rfl) (by kernel_rfl) (fun _ _ _ h => h) hT0 (by rfl) (by intro wq; go_simp) ?_
        simp only [Act.put, List.setIfInBounds_toArray, List.set_cons_zero, List.set_cons_succ]
        refine wpF_done (by kernel_rfl) ?_ _
        go_wp2_with fail
        go_roundw
        case rel => exact ⟨i + 1, by omega, by go_num, HE.out, hx.comp (Ext.drew no wr)⟩
        case measure => simp [intOf]; omega
        -->ET
      · have HE := Lib.hid (show ¬ l = m from fun h => by rw [h] at hx1; rw [hx1] at hy1; cases hy1; exact hxy rfl)
        have HF := Lib.hid (show x.eqv y = false by
          cases h : x.eqv y with
          | false => rfl
          | true => exact absurd ((DotR.eqv_iff x y).1 h) hxy)
        clear hxy
        go_upto_region 6 with fail
        --<EF
        refine wp_region_F [3, 7] (looks [(3, fun z => Ext no wr z), (7, fun z => Ext no wr z)]) (by kernel_rfl) ?_
        have hT0 : ∀ k, looks [(3, fun z => Ext no wr z), (7, fun z => Ext no wr z)] k (wr.drew) := looks_all ⟨(Ext.drew no wr), (Ext.drew no wr), trivial⟩
        refine wpF_take 0 (v := ?_) rfl (by kernel_rfl) (by kernel_rfl) (by kernel_rfl) (fun _ _ _ h => h) hT0 (by rfl) ?_ ?_
        rotate_left
        · (intro wq; go_simp; try with_reducible rfl)
        simp only [Act.put, List.setIfInBounds_toArray, List.set_cons_zero, List.set_cons_succ]
        refine wpF_take 1 (v := ?_) rfl (by kernel_rfl) (by kernel_rfl) (by kernel_rfl) (fun _ _ _ h => h) hT0 (by rfl) ?_ ?_
        rotate_left
        · (intro wq; go_simp; try with_reducible rfl)
        simp only [Act.put, List.setIfInBounds_toArray, List.set_cons_zero, List.set_cons_succ]
        refine wpF_take 2 (v := .pointer (some ⟨ab, ao + i * 3, none⟩)) rfl (by kernel_rfl) (by kernel_rfl) (by kernel_rfl) (fun _ _ _ h => h) hT0 (by rfl) (by intro wq; go_simp) ?_
        simp only [Act.put, List.setIfInBounds_toArray, List.set_cons_zero, List.set_cons_succ]
        refine wpF_look 3 (v := .agg #[.int .i64 x.dev, .int .i64 x.ep, .int .i64 x.seq]) rfl rfl (by kernel_rfl) (by kernel_rfl) (by kernel_rfl) (by kernel_rfl) (fun _ _ _ h => h) hT0 (by rfl) (fun w hS => by have hS : Ext no wr w := hS; have q0 := hS.keeps x0 (fun h => h); have q1 := hS.keeps x1 (fun h => h); have q2 := hS.keeps x2 (fun h => h); go_simp) ?_
        simp only [Act.put, List.setIfInBounds_toArray, List.set_cons_zero, List.set_cons_succ]
        refine wpF_take 4 (v := ?_) rfl (by kernel_rfl) (by kernel_rfl) (by kernel_rfl) (fun _ _ _ h => h) hT0 (by rfl) ?_ ?_
        rotate_left
        · (intro wq; go_simp; try with_reducible rfl)
        simp only [Act.put, List.setIfInBounds_toArray, List.set_cons_zero, List.set_cons_succ]
        refine wpF_take 5 (v := ?_) rfl (by kernel_rfl) (by kernel_rfl) (by kernel_rfl) (fun _ _ _ h => h) hT0 (by rfl) ?_ ?_
        rotate_left
        · (intro wq; go_simp; try with_reducible rfl)
        simp only [Act.put, List.setIfInBounds_toArray, List.set_cons_zero, List.set_cons_succ]
        refine wpF_take 6 (v := .pointer (some ⟨bb, bo + i * 3, none⟩)) rfl (by kernel_rfl) (by kernel_rfl) (by kernel_rfl) (fun _ _ _ h => h) hT0 (by rfl) (by intro wq; go_simp) ?_
        simp only [Act.put, List.setIfInBounds_toArray, List.set_cons_zero, List.set_cons_succ]
        refine wpF_look 7 (v := .agg #[.int .i64 y.dev, .int .i64 y.ep, .int .i64 y.seq]) rfl rfl (by kernel_rfl) (by kernel_rfl) (by kernel_rfl) (by kernel_rfl) (fun _ _ _ h => h) hT0 (by rfl) (fun w hS => by have hS : Ext no wr w := hS; have q0 := hS.keeps y0 (fun h => h); have q1 := hS.keeps y1 (fun h => h); have q2 := hS.keeps y2 (fun h => h); go_simp) ?_
        simp only [Act.put, List.setIfInBounds_toArray, List.set_cons_zero, List.set_cons_succ]
        refine wpF_take 8 (v := .bool true) rfl (by kernel_rfl) (by kernel_rfl) (by kernel_rfl) (fun _ _ _ h => h) hT0 (by rfl) (by intro wq; go_simp; exact eqv_not HF.out) ?_
        simp only [Act.put, List.setIfInBounds_toArray, List.set_cons_zero, List.set_cons_succ]
        refine wpF_done (by kernel_rfl) ?_ _
        go_wp2_with fail
        go_ret
        exact ⟨false, rfl, by simp [HE.out], hx.comp (Ext.drew no wr)⟩
        -->EF
    · have d1 : decide (i < l.length) = false := decF hil
      have HE := Lib.hid (show l = m by
        have := Htk.out
        have := Hlm.out
        rwa [List.take_of_length_le (by omega), List.take_of_length_le (by omega)] at *)
      go_wp2_with fail
      go_ret
      exact ⟨true, rfl, by simp [HE.out], hx⟩

set_option maxHeartbeats 1000000 in
theorem refdots_any (w : World) (a b : Option Addr) (c d : Nat) (l m : List DotR) (hl : Rd w a (ds l)) (hm : Rd w b (ds m)) (hll : l.length ≤ 1099511627776) (hml : m.length ≤ 1099511627776) :
    Calls Try.prog 97 #[.slice a l.length c, .slice b m.length d] w fun e w' => ∃ r : Bool, e = .returned (.bool r) ∧ (r = true ↔ l = m) ∧ Ext no w w' := by
  by_cases hlm : l.length = m.length
  rotate_left
  · have Hne := Lib.hid (show ¬ l = m from fun h => hlm (by rw [h]))
    have d0 : (((l.length : Nat) : Int) != ((m.length : Nat) : Int)) = true := by rw [bne_iff_ne]; omega
    have d0' : (l.length == m.length) = false := by rw [beq_eq_false_iff_ne]; exact hlm
    go_enter Try.func97, Try.ntmps97
    clear hlm
    go_wp2_with fail
    go_ret
    exact ⟨false, rfl, by simp [Hne.out], Ext.refl _ _⟩
  have Hlm := Lib.hid hlm
  have d0' : (l.length == m.length) = true := by rw [beq_iff_eq]; exact hlm
  have d0 : (((l.length : Nat) : Int) != ((m.length : Nat) : Int)) = false := by rw [bne_eq_false_iff_eq]; omega
  clear hlm
  go_enter Try.func97, Try.ntmps97
  go_wp2_with fail
  go_loopw [5] (fun s wr => ∃ i : Nat, i ≤ l.length ∧ s = .int .i64 i ∧ l.take i = m.take i ∧ Ext no w wr) (fun s _ => l.length - (intOf s).toNat)
  case atStart => exact ⟨0, by omega, rfl, rfl, Ext.refl _ _⟩
  case round =>
    obtain ⟨i, hi, rfl, htk, hx⟩ := hrel
    have Htk := Lib.hid htk
    clear htk
    by_cases hil : i < l.length
    · have d1 : decide (i < l.length) = true := decT hil
      have him : i < m.length := by have := Hlm.out; omega
      have hl2 := hl.ext hx (fun _ _ h => h)
      have hm2 := hm.ext hx (fun _ _ h => h)
      obtain ⟨ab, ao, rfl, _⟩ := ds_shape hl2 (by omega)
      obtain ⟨bb, bo, rfl, _⟩ := ds_shape hm2 (by omega)
      obtain ⟨x, hx1⟩ : ∃ x, l[i]? = some x := ⟨_, List.getElem?_eq_getElem hil⟩
      obtain ⟨y, hy1⟩ : ∃ y, m[i]? = some y := ⟨_, List.getElem?_eq_getElem him⟩
      have x0 := ds_cell hl2 hx1 0 _ rfl
      have x1 := ds_cell hl2 hx1 1 _ rfl
      have x2 := ds_cell hl2 hx1 2 _ rfl
      have y0 := ds_cell hm2 hy1 0 _ rfl
      have y1 := ds_cell hm2 hy1 1 _ rfl
      have y2 := ds_cell hm2 hy1 2 _ rfl
      rw [Nat.add_zero] at x0 y0
      by_cases hxy : x = y
      · have HE := Lib.hid (show l.take (i + 1) = m.take (i + 1) by
          obtain ⟨h1, h2⟩ := List.getElem?_eq_some_iff.1 hx1
          obtain ⟨h3, h4⟩ := List.getElem?_eq_some_iff.1 hy1
          rw [List.take_succ_eq_append_getElem h1, List.take_succ_eq_append_getElem h3, Htk.out, h2, h4, hxy])
        subst hxy
        go_upto_region 6 with fail
        --<DT
        refine wp_region_F [3, 7] (looks [(3, fun z => Ext no wr z), (7, fun z => Ext no wr z)]) (by kernel_rfl) ?_
        have hT0 : ∀ k, looks [(3, fun z => Ext no wr z), (7, fun z => Ext no wr z)] k (wr.drew) := looks_all ⟨(Ext.drew no wr), (Ext.drew no wr), trivial⟩
        refine wpF_take 0 (v := ?_) rfl (by kernel_rfl) (by kernel_rfl) (by kernel_rfl) (fun _ _ _ h => h) hT0 (by rfl) ?_ ?_
        rotate_left
        · (intro wq; go_simp; try with_reducible rfl)
        simp only [Act.put, List.setIfInBounds_toArray, List.set_cons_zero, List.set_cons_succ]
        refine wpF_take 1 (v := ?_) rfl (by kernel_rfl) (by kernel_rfl) (by kernel_rfl) (fun _ _ _ h => h) hT0 (by rfl) ?_ ?_
        rotate_left
        · (intro wq; go_simp; try with_reducible rfl)
        simp only [Act.put, List.setIfInBounds_toArray, List.set_cons_zero, List.set_cons_succ]
        refine wpF_take 2 (v := .pointer (some ⟨ab, ao + i * 3, none⟩)) rfl (by kernel_rfl) (by kernel_rfl) (by kernel_rfl) (fun _ _ _ h => h) hT0 (by rfl) (by intro wq; go_simp) ?_
        simp only [Act.put, List.setIfInBounds_toArray, List.set_cons_zero, List.set_cons_succ]
        refine wpF_look 3 (v := .agg #[.int .i64 x.dev, .int .i64 x.ep, .int .i64 x.seq]) rfl rfl (by kernel_rfl) (by kernel_rfl) (by kernel_rfl) (by kernel_rfl) (fun _ _ _ h => h) hT0 (by rfl) (fun w hS => by have hS : Ext no wr w := hS; have q0 := hS.keeps x0 (fun h => h); have q1 := hS.keeps x1 (fun h => h); have q2 := hS.keeps x2 (fun h => h); go_simp) ?_
        simp only [Act.put, List.setIfInBounds_toArray, List.set_cons_zero, List.set_cons_succ]
        refine wpF_take 4 (v := ?_) rfl (by kernel_rfl) (by kernel_rfl) (by kernel_rfl) (fun _ _ _ h => h) hT0 (by rfl) ?_ ?_
        rotate_left
        · (intro wq; go_simp; try with_reducible rfl)
        simp only [Act.put, List.setIfInBounds_toArray, List.set_cons_zero, List.set_cons_succ]
        refine wpF_take 5 (v := ?_) rfl (by kernel_rfl) (by kernel_rfl) (by kernel_rfl) (fun _ _ _ h => h) hT0 (by rfl) ?_ ?_
        rotate_left
        · (intro wq; go_simp; try with_reducible rfl)
        simp only [Act.put, List.setIfInBounds_toArray, List.set_cons_zero, List.set_cons_succ]
        refine wpF_take 6 (v := .pointer (some ⟨bb, bo + i * 3, none⟩)) rfl (by kernel_rfl) (by kernel_rfl) (by kernel_rfl) (fun _ _ _ h => h) hT0 (by rfl) (by intro wq; go_simp) ?_
        simp only [Act.put, List.setIfInBounds_toArray, List.set_cons_zero, List.set_cons_succ]
        refine wpF_look 7 (v := .agg #[.int .i64 x.dev, .int .i64 x.ep, .int .i64 x.seq]) rfl rfl (by kernel_rfl) (by kernel_rfl) (by kernel_rfl) (by kernel_rfl) (fun _ _ _ h => h) hT0 (by rfl) (fun w hS => by have hS : Ext no wr w := hS; have q0 := hS.keeps y0 (fun h => h); have q1 := hS.keeps y1 (fun h => h); have q2 := hS.keeps y2 (fun h => h); go_simp) ?_
        simp only [Act.put, List.setIfInBounds_toArray, List.set_cons_zero, List.set_cons_succ]
        refine wpF_take 8 (v := .bool false) rfl (by kernel_rfl) (by kernel_rfl) (by kernel_rfl) (fun _ _ _ h => h) hT0 (by rfl) (by intro wq; go_simp) ?_
        simp only [Act.put, List.setIfInBounds_toArray, List.set_cons_zero, List.set_cons_succ]
        refine wpF_done (by kernel_rfl) ?_ _
        go_wp2_with fail
        go_roundw
        case rel => exact ⟨i + 1, by omega, by go_num, HE.out, hx.comp (Ext.drew no wr)⟩
        case measure => simp [intOf]; omega
        -->DT
      · have HE := Lib.hid (show ¬ l = m from fun h => by rw [h] at hx1; rw [hx1] at hy1; cases hy1; exact hxy rfl)
        have HF := Lib.hid (show x.eqv y = false by
          cases h : x.eqv y with
          | false => rfl
          | true => exact absurd ((DotR.eqv_iff x y).1 h) hxy)
        clear hxy
        go_upto_region 6 with fail
        --<DF
        refine wp_region_F [3, 7] (looks [(3, fun z => Ext no wr z), (7, fun z => Ext no wr z)]) (by kernel_rfl) ?_
        have hT0 : ∀ k, looks [(3, fun z => Ext no wr z), (7, fun z => Ext no wr z)] k (wr.drew) := looks_all ⟨(Ext.drew no wr), (Ext.drew no wr), trivial⟩
        refine wpF_take 0 (v := ?_) rfl (by kernel_rfl) (by kernel_rfl) (by kernel_rfl) (fun _ _ _ h => h) hT0 (by rfl) ?_ ?_
        rotate_left
        · (intro wq; go_simp; try with_reducible rfl)
        simp only [Act.put, List.setIfInBounds_toArray, List.set_cons_zero, List.set_cons_succ]
        refine wpF_take 1 (v := ?_) rfl (by kernel_rfl) (by kernel_rfl) (by kernel_rfl) (fun _ _ _ h => h) hT0 (by rfl) ?_ ?_
        rotate_left
        · (intro wq; go_simp; try with_reducible rfl)
        simp only [Act.put, List.setIfInBounds_toArray, List.set_cons_zero, List.set_cons_succ]
        refine wpF_take 2 (v := .pointer (some ⟨ab, ao + i * 3, none⟩)) rfl (by kernel_rfl) (by kernel_rfl) (by kernel_rfl) (fun _ _ _ h => h) hT0 (by rfl) (by intro wq; go_simp) ?_
        simp only [Act.put, List.setIfInBounds_toArray, List.set_cons_zero, List.set_cons_succ]
        refine wpF_look 3 (v := .agg #[.int .i64 x.dev, .int .i64 x.ep, .int .i64 x.seq]) rfl rfl (by kernel_rfl) (by kernel_rfl) (by kernel_rfl) (by kernel_rfl) (fun _ _ _ h => h) hT0 (by rfl) (fun w hS => by have hS : Ext no wr w := hS; have q0 := hS.keeps x0 (fun h => h); have q1 := hS.keeps x1 (fun h => h); have q2 := hS.keeps x2 (fun h => h); go_simp) ?_
        simp only [Act.put, List.setIfInBounds_toArray, List.set_cons_zero, List.set_cons_succ]
        refine wpF_take 4 (v := ?_) rfl (by kernel_rfl) (by kernel_rfl) (by kernel_rfl) (fun _ _ _ h => h) hT0 (by rfl) ?_ ?_
        rotate_left
        · (intro wq; go_simp; try with_reducible rfl)
        simp only [Act.put, List.setIfInBounds_toArray, List.set_cons_zero, List.set_cons_succ]
        refine wpF_take 5 (v := ?_) rfl (by kernel_rfl) (by kernel_rfl) (by kernel_rfl) (fun _ _ _ h => h) hT0 (by rfl) ?_ ?_
        rotate_left
        · (intro wq; go_simp; try with_reducible rfl)
        simp only [Act.put, List.setIfInBounds_toArray, List.set_cons_zero, List.set_cons_succ]
        refine wpF_take 6 (v := .pointer (some ⟨bb, bo + i * 3, none⟩)) rfl (by kernel_rfl) (by kernel_rfl) (by kernel_rfl) (fun _ _ _ h => h) hT0 (by rfl) (by intro wq; go_simp) ?_
        simp only [Act.put, List.setIfInBounds_toArray, List.set_cons_zero, List.set_cons_succ]
        refine wpF_look 7 (v := .agg #[.int .i64 y.dev, .int .i64 y.ep, .int .i64 y.seq]) rfl rfl (by kernel_rfl) (by kernel_rfl) (by kernel_rfl) (by kernel_rfl) (fun _ _ _ h => h) hT0 (by rfl) (fun w hS => by have hS : Ext no wr w := hS; have q0 := hS.keeps y0 (fun h => h); have q1 := hS.keeps y1 (fun h => h); have q2 := hS.keeps y2 (fun h => h); go_simp) ?_
        simp only [Act.put, List.setIfInBounds_toArray, List.set_cons_zero, List.set_cons_succ]
        refine wpF_take 8 (v := .bool true) rfl (by kernel_rfl) (by kernel_rfl) (by kernel_rfl) (fun _ _ _ h => h) hT0 (by rfl) (by intro wq; go_simp; exact eqv_not HF.out) ?_
        simp only [Act.put, List.setIfInBounds_toArray, List.set_cons_zero, List.set_cons_succ]
        refine wpF_done (by kernel_rfl) ?_ _
        go_wp2_with fail
        go_ret
        exact ⟨false, rfl, by simp [HE.out], hx.comp (Ext.drew no wr)⟩
        -->DF
    · have d1 : decide (i < l.length) = false := decF hil
      have HE := Lib.hid (show l = m by
        have := Htk.out
        have := Hlm.out
        rwa [List.take_of_length_le (by omega), List.take_of_length_le (by omega)] at *)
      go_wp2_with fail
      go_ret
      exact ⟨true, rfl, by simp [HE.out], hx⟩
end Go.Proofs.Ytddobhihjljcgaa
