/- slices.Equal of each kind of record; the reference's Dots. -/
import Derived.Test.YtejmmkjpncpedaaGreatCoE
import Derived.Test.YtejmmkjpncpedaaGreatCoM
import Derived.Test.YtejmmkjpncpedaaGreatStr
namespace Go.Proofs.YtejmmkjpncpedaaGreat
open Go.RowKit Go.Esc
set_option linter.unusedVariables false
set_option linter.unusedSimpArgs false
theorem str_inj {a b : List UInt8} (h : str a = str b) : a = b := by
  have := congrArg ByteArray.toList h
  rwa [toList_str, toList_str] at this
theorem eqEntry_ne {x y : DotR} (h : x ≠ y) : x.dev = y.dev → x.ep = y.ep → ¬ x.seq = y.seq := by
  intro h0 h1 h2
  apply h
  obtain ⟨x0, x1, x2⟩ := x
  obtain ⟨y0, y1, y2⟩ := y
  simp only at *
  simp_all
set_option maxHeartbeats 1000000 in
theorem eqEntry_any (w : World) (a b : Option Addr) (c d : Nat) (l m : List DotR) (hl : Rd w a (rows DotR.cells l)) (hm : Rd w b (rows DotR.cells m)) (hll : l.length ≤ 1099511627776) (hml : m.length ≤ 1099511627776) :
    Calls Tryz.prog 14 #[.slice a l.length c, .slice b m.length d] w fun e w' => ∃ r : Bool, e = .returned (.bool r) ∧ (r = true ↔ l = m) ∧ Ext no w w' := by
  by_cases hlm : l.length = m.length
  rotate_left
  · have Hne := Lib.hid (show ¬ l = m from fun h => hlm (by rw [h]))
    have d0 : (((l.length : Nat) : Int) != ((m.length : Nat) : Int)) = true := by rw [bne_iff_ne]; omega
    have d0' : (l.length == m.length) = false := by rw [beq_eq_false_iff_ne]; exact hlm
    go_enter Tryz.func14, Tryz.ntmps14
    clear hlm
    go_wp2_with fail
    go_ret
    exact ⟨false, rfl, by simp [Hne.out], Ext.refl _ _⟩
  have Hlm := Lib.hid hlm
  have d0' : (l.length == m.length) = true := by rw [beq_iff_eq]; exact hlm
  have d0 : (((l.length : Nat) : Int) != ((m.length : Nat) : Int)) = false := by rw [bne_eq_false_iff_eq]; omega
  clear hlm
  go_enter Tryz.func14, Tryz.ntmps14
  go_wp2_with fail
  go_loopw [13] (fun s wr => ∃ i : Nat, i ≤ l.length ∧ s = .int .i64 i ∧ l.take i = m.take i ∧ Ext no w wr) (fun s _ => l.length - (intOf s).toNat)
  case atStart => exact ⟨0, by omega, rfl, rfl, Ext.refl _ _⟩
  case round =>
    obtain ⟨i, hi, rfl, htk, hx⟩ := hrel
    have Htk := Lib.hid htk
    clear htk
    by_cases hil : i < l.length
    · have d1 : decide (i < l.length) = true := decT hil
      have him : i < m.length := by have := Hlm.out; omega
      have hl2 := hl.ext hx (fun _ _ h => h)
      have hm2 := hm.ext hx (fun _ _ h => h)
      obtain ⟨ab, ao, rfl, _⟩ := rows_shape kEntry (by omega) hl2 (by omega)
      obtain ⟨bb, bo, rfl, _⟩ := rows_shape kEntry (by omega) hm2 (by omega)
      obtain ⟨x, hx1⟩ : ∃ x, l[i]? = some x := ⟨_, List.getElem?_eq_getElem hil⟩
      obtain ⟨y, hy1⟩ : ∃ y, m[i]? = some y := ⟨_, List.getElem?_eq_getElem him⟩
      have x0 : wr.cell? ⟨ab, ao + i * 3, none⟩ = some (.int .i64 x.dev) := rows_cell kEntry hl2 hx1 0 _ rfl
      have x1 : wr.cell? ⟨ab, ao + i * 3 + 1, none⟩ = some (.int .i64 x.ep) := rows_cell kEntry hl2 hx1 1 _ rfl
      have x2 : wr.cell? ⟨ab, ao + i * 3 + 2, none⟩ = some (.int .i64 x.seq) := rows_cell kEntry hl2 hx1 2 _ rfl
      have y0 : wr.cell? ⟨bb, bo + i * 3, none⟩ = some (.int .i64 y.dev) := rows_cell kEntry hm2 hy1 0 _ rfl
      have y1 : wr.cell? ⟨bb, bo + i * 3 + 1, none⟩ = some (.int .i64 y.ep) := rows_cell kEntry hm2 hy1 1 _ rfl
      have y2 : wr.cell? ⟨bb, bo + i * 3 + 2, none⟩ = some (.int .i64 y.seq) := rows_cell kEntry hm2 hy1 2 _ rfl
      by_cases hxy : x = y
      · have HE := Lib.hid (show l.take (i + 1) = m.take (i + 1) by
          obtain ⟨h1, h2⟩ := List.getElem?_eq_some_iff.1 hx1
          obtain ⟨h3, h4⟩ := List.getElem?_eq_some_iff.1 hy1
          rw [List.take_succ_eq_append_getElem h1, List.take_succ_eq_append_getElem h3, Htk.out, h2, h4, hxy])
        subst hxy
        go_upto_region 6 with fail
        refine wp_region_F [3, 7] (looks [(3, fun z => Ext no wr z), (7, fun z => Ext no wr z)]) (by kernel_rfl) ?_
        have hT0 : ∀ k, looks [(3, fun z => Ext no wr z), (7, fun z => Ext no wr z)] k (wr.drew) := looks_all ⟨Ext.drew no wr, Ext.drew no wr, trivial⟩
        refine wpF_take 0 (v := ?_) rfl (by kernel_rfl) (by kernel_rfl) (by kernel_rfl) (fun _ _ _ h => h) hT0 (by rfl) ?_ ?_
        rotate_left
        · (intro wq; go_simp; try with_reducible rfl)
        simp only [pz]
        refine wpF_take 1 (v := ?_) rfl (by kernel_rfl) (by kernel_rfl) (by kernel_rfl) (fun _ _ _ h => h) hT0 (by rfl) ?_ ?_
        rotate_left
        · (intro wq; go_simp; try with_reducible rfl)
        simp only [pz]
        refine wpF_take 2 (v := .pointer (some ⟨ab, ao + i * 3, none⟩)) rfl (by kernel_rfl) (by kernel_rfl) (by kernel_rfl) (fun _ _ _ h => h) hT0 (by rfl) (by intro wq; go_simp) ?_
        simp only [pz]
        refine wpF_look 3 (v := .agg #[.int .i64 x.dev, .int .i64 x.ep, .int .i64 x.seq]) rfl rfl (by kernel_rfl) (by kernel_rfl) (by kernel_rfl) (by kernel_rfl) (fun _ _ _ h => h) hT0 (by rfl) (fun w hS => by have hS : Ext no wr w := hS; have q0 := hS.keeps x0 (fun h => h); have q1 := hS.keeps x1 (fun h => h); have q2 := hS.keeps x2 (fun h => h); go_simp) ?_
        simp only [pz]
        refine wpF_take 4 (v := ?_) rfl (by kernel_rfl) (by kernel_rfl) (by kernel_rfl) (fun _ _ _ h => h) hT0 (by rfl) ?_ ?_
        rotate_left
        · (intro wq; go_simp; try with_reducible rfl)
        simp only [pz]
        refine wpF_take 5 (v := ?_) rfl (by kernel_rfl) (by kernel_rfl) (by kernel_rfl) (fun _ _ _ h => h) hT0 (by rfl) ?_ ?_
        rotate_left
        · (intro wq; go_simp; try with_reducible rfl)
        simp only [pz]
        refine wpF_take 6 (v := .pointer (some ⟨bb, bo + i * 3, none⟩)) rfl (by kernel_rfl) (by kernel_rfl) (by kernel_rfl) (fun _ _ _ h => h) hT0 (by rfl) (by intro wq; go_simp) ?_
        simp only [pz]
        refine wpF_look 7 (v := .agg #[.int .i64 x.dev, .int .i64 x.ep, .int .i64 x.seq]) rfl rfl (by kernel_rfl) (by kernel_rfl) (by kernel_rfl) (by kernel_rfl) (fun _ _ _ h => h) hT0 (by rfl) (fun w hS => by have hS : Ext no wr w := hS; have q0 := hS.keeps y0 (fun h => h); have q1 := hS.keeps y1 (fun h => h); have q2 := hS.keeps y2 (fun h => h); go_simp) ?_
        simp only [pz]
        refine wpF_take 8 (v := .bool false) rfl (by kernel_rfl) (by kernel_rfl) (by kernel_rfl) (fun _ _ _ h => h) hT0 (by rfl) (by intro wq; go_simp) ?_
        simp only [pz]
        refine wpF_done (by kernel_rfl) ?_ _
        go_wp2_with fail
        go_roundw
        case rel => exact ⟨i + 1, by omega, by go_num, HE.out, hx.comp (Ext.drew no wr)⟩
        case measure => simp [intOf]; omega
      · have HE := Lib.hid (show ¬ l = m from fun h => by rw [h] at hx1; rw [hx1] at hy1; cases hy1; exact hxy rfl)
        have HF := Lib.hid hxy
        clear hxy
        go_upto_region 6 with fail
        refine wp_region_F [3, 7] (looks [(3, fun z => Ext no wr z), (7, fun z => Ext no wr z)]) (by kernel_rfl) ?_
        have hT0 : ∀ k, looks [(3, fun z => Ext no wr z), (7, fun z => Ext no wr z)] k (wr.drew) := looks_all ⟨Ext.drew no wr, Ext.drew no wr, trivial⟩
        refine wpF_take 0 (v := ?_) rfl (by kernel_rfl) (by kernel_rfl) (by kernel_rfl) (fun _ _ _ h => h) hT0 (by rfl) ?_ ?_
        rotate_left
        · (intro wq; go_simp; try with_reducible rfl)
        simp only [pz]
        refine wpF_take 1 (v := ?_) rfl (by kernel_rfl) (by kernel_rfl) (by kernel_rfl) (fun _ _ _ h => h) hT0 (by rfl) ?_ ?_
        rotate_left
        · (intro wq; go_simp; try with_reducible rfl)
        simp only [pz]
        refine wpF_take 2 (v := .pointer (some ⟨ab, ao + i * 3, none⟩)) rfl (by kernel_rfl) (by kernel_rfl) (by kernel_rfl) (fun _ _ _ h => h) hT0 (by rfl) (by intro wq; go_simp) ?_
        simp only [pz]
        refine wpF_look 3 (v := .agg #[.int .i64 x.dev, .int .i64 x.ep, .int .i64 x.seq]) rfl rfl (by kernel_rfl) (by kernel_rfl) (by kernel_rfl) (by kernel_rfl) (fun _ _ _ h => h) hT0 (by rfl) (fun w hS => by have hS : Ext no wr w := hS; have q0 := hS.keeps x0 (fun h => h); have q1 := hS.keeps x1 (fun h => h); have q2 := hS.keeps x2 (fun h => h); go_simp) ?_
        simp only [pz]
        refine wpF_take 4 (v := ?_) rfl (by kernel_rfl) (by kernel_rfl) (by kernel_rfl) (fun _ _ _ h => h) hT0 (by rfl) ?_ ?_
        rotate_left
        · (intro wq; go_simp; try with_reducible rfl)
        simp only [pz]
        refine wpF_take 5 (v := ?_) rfl (by kernel_rfl) (by kernel_rfl) (by kernel_rfl) (fun _ _ _ h => h) hT0 (by rfl) ?_ ?_
        rotate_left
        · (intro wq; go_simp; try with_reducible rfl)
        simp only [pz]
        refine wpF_take 6 (v := .pointer (some ⟨bb, bo + i * 3, none⟩)) rfl (by kernel_rfl) (by kernel_rfl) (by kernel_rfl) (fun _ _ _ h => h) hT0 (by rfl) (by intro wq; go_simp) ?_
        simp only [pz]
        refine wpF_look 7 (v := .agg #[.int .i64 y.dev, .int .i64 y.ep, .int .i64 y.seq]) rfl rfl (by kernel_rfl) (by kernel_rfl) (by kernel_rfl) (by kernel_rfl) (fun _ _ _ h => h) hT0 (by rfl) (fun w hS => by have hS : Ext no wr w := hS; have q0 := hS.keeps y0 (fun h => h); have q1 := hS.keeps y1 (fun h => h); have q2 := hS.keeps y2 (fun h => h); go_simp) ?_
        simp only [pz]
        refine wpF_take 8 (v := .bool true) rfl (by kernel_rfl) (by kernel_rfl) (by kernel_rfl) (fun _ _ _ h => h) hT0 (by rfl) (by intro wq; go_simp; exact eqEntry_ne HF.out) ?_
        simp only [pz]
        refine wpF_done (by kernel_rfl) ?_ _
        go_wp2_with fail
        go_ret
        exact ⟨false, rfl, by simp [HE.out], hx.comp (Ext.drew no wr)⟩
    · have d1 : decide (i < l.length) = false := decF hil
      have HE := Lib.hid (show l = m by
        have := Htk.out
        have := Hlm.out
        rwa [List.take_of_length_le (by omega), List.take_of_length_le (by omega)] at *)
      go_wp2_with fail
      go_ret
      exact ⟨true, rfl, by simp [HE.out], hx⟩
theorem eqReg_ne {x y : RegR} (h : x ≠ y) : (str x.key).toList = (str y.key).toList → (str x.text).toList = (str y.text).toList → x.ver = y.ver → x.time = y.time → x.dot.dev = y.dot.dev → x.dot.ep = y.dot.ep → ¬ x.dot.seq = y.dot.seq := by
  intro h0 h1 h2 h3 h4 h5 h6
  apply h
  rw [toList_str, toList_str] at h0
  rw [toList_str, toList_str] at h1
  obtain ⟨x0, x1, x2, x3, x4⟩ := x
  obtain ⟨y0, y1, y2, y3, y4⟩ := y
  obtain ⟨p0, p1, p2⟩ := x4
  obtain ⟨q0, q1, q2⟩ := y4
  simp only at *
  simp_all
set_option maxHeartbeats 1000000 in
theorem eqReg_any (w : World) (a b : Option Addr) (c d : Nat) (l m : List RegR) (hl : Rd w a (rows RegR.cells l)) (hm : Rd w b (rows RegR.cells m)) (hll : l.length ≤ 1099511627776) (hml : m.length ≤ 1099511627776) :
    Calls Tryz.prog 15 #[.slice a l.length c, .slice b m.length d] w fun e w' => ∃ r : Bool, e = .returned (.bool r) ∧ (r = true ↔ l = m) ∧ Ext no w w' := by
  by_cases hlm : l.length = m.length
  rotate_left
  · have Hne := Lib.hid (show ¬ l = m from fun h => hlm (by rw [h]))
    have d0 : (((l.length : Nat) : Int) != ((m.length : Nat) : Int)) = true := by rw [bne_iff_ne]; omega
    have d0' : (l.length == m.length) = false := by rw [beq_eq_false_iff_ne]; exact hlm
    go_enter Tryz.func15, Tryz.ntmps15
    clear hlm
    go_wp2_with fail
    go_ret
    exact ⟨false, rfl, by simp [Hne.out], Ext.refl _ _⟩
  have Hlm := Lib.hid hlm
  have d0' : (l.length == m.length) = true := by rw [beq_iff_eq]; exact hlm
  have d0 : (((l.length : Nat) : Int) != ((m.length : Nat) : Int)) = false := by rw [bne_eq_false_iff_eq]; omega
  clear hlm
  go_enter Tryz.func15, Tryz.ntmps15
  go_wp2_with fail
  go_loopw [13] (fun s wr => ∃ i : Nat, i ≤ l.length ∧ s = .int .i64 i ∧ l.take i = m.take i ∧ Ext no w wr) (fun s _ => l.length - (intOf s).toNat)
  case atStart => exact ⟨0, by omega, rfl, rfl, Ext.refl _ _⟩
  case round =>
    obtain ⟨i, hi, rfl, htk, hx⟩ := hrel
    have Htk := Lib.hid htk
    clear htk
    by_cases hil : i < l.length
    · have d1 : decide (i < l.length) = true := decT hil
      have him : i < m.length := by have := Hlm.out; omega
      have hl2 := hl.ext hx (fun _ _ h => h)
      have hm2 := hm.ext hx (fun _ _ h => h)
      obtain ⟨ab, ao, rfl, _⟩ := rows_shape kReg (by omega) hl2 (by omega)
      obtain ⟨bb, bo, rfl, _⟩ := rows_shape kReg (by omega) hm2 (by omega)
      obtain ⟨x, hx1⟩ : ∃ x, l[i]? = some x := ⟨_, List.getElem?_eq_getElem hil⟩
      obtain ⟨y, hy1⟩ : ∃ y, m[i]? = some y := ⟨_, List.getElem?_eq_getElem him⟩
      have x0 : wr.cell? ⟨ab, ao + i * 7, none⟩ = some (.string (str x.key)) := rows_cell kReg hl2 hx1 0 _ rfl
      have x1 : wr.cell? ⟨ab, ao + i * 7 + 1, none⟩ = some (.string (str x.text)) := rows_cell kReg hl2 hx1 1 _ rfl
      have x2 : wr.cell? ⟨ab, ao + i * 7 + 2, none⟩ = some (.int .i64 x.ver) := rows_cell kReg hl2 hx1 2 _ rfl
      have x3 : wr.cell? ⟨ab, ao + i * 7 + 3, none⟩ = some (.int .i64 x.time) := rows_cell kReg hl2 hx1 3 _ rfl
      have x4 : wr.cell? ⟨ab, ao + i * 7 + 4, none⟩ = some (.int .i64 x.dot.dev) := rows_cell kReg hl2 hx1 4 _ rfl
      have x5 : wr.cell? ⟨ab, ao + i * 7 + 5, none⟩ = some (.int .i64 x.dot.ep) := rows_cell kReg hl2 hx1 5 _ rfl
      have x6 : wr.cell? ⟨ab, ao + i * 7 + 6, none⟩ = some (.int .i64 x.dot.seq) := rows_cell kReg hl2 hx1 6 _ rfl
      have y0 : wr.cell? ⟨bb, bo + i * 7, none⟩ = some (.string (str y.key)) := rows_cell kReg hm2 hy1 0 _ rfl
      have y1 : wr.cell? ⟨bb, bo + i * 7 + 1, none⟩ = some (.string (str y.text)) := rows_cell kReg hm2 hy1 1 _ rfl
      have y2 : wr.cell? ⟨bb, bo + i * 7 + 2, none⟩ = some (.int .i64 y.ver) := rows_cell kReg hm2 hy1 2 _ rfl
      have y3 : wr.cell? ⟨bb, bo + i * 7 + 3, none⟩ = some (.int .i64 y.time) := rows_cell kReg hm2 hy1 3 _ rfl
      have y4 : wr.cell? ⟨bb, bo + i * 7 + 4, none⟩ = some (.int .i64 y.dot.dev) := rows_cell kReg hm2 hy1 4 _ rfl
      have y5 : wr.cell? ⟨bb, bo + i * 7 + 5, none⟩ = some (.int .i64 y.dot.ep) := rows_cell kReg hm2 hy1 5 _ rfl
      have y6 : wr.cell? ⟨bb, bo + i * 7 + 6, none⟩ = some (.int .i64 y.dot.seq) := rows_cell kReg hm2 hy1 6 _ rfl
      by_cases hxy : x = y
      · have HE := Lib.hid (show l.take (i + 1) = m.take (i + 1) by
          obtain ⟨h1, h2⟩ := List.getElem?_eq_some_iff.1 hx1
          obtain ⟨h3, h4⟩ := List.getElem?_eq_some_iff.1 hy1
          rw [List.take_succ_eq_append_getElem h1, List.take_succ_eq_append_getElem h3, Htk.out, h2, h4, hxy])
        subst hxy
        go_upto_region 6 with fail
        refine wp_region_F [3, 7] (looks [(3, fun z => Ext no wr z), (7, fun z => Ext no wr z)]) (by kernel_rfl) ?_
        have hT0 : ∀ k, looks [(3, fun z => Ext no wr z), (7, fun z => Ext no wr z)] k (wr.drew) := looks_all ⟨Ext.drew no wr, Ext.drew no wr, trivial⟩
        refine wpF_take 0 (v := ?_) rfl (by kernel_rfl) (by kernel_rfl) (by kernel_rfl) (fun _ _ _ h => h) hT0 (by rfl) ?_ ?_
        rotate_left
        · (intro wq; go_simp; try with_reducible rfl)
        simp only [pz]
        refine wpF_take 1 (v := ?_) rfl (by kernel_rfl) (by kernel_rfl) (by kernel_rfl) (fun _ _ _ h => h) hT0 (by rfl) ?_ ?_
        rotate_left
        · (intro wq; go_simp; try with_reducible rfl)
        simp only [pz]
        refine wpF_take 2 (v := .pointer (some ⟨ab, ao + i * 7, none⟩)) rfl (by kernel_rfl) (by kernel_rfl) (by kernel_rfl) (fun _ _ _ h => h) hT0 (by rfl) (by intro wq; go_simp) ?_
        simp only [pz]
        refine wpF_look 3 (v := .agg #[.string (str x.key), .string (str x.text), .int .i64 x.ver, .int .i64 x.time, .int .i64 x.dot.dev, .int .i64 x.dot.ep, .int .i64 x.dot.seq]) rfl rfl (by kernel_rfl) (by kernel_rfl) (by kernel_rfl) (by kernel_rfl) (fun _ _ _ h => h) hT0 (by rfl) (fun w hS => by have hS : Ext no wr w := hS; have q0 := hS.keeps x0 (fun h => h); have q1 := hS.keeps x1 (fun h => h); have q2 := hS.keeps x2 (fun h => h); have q3 := hS.keeps x3 (fun h => h); have q4 := hS.keeps x4 (fun h => h); have q5 := hS.keeps x5 (fun h => h); have q6 := hS.keeps x6 (fun h => h); go_simp) ?_
        simp only [pz]
        refine wpF_take 4 (v := ?_) rfl (by kernel_rfl) (by kernel_rfl) (by kernel_rfl) (fun _ _ _ h => h) hT0 (by rfl) ?_ ?_
        rotate_left
        · (intro wq; go_simp; try with_reducible rfl)
        simp only [pz]
        refine wpF_take 5 (v := ?_) rfl (by kernel_rfl) (by kernel_rfl) (by kernel_rfl) (fun _ _ _ h => h) hT0 (by rfl) ?_ ?_
        rotate_left
        · (intro wq; go_simp; try with_reducible rfl)
        simp only [pz]
        refine wpF_take 6 (v := .pointer (some ⟨bb, bo + i * 7, none⟩)) rfl (by kernel_rfl) (by kernel_rfl) (by kernel_rfl) (fun _ _ _ h => h) hT0 (by rfl) (by intro wq; go_simp) ?_
        simp only [pz]
        refine wpF_look 7 (v := .agg #[.string (str x.key), .string (str x.text), .int .i64 x.ver, .int .i64 x.time, .int .i64 x.dot.dev, .int .i64 x.dot.ep, .int .i64 x.dot.seq]) rfl rfl (by kernel_rfl) (by kernel_rfl) (by kernel_rfl) (by kernel_rfl) (fun _ _ _ h => h) hT0 (by rfl) (fun w hS => by have hS : Ext no wr w := hS; have q0 := hS.keeps y0 (fun h => h); have q1 := hS.keeps y1 (fun h => h); have q2 := hS.keeps y2 (fun h => h); have q3 := hS.keeps y3 (fun h => h); have q4 := hS.keeps y4 (fun h => h); have q5 := hS.keeps y5 (fun h => h); have q6 := hS.keeps y6 (fun h => h); go_simp) ?_
        simp only [pz]
        refine wpF_take 8 (v := .bool false) rfl (by kernel_rfl) (by kernel_rfl) (by kernel_rfl) (fun _ _ _ h => h) hT0 (by rfl) (by intro wq; go_simp) ?_
        simp only [pz]
        refine wpF_done (by kernel_rfl) ?_ _
        go_wp2_with fail
        go_roundw
        case rel => exact ⟨i + 1, by omega, by go_num, HE.out, hx.comp (Ext.drew no wr)⟩
        case measure => simp [intOf]; omega
      · have HE := Lib.hid (show ¬ l = m from fun h => by rw [h] at hx1; rw [hx1] at hy1; cases hy1; exact hxy rfl)
        have HF := Lib.hid hxy
        clear hxy
        go_upto_region 6 with fail
        refine wp_region_F [3, 7] (looks [(3, fun z => Ext no wr z), (7, fun z => Ext no wr z)]) (by kernel_rfl) ?_
        have hT0 : ∀ k, looks [(3, fun z => Ext no wr z), (7, fun z => Ext no wr z)] k (wr.drew) := looks_all ⟨Ext.drew no wr, Ext.drew no wr, trivial⟩
        refine wpF_take 0 (v := ?_) rfl (by kernel_rfl) (by kernel_rfl) (by kernel_rfl) (fun _ _ _ h => h) hT0 (by rfl) ?_ ?_
        rotate_left
        · (intro wq; go_simp; try with_reducible rfl)
        simp only [pz]
        refine wpF_take 1 (v := ?_) rfl (by kernel_rfl) (by kernel_rfl) (by kernel_rfl) (fun _ _ _ h => h) hT0 (by rfl) ?_ ?_
        rotate_left
        · (intro wq; go_simp; try with_reducible rfl)
        simp only [pz]
        refine wpF_take 2 (v := .pointer (some ⟨ab, ao + i * 7, none⟩)) rfl (by kernel_rfl) (by kernel_rfl) (by kernel_rfl) (fun _ _ _ h => h) hT0 (by rfl) (by intro wq; go_simp) ?_
        simp only [pz]
        refine wpF_look 3 (v := .agg #[.string (str x.key), .string (str x.text), .int .i64 x.ver, .int .i64 x.time, .int .i64 x.dot.dev, .int .i64 x.dot.ep, .int .i64 x.dot.seq]) rfl rfl (by kernel_rfl) (by kernel_rfl) (by kernel_rfl) (by kernel_rfl) (fun _ _ _ h => h) hT0 (by rfl) (fun w hS => by have hS : Ext no wr w := hS; have q0 := hS.keeps x0 (fun h => h); have q1 := hS.keeps x1 (fun h => h); have q2 := hS.keeps x2 (fun h => h); have q3 := hS.keeps x3 (fun h => h); have q4 := hS.keeps x4 (fun h => h); have q5 := hS.keeps x5 (fun h => h); have q6 := hS.keeps x6 (fun h => h); go_simp) ?_
        simp only [pz]
        refine wpF_take 4 (v := ?_) rfl (by kernel_rfl) (by kernel_rfl) (by kernel_rfl) (fun _ _ _ h => h) hT0 (by rfl) ?_ ?_
        rotate_left
        · (intro wq; go_simp; try with_reducible rfl)
        simp only [pz]
        refine wpF_take 5 (v := ?_) rfl (by kernel_rfl) (by kernel_rfl) (by kernel_rfl) (fun _ _ _ h => h) hT0 (by rfl) ?_ ?_
        rotate_left
        · (intro wq; go_simp; try with_reducible rfl)
        simp only [pz]
        refine wpF_take 6 (v := .pointer (some ⟨bb, bo + i * 7, none⟩)) rfl (by kernel_rfl) (by kernel_rfl) (by kernel_rfl) (fun _ _ _ h => h) hT0 (by rfl) (by intro wq; go_simp) ?_
        simp only [pz]
        refine wpF_look 7 (v := .agg #[.string (str y.key), .string (str y.text), .int .i64 y.ver, .int .i64 y.time, .int .i64 y.dot.dev, .int .i64 y.dot.ep, .int .i64 y.dot.seq]) rfl rfl (by kernel_rfl) (by kernel_rfl) (by kernel_rfl) (by kernel_rfl) (fun _ _ _ h => h) hT0 (by rfl) (fun w hS => by have hS : Ext no wr w := hS; have q0 := hS.keeps y0 (fun h => h); have q1 := hS.keeps y1 (fun h => h); have q2 := hS.keeps y2 (fun h => h); have q3 := hS.keeps y3 (fun h => h); have q4 := hS.keeps y4 (fun h => h); have q5 := hS.keeps y5 (fun h => h); have q6 := hS.keeps y6 (fun h => h); go_simp) ?_
        simp only [pz]
        refine wpF_take 8 (v := .bool true) rfl (by kernel_rfl) (by kernel_rfl) (by kernel_rfl) (fun _ _ _ h => h) hT0 (by rfl) (by intro wq; go_simp; exact eqReg_ne HF.out) ?_
        simp only [pz]
        refine wpF_done (by kernel_rfl) ?_ _
        go_wp2_with fail
        go_ret
        exact ⟨false, rfl, by simp [HE.out], hx.comp (Ext.drew no wr)⟩
    · have d1 : decide (i < l.length) = false := decF hil
      have HE := Lib.hid (show l = m by
        have := Htk.out
        have := Hlm.out
        rwa [List.take_of_length_le (by omega), List.take_of_length_le (by omega)] at *)
      go_wp2_with fail
      go_ret
      exact ⟨true, rfl, by simp [HE.out], hx⟩
theorem eqElem_ne {x y : ElemR} (h : x ≠ y) : (str x.key).toList = (str y.key).toList → (str x.text).toList = (str y.text).toList → x.ver = y.ver → x.dot.dev = y.dot.dev → x.dot.ep = y.dot.ep → ¬ x.dot.seq = y.dot.seq := by
  intro h0 h1 h2 h3 h4 h5
  apply h
  rw [toList_str, toList_str] at h0
  rw [toList_str, toList_str] at h1
  obtain ⟨x0, x1, x2, x3⟩ := x
  obtain ⟨y0, y1, y2, y3⟩ := y
  obtain ⟨p0, p1, p2⟩ := x3
  obtain ⟨q0, q1, q2⟩ := y3
  simp only at *
  simp_all
set_option maxHeartbeats 1000000 in
theorem eqElem_any (w : World) (a b : Option Addr) (c d : Nat) (l m : List ElemR) (hl : Rd w a (rows ElemR.cells l)) (hm : Rd w b (rows ElemR.cells m)) (hll : l.length ≤ 1099511627776) (hml : m.length ≤ 1099511627776) :
    Calls Tryz.prog 16 #[.slice a l.length c, .slice b m.length d] w fun e w' => ∃ r : Bool, e = .returned (.bool r) ∧ (r = true ↔ l = m) ∧ Ext no w w' := by
  by_cases hlm : l.length = m.length
  rotate_left
  · have Hne := Lib.hid (show ¬ l = m from fun h => hlm (by rw [h]))
    have d0 : (((l.length : Nat) : Int) != ((m.length : Nat) : Int)) = true := by rw [bne_iff_ne]; omega
    have d0' : (l.length == m.length) = false := by rw [beq_eq_false_iff_ne]; exact hlm
    go_enter Tryz.func16, Tryz.ntmps16
    clear hlm
    go_wp2_with fail
    go_ret
    exact ⟨false, rfl, by simp [Hne.out], Ext.refl _ _⟩
  have Hlm := Lib.hid hlm
  have d0' : (l.length == m.length) = true := by rw [beq_iff_eq]; exact hlm
  have d0 : (((l.length : Nat) : Int) != ((m.length : Nat) : Int)) = false := by rw [bne_eq_false_iff_eq]; omega
  clear hlm
  go_enter Tryz.func16, Tryz.ntmps16
  go_wp2_with fail
  go_loopw [13] (fun s wr => ∃ i : Nat, i ≤ l.length ∧ s = .int .i64 i ∧ l.take i = m.take i ∧ Ext no w wr) (fun s _ => l.length - (intOf s).toNat)
  case atStart => exact ⟨0, by omega, rfl, rfl, Ext.refl _ _⟩
  case round =>
    obtain ⟨i, hi, rfl, htk, hx⟩ := hrel
    have Htk := Lib.hid htk
    clear htk
    by_cases hil : i < l.length
    · have d1 : decide (i < l.length) = true := decT hil
      have him : i < m.length := by have := Hlm.out; omega
      have hl2 := hl.ext hx (fun _ _ h => h)
      have hm2 := hm.ext hx (fun _ _ h => h)
      obtain ⟨ab, ao, rfl, _⟩ := rows_shape kElem (by omega) hl2 (by omega)
      obtain ⟨bb, bo, rfl, _⟩ := rows_shape kElem (by omega) hm2 (by omega)
      obtain ⟨x, hx1⟩ : ∃ x, l[i]? = some x := ⟨_, List.getElem?_eq_getElem hil⟩
      obtain ⟨y, hy1⟩ : ∃ y, m[i]? = some y := ⟨_, List.getElem?_eq_getElem him⟩
      have x0 : wr.cell? ⟨ab, ao + i * 6, none⟩ = some (.string (str x.key)) := rows_cell kElem hl2 hx1 0 _ rfl
      have x1 : wr.cell? ⟨ab, ao + i * 6 + 1, none⟩ = some (.string (str x.text)) := rows_cell kElem hl2 hx1 1 _ rfl
      have x2 : wr.cell? ⟨ab, ao + i * 6 + 2, none⟩ = some (.int .i64 x.ver) := rows_cell kElem hl2 hx1 2 _ rfl
      have x3 : wr.cell? ⟨ab, ao + i * 6 + 3, none⟩ = some (.int .i64 x.dot.dev) := rows_cell kElem hl2 hx1 3 _ rfl
      have x4 : wr.cell? ⟨ab, ao + i * 6 + 4, none⟩ = some (.int .i64 x.dot.ep) := rows_cell kElem hl2 hx1 4 _ rfl
      have x5 : wr.cell? ⟨ab, ao + i * 6 + 5, none⟩ = some (.int .i64 x.dot.seq) := rows_cell kElem hl2 hx1 5 _ rfl
      have y0 : wr.cell? ⟨bb, bo + i * 6, none⟩ = some (.string (str y.key)) := rows_cell kElem hm2 hy1 0 _ rfl
      have y1 : wr.cell? ⟨bb, bo + i * 6 + 1, none⟩ = some (.string (str y.text)) := rows_cell kElem hm2 hy1 1 _ rfl
      have y2 : wr.cell? ⟨bb, bo + i * 6 + 2, none⟩ = some (.int .i64 y.ver) := rows_cell kElem hm2 hy1 2 _ rfl
      have y3 : wr.cell? ⟨bb, bo + i * 6 + 3, none⟩ = some (.int .i64 y.dot.dev) := rows_cell kElem hm2 hy1 3 _ rfl
      have y4 : wr.cell? ⟨bb, bo + i * 6 + 4, none⟩ = some (.int .i64 y.dot.ep) := rows_cell kElem hm2 hy1 4 _ rfl
      have y5 : wr.cell? ⟨bb, bo + i * 6 + 5, none⟩ = some (.int .i64 y.dot.seq) := rows_cell kElem hm2 hy1 5 _ rfl
      by_cases hxy : x = y
      · have HE := Lib.hid (show l.take (i + 1) = m.take (i + 1) by
          obtain ⟨h1, h2⟩ := List.getElem?_eq_some_iff.1 hx1
          obtain ⟨h3, h4⟩ := List.getElem?_eq_some_iff.1 hy1
          rw [List.take_succ_eq_append_getElem h1, List.take_succ_eq_append_getElem h3, Htk.out, h2, h4, hxy])
        subst hxy
        go_upto_region 6 with fail
        refine wp_region_F [3, 7] (looks [(3, fun z => Ext no wr z), (7, fun z => Ext no wr z)]) (by kernel_rfl) ?_
        have hT0 : ∀ k, looks [(3, fun z => Ext no wr z), (7, fun z => Ext no wr z)] k (wr.drew) := looks_all ⟨Ext.drew no wr, Ext.drew no wr, trivial⟩
        refine wpF_take 0 (v := ?_) rfl (by kernel_rfl) (by kernel_rfl) (by kernel_rfl) (fun _ _ _ h => h) hT0 (by rfl) ?_ ?_
        rotate_left
        · (intro wq; go_simp; try with_reducible rfl)
        simp only [pz]
        refine wpF_take 1 (v := ?_) rfl (by kernel_rfl) (by kernel_rfl) (by kernel_rfl) (fun _ _ _ h => h) hT0 (by rfl) ?_ ?_
        rotate_left
        · (intro wq; go_simp; try with_reducible rfl)
        simp only [pz]
        refine wpF_take 2 (v := .pointer (some ⟨ab, ao + i * 6, none⟩)) rfl (by kernel_rfl) (by kernel_rfl) (by kernel_rfl) (fun _ _ _ h => h) hT0 (by rfl) (by intro wq; go_simp) ?_
        simp only [pz]
        refine wpF_look 3 (v := .agg #[.string (str x.key), .string (str x.text), .int .i64 x.ver, .int .i64 x.dot.dev, .int .i64 x.dot.ep, .int .i64 x.dot.seq]) rfl rfl (by kernel_rfl) (by kernel_rfl) (by kernel_rfl) (by kernel_rfl) (fun _ _ _ h => h) hT0 (by rfl) (fun w hS => by have hS : Ext no wr w := hS; have q0 := hS.keeps x0 (fun h => h); have q1 := hS.keeps x1 (fun h => h); have q2 := hS.keeps x2 (fun h => h); have q3 := hS.keeps x3 (fun h => h); have q4 := hS.keeps x4 (fun h => h); have q5 := hS.keeps x5 (fun h => h); go_simp) ?_
        simp only [pz]
        refine wpF_take 4 (v := ?_) rfl (by kernel_rfl) (by kernel_rfl) (by kernel_rfl) (fun _ _ _ h => h) hT0 (by rfl) ?_ ?_
        rotate_left
        · (intro wq; go_simp; try with_reducible rfl)
        simp only [pz]
        refine wpF_take 5 (v := ?_) rfl (by kernel_rfl) (by kernel_rfl) (by kernel_rfl) (fun _ _ _ h => h) hT0 (by rfl) ?_ ?_
        rotate_left
        · (intro wq; go_simp; try with_reducible rfl)
        simp only [pz]
        refine wpF_take 6 (v := .pointer (some ⟨bb, bo + i * 6, none⟩)) rfl (by kernel_rfl) (by kernel_rfl) (by kernel_rfl) (fun _ _ _ h => h) hT0 (by rfl) (by intro wq; go_simp) ?_
        simp only [pz]
        refine wpF_look 7 (v := .agg #[.string (str x.key), .string (str x.text), .int .i64 x.ver, .int .i64 x.dot.dev, .int .i64 x.dot.ep, .int .i64 x.dot.seq]) rfl rfl (by kernel_rfl) (by kernel_rfl) (by kernel_rfl) (by kernel_rfl) (fun _ _ _ h => h) hT0 (by rfl) (fun w hS => by have hS : Ext no wr w := hS; have q0 := hS.keeps y0 (fun h => h); have q1 := hS.keeps y1 (fun h => h); have q2 := hS.keeps y2 (fun h => h); have q3 := hS.keeps y3 (fun h => h); have q4 := hS.keeps y4 (fun h => h); have q5 := hS.keeps y5 (fun h => h); go_simp) ?_
        simp only [pz]
        refine wpF_take 8 (v := .bool false) rfl (by kernel_rfl) (by kernel_rfl) (by kernel_rfl) (fun _ _ _ h => h) hT0 (by rfl) (by intro wq; go_simp) ?_
        simp only [pz]
        refine wpF_done (by kernel_rfl) ?_ _
        go_wp2_with fail
        go_roundw
        case rel => exact ⟨i + 1, by omega, by go_num, HE.out, hx.comp (Ext.drew no wr)⟩
        case measure => simp [intOf]; omega
      · have HE := Lib.hid (show ¬ l = m from fun h => by rw [h] at hx1; rw [hx1] at hy1; cases hy1; exact hxy rfl)
        have HF := Lib.hid hxy
        clear hxy
        go_upto_region 6 with fail
        refine wp_region_F [3, 7] (looks [(3, fun z => Ext no wr z), (7, fun z => Ext no wr z)]) (by kernel_rfl) ?_
        have hT0 : ∀ k, looks [(3, fun z => Ext no wr z), (7, fun z => Ext no wr z)] k (wr.drew) := looks_all ⟨Ext.drew no wr, Ext.drew no wr, trivial⟩
        refine wpF_take 0 (v := ?_) rfl (by kernel_rfl) (by kernel_rfl) (by kernel_rfl) (fun _ _ _ h => h) hT0 (by rfl) ?_ ?_
        rotate_left
        · (intro wq; go_simp; try with_reducible rfl)
        simp only [pz]
        refine wpF_take 1 (v := ?_) rfl (by kernel_rfl) (by kernel_rfl) (by kernel_rfl) (fun _ _ _ h => h) hT0 (by rfl) ?_ ?_
        rotate_left
        · (intro wq; go_simp; try with_reducible rfl)
        simp only [pz]
        refine wpF_take 2 (v := .pointer (some ⟨ab, ao + i * 6, none⟩)) rfl (by kernel_rfl) (by kernel_rfl) (by kernel_rfl) (fun _ _ _ h => h) hT0 (by rfl) (by intro wq; go_simp) ?_
        simp only [pz]
        refine wpF_look 3 (v := .agg #[.string (str x.key), .string (str x.text), .int .i64 x.ver, .int .i64 x.dot.dev, .int .i64 x.dot.ep, .int .i64 x.dot.seq]) rfl rfl (by kernel_rfl) (by kernel_rfl) (by kernel_rfl) (by kernel_rfl) (fun _ _ _ h => h) hT0 (by rfl) (fun w hS => by have hS : Ext no wr w := hS; have q0 := hS.keeps x0 (fun h => h); have q1 := hS.keeps x1 (fun h => h); have q2 := hS.keeps x2 (fun h => h); have q3 := hS.keeps x3 (fun h => h); have q4 := hS.keeps x4 (fun h => h); have q5 := hS.keeps x5 (fun h => h); go_simp) ?_
        simp only [pz]
        refine wpF_take 4 (v := ?_) rfl (by kernel_rfl) (by kernel_rfl) (by kernel_rfl) (fun _ _ _ h => h) hT0 (by rfl) ?_ ?_
        rotate_left
        · (intro wq; go_simp; try with_reducible rfl)
        simp only [pz]
        refine wpF_take 5 (v := ?_) rfl (by kernel_rfl) (by kernel_rfl) (by kernel_rfl) (fun _ _ _ h => h) hT0 (by rfl) ?_ ?_
        rotate_left
        · (intro wq; go_simp; try with_reducible rfl)
        simp only [pz]
        refine wpF_take 6 (v := .pointer (some ⟨bb, bo + i * 6, none⟩)) rfl (by kernel_rfl) (by kernel_rfl) (by kernel_rfl) (fun _ _ _ h => h) hT0 (by rfl) (by intro wq; go_simp) ?_
        simp only [pz]
        refine wpF_look 7 (v := .agg #[.string (str y.key), .string (str y.text), .int .i64 y.ver, .int .i64 y.dot.dev, .int .i64 y.dot.ep, .int .i64 y.dot.seq]) rfl rfl (by kernel_rfl) (by kernel_rfl) (by kernel_rfl) (by kernel_rfl) (fun _ _ _ h => h) hT0 (by rfl) (fun w hS => by have hS : Ext no wr w := hS; have q0 := hS.keeps y0 (fun h => h); have q1 := hS.keeps y1 (fun h => h); have q2 := hS.keeps y2 (fun h => h); have q3 := hS.keeps y3 (fun h => h); have q4 := hS.keeps y4 (fun h => h); have q5 := hS.keeps y5 (fun h => h); go_simp) ?_
        simp only [pz]
        refine wpF_take 8 (v := .bool true) rfl (by kernel_rfl) (by kernel_rfl) (by kernel_rfl) (fun _ _ _ h => h) hT0 (by rfl) (by intro wq; go_simp; exact eqElem_ne HF.out) ?_
        simp only [pz]
        refine wpF_done (by kernel_rfl) ?_ _
        go_wp2_with fail
        go_ret
        exact ⟨false, rfl, by simp [HE.out], hx.comp (Ext.drew no wr)⟩
    · have d1 : decide (i < l.length) = false := decF hil
      have HE := Lib.hid (show l = m by
        have := Htk.out
        have := Hlm.out
        rwa [List.take_of_length_le (by omega), List.take_of_length_le (by omega)] at *)
      go_wp2_with fail
      go_ret
      exact ⟨true, rfl, by simp [HE.out], hx⟩
theorem eqDot_ne {x y : DotR} (h : x ≠ y) : x.dev = y.dev → x.ep = y.ep → ¬ x.seq = y.seq := by
  intro h0 h1 h2
  apply h
  obtain ⟨x0, x1, x2⟩ := x
  obtain ⟨y0, y1, y2⟩ := y
  simp only at *
  simp_all
set_option maxHeartbeats 1000000 in
theorem eqDot_any (w : World) (a b : Option Addr) (c d : Nat) (l m : List DotR) (hl : Rd w a (rows DotR.cells l)) (hm : Rd w b (rows DotR.cells m)) (hll : l.length ≤ 1099511627776) (hml : m.length ≤ 1099511627776) :
    Calls Tryz.prog 17 #[.slice a l.length c, .slice b m.length d] w fun e w' => ∃ r : Bool, e = .returned (.bool r) ∧ (r = true ↔ l = m) ∧ Ext no w w' := by
  by_cases hlm : l.length = m.length
  rotate_left
  · have Hne := Lib.hid (show ¬ l = m from fun h => hlm (by rw [h]))
    have d0 : (((l.length : Nat) : Int) != ((m.length : Nat) : Int)) = true := by rw [bne_iff_ne]; omega
    have d0' : (l.length == m.length) = false := by rw [beq_eq_false_iff_ne]; exact hlm
    go_enter Tryz.func17, Tryz.ntmps17
    clear hlm
    go_wp2_with fail
    go_ret
    exact ⟨false, rfl, by simp [Hne.out], Ext.refl _ _⟩
  have Hlm := Lib.hid hlm
  have d0' : (l.length == m.length) = true := by rw [beq_iff_eq]; exact hlm
  have d0 : (((l.length : Nat) : Int) != ((m.length : Nat) : Int)) = false := by rw [bne_eq_false_iff_eq]; omega
  clear hlm
  go_enter Tryz.func17, Tryz.ntmps17
  go_wp2_with fail
  go_loopw [13] (fun s wr => ∃ i : Nat, i ≤ l.length ∧ s = .int .i64 i ∧ l.take i = m.take i ∧ Ext no w wr) (fun s _ => l.length - (intOf s).toNat)
  case atStart => exact ⟨0, by omega, rfl, rfl, Ext.refl _ _⟩
  case round =>
    obtain ⟨i, hi, rfl, htk, hx⟩ := hrel
    have Htk := Lib.hid htk
    clear htk
    by_cases hil : i < l.length
    · have d1 : decide (i < l.length) = true := decT hil
      have him : i < m.length := by have := Hlm.out; omega
      have hl2 := hl.ext hx (fun _ _ h => h)
      have hm2 := hm.ext hx (fun _ _ h => h)
      obtain ⟨ab, ao, rfl, _⟩ := rows_shape kDot (by omega) hl2 (by omega)
      obtain ⟨bb, bo, rfl, _⟩ := rows_shape kDot (by omega) hm2 (by omega)
      obtain ⟨x, hx1⟩ : ∃ x, l[i]? = some x := ⟨_, List.getElem?_eq_getElem hil⟩
      obtain ⟨y, hy1⟩ : ∃ y, m[i]? = some y := ⟨_, List.getElem?_eq_getElem him⟩
      have x0 : wr.cell? ⟨ab, ao + i * 3, none⟩ = some (.int .i64 x.dev) := rows_cell kDot hl2 hx1 0 _ rfl
      have x1 : wr.cell? ⟨ab, ao + i * 3 + 1, none⟩ = some (.int .i64 x.ep) := rows_cell kDot hl2 hx1 1 _ rfl
      have x2 : wr.cell? ⟨ab, ao + i * 3 + 2, none⟩ = some (.int .i64 x.seq) := rows_cell kDot hl2 hx1 2 _ rfl
      have y0 : wr.cell? ⟨bb, bo + i * 3, none⟩ = some (.int .i64 y.dev) := rows_cell kDot hm2 hy1 0 _ rfl
      have y1 : wr.cell? ⟨bb, bo + i * 3 + 1, none⟩ = some (.int .i64 y.ep) := rows_cell kDot hm2 hy1 1 _ rfl
      have y2 : wr.cell? ⟨bb, bo + i * 3 + 2, none⟩ = some (.int .i64 y.seq) := rows_cell kDot hm2 hy1 2 _ rfl
      by_cases hxy : x = y
      · have HE := Lib.hid (show l.take (i + 1) = m.take (i + 1) by
          obtain ⟨h1, h2⟩ := List.getElem?_eq_some_iff.1 hx1
          obtain ⟨h3, h4⟩ := List.getElem?_eq_some_iff.1 hy1
          rw [List.take_succ_eq_append_getElem h1, List.take_succ_eq_append_getElem h3, Htk.out, h2, h4, hxy])
        subst hxy
        go_upto_region 6 with fail
        refine wp_region_F [3, 7] (looks [(3, fun z => Ext no wr z), (7, fun z => Ext no wr z)]) (by kernel_rfl) ?_
        have hT0 : ∀ k, looks [(3, fun z => Ext no wr z), (7, fun z => Ext no wr z)] k (wr.drew) := looks_all ⟨Ext.drew no wr, Ext.drew no wr, trivial⟩
        refine wpF_take 0 (v := ?_) rfl (by kernel_rfl) (by kernel_rfl) (by kernel_rfl) (fun _ _ _ h => h) hT0 (by rfl) ?_ ?_
        rotate_left
        · (intro wq; go_simp; try with_reducible rfl)
        simp only [pz]
        refine wpF_take 1 (v := ?_) rfl (by kernel_rfl) (by kernel_rfl) (by kernel_rfl) (fun _ _ _ h => h) hT0 (by rfl) ?_ ?_
        rotate_left
        · (intro wq; go_simp; try with_reducible rfl)
        simp only [pz]
        refine wpF_take 2 (v := .pointer (some ⟨ab, ao + i * 3, none⟩)) rfl (by kernel_rfl) (by kernel_rfl) (by kernel_rfl) (fun _ _ _ h => h) hT0 (by rfl) (by intro wq; go_simp) ?_
        simp only [pz]
        refine wpF_look 3 (v := .agg #[.int .i64 x.dev, .int .i64 x.ep, .int .i64 x.seq]) rfl rfl (by kernel_rfl) (by kernel_rfl) (by kernel_rfl) (by kernel_rfl) (fun _ _ _ h => h) hT0 (by rfl) (fun w hS => by have hS : Ext no wr w := hS; have q0 := hS.keeps x0 (fun h => h); have q1 := hS.keeps x1 (fun h => h); have q2 := hS.keeps x2 (fun h => h); go_simp) ?_
        simp only [pz]
        refine wpF_take 4 (v := ?_) rfl (by kernel_rfl) (by kernel_rfl) (by kernel_rfl) (fun _ _ _ h => h) hT0 (by rfl) ?_ ?_
        rotate_left
        · (intro wq; go_simp; try with_reducible rfl)
        simp only [pz]
        refine wpF_take 5 (v := ?_) rfl (by kernel_rfl) (by kernel_rfl) (by kernel_rfl) (fun _ _ _ h => h) hT0 (by rfl) ?_ ?_
        rotate_left
        · (intro wq; go_simp; try with_reducible rfl)
        simp only [pz]
        refine wpF_take 6 (v := .pointer (some ⟨bb, bo + i * 3, none⟩)) rfl (by kernel_rfl) (by kernel_rfl) (by kernel_rfl) (fun _ _ _ h => h) hT0 (by rfl) (by intro wq; go_simp) ?_
        simp only [pz]
        refine wpF_look 7 (v := .agg #[.int .i64 x.dev, .int .i64 x.ep, .int .i64 x.seq]) rfl rfl (by kernel_rfl) (by kernel_rfl) (by kernel_rfl) (by kernel_rfl) (fun _ _ _ h => h) hT0 (by rfl) (fun w hS => by have hS : Ext no wr w := hS; have q0 := hS.keeps y0 (fun h => h); have q1 := hS.keeps y1 (fun h => h); have q2 := hS.keeps y2 (fun h => h); go_simp) ?_
        simp only [pz]
        refine wpF_take 8 (v := .bool false) rfl (by kernel_rfl) (by kernel_rfl) (by kernel_rfl) (fun _ _ _ h => h) hT0 (by rfl) (by intro wq; go_simp) ?_
        simp only [pz]
        refine wpF_done (by kernel_rfl) ?_ _
        go_wp2_with fail
        go_roundw
        case rel => exact ⟨i + 1, by omega, by go_num, HE.out, hx.comp (Ext.drew no wr)⟩
        case measure => simp [intOf]; omega
      · have HE := Lib.hid (show ¬ l = m from fun h => by rw [h] at hx1; rw [hx1] at hy1; cases hy1; exact hxy rfl)
        have HF := Lib.hid hxy
        clear hxy
        go_upto_region 6 with fail
        refine wp_region_F [3, 7] (looks [(3, fun z => Ext no wr z), (7, fun z => Ext no wr z)]) (by kernel_rfl) ?_
        have hT0 : ∀ k, looks [(3, fun z => Ext no wr z), (7, fun z => Ext no wr z)] k (wr.drew) := looks_all ⟨Ext.drew no wr, Ext.drew no wr, trivial⟩
        refine wpF_take 0 (v := ?_) rfl (by kernel_rfl) (by kernel_rfl) (by kernel_rfl) (fun _ _ _ h => h) hT0 (by rfl) ?_ ?_
        rotate_left
        · (intro wq; go_simp; try with_reducible rfl)
        simp only [pz]
        refine wpF_take 1 (v := ?_) rfl (by kernel_rfl) (by kernel_rfl) (by kernel_rfl) (fun _ _ _ h => h) hT0 (by rfl) ?_ ?_
        rotate_left
        · (intro wq; go_simp; try with_reducible rfl)
        simp only [pz]
        refine wpF_take 2 (v := .pointer (some ⟨ab, ao + i * 3, none⟩)) rfl (by kernel_rfl) (by kernel_rfl) (by kernel_rfl) (fun _ _ _ h => h) hT0 (by rfl) (by intro wq; go_simp) ?_
        simp only [pz]
        refine wpF_look 3 (v := .agg #[.int .i64 x.dev, .int .i64 x.ep, .int .i64 x.seq]) rfl rfl (by kernel_rfl) (by kernel_rfl) (by kernel_rfl) (by kernel_rfl) (fun _ _ _ h => h) hT0 (by rfl) (fun w hS => by have hS : Ext no wr w := hS; have q0 := hS.keeps x0 (fun h => h); have q1 := hS.keeps x1 (fun h => h); have q2 := hS.keeps x2 (fun h => h); go_simp) ?_
        simp only [pz]
        refine wpF_take 4 (v := ?_) rfl (by kernel_rfl) (by kernel_rfl) (by kernel_rfl) (fun _ _ _ h => h) hT0 (by rfl) ?_ ?_
        rotate_left
        · (intro wq; go_simp; try with_reducible rfl)
        simp only [pz]
        refine wpF_take 5 (v := ?_) rfl (by kernel_rfl) (by kernel_rfl) (by kernel_rfl) (fun _ _ _ h => h) hT0 (by rfl) ?_ ?_
        rotate_left
        · (intro wq; go_simp; try with_reducible rfl)
        simp only [pz]
        refine wpF_take 6 (v := .pointer (some ⟨bb, bo + i * 3, none⟩)) rfl (by kernel_rfl) (by kernel_rfl) (by kernel_rfl) (fun _ _ _ h => h) hT0 (by rfl) (by intro wq; go_simp) ?_
        simp only [pz]
        refine wpF_look 7 (v := .agg #[.int .i64 y.dev, .int .i64 y.ep, .int .i64 y.seq]) rfl rfl (by kernel_rfl) (by kernel_rfl) (by kernel_rfl) (by kernel_rfl) (fun _ _ _ h => h) hT0 (by rfl) (fun w hS => by have hS : Ext no wr w := hS; have q0 := hS.keeps y0 (fun h => h); have q1 := hS.keeps y1 (fun h => h); have q2 := hS.keeps y2 (fun h => h); go_simp) ?_
        simp only [pz]
        refine wpF_take 8 (v := .bool true) rfl (by kernel_rfl) (by kernel_rfl) (by kernel_rfl) (fun _ _ _ h => h) hT0 (by rfl) (by intro wq; go_simp; exact eqDot_ne HF.out) ?_
        simp only [pz]
        refine wpF_done (by kernel_rfl) ?_ _
        go_wp2_with fail
        go_ret
        exact ⟨false, rfl, by simp [HE.out], hx.comp (Ext.drew no wr)⟩
    · have d1 : decide (i < l.length) = false := decF hil
      have HE := Lib.hid (show l = m by
        have := Htk.out
        have := Hlm.out
        rwa [List.take_of_length_le (by omega), List.take_of_length_le (by omega)] at *)
      go_wp2_with fail
      go_ret
      exact ⟨true, rfl, by simp [HE.out], hx⟩
theorem eqSum_ne {x y : SumR} (h : x ≠ y) : (str x.key).toList = (str y.key).toList → ¬ x.n = y.n := by
  intro h0 h1
  apply h
  rw [toList_str, toList_str] at h0
  obtain ⟨x0, x1⟩ := x
  obtain ⟨y0, y1⟩ := y
  simp only at *
  simp_all
set_option maxHeartbeats 1000000 in
theorem eqSum_any (w : World) (a b : Option Addr) (c d : Nat) (l m : List SumR) (hl : Rd w a (rows SumR.cells l)) (hm : Rd w b (rows SumR.cells m)) (hll : l.length ≤ 1099511627776) (hml : m.length ≤ 1099511627776) :
    Calls Tryz.prog 18 #[.slice a l.length c, .slice b m.length d] w fun e w' => ∃ r : Bool, e = .returned (.bool r) ∧ (r = true ↔ l = m) ∧ Ext no w w' := by
  by_cases hlm : l.length = m.length
  rotate_left
  · have Hne := Lib.hid (show ¬ l = m from fun h => hlm (by rw [h]))
    have d0 : (((l.length : Nat) : Int) != ((m.length : Nat) : Int)) = true := by rw [bne_iff_ne]; omega
    have d0' : (l.length == m.length) = false := by rw [beq_eq_false_iff_ne]; exact hlm
    go_enter Tryz.func18, Tryz.ntmps18
    clear hlm
    go_wp2_with fail
    go_ret
    exact ⟨false, rfl, by simp [Hne.out], Ext.refl _ _⟩
  have Hlm := Lib.hid hlm
  have d0' : (l.length == m.length) = true := by rw [beq_iff_eq]; exact hlm
  have d0 : (((l.length : Nat) : Int) != ((m.length : Nat) : Int)) = false := by rw [bne_eq_false_iff_eq]; omega
  clear hlm
  go_enter Tryz.func18, Tryz.ntmps18
  go_wp2_with fail
  go_loopw [13] (fun s wr => ∃ i : Nat, i ≤ l.length ∧ s = .int .i64 i ∧ l.take i = m.take i ∧ Ext no w wr) (fun s _ => l.length - (intOf s).toNat)
  case atStart => exact ⟨0, by omega, rfl, rfl, Ext.refl _ _⟩
  case round =>
    obtain ⟨i, hi, rfl, htk, hx⟩ := hrel
    have Htk := Lib.hid htk
    clear htk
    by_cases hil : i < l.length
    · have d1 : decide (i < l.length) = true := decT hil
      have him : i < m.length := by have := Hlm.out; omega
      have hl2 := hl.ext hx (fun _ _ h => h)
      have hm2 := hm.ext hx (fun _ _ h => h)
      obtain ⟨ab, ao, rfl, _⟩ := rows_shape kSum (by omega) hl2 (by omega)
      obtain ⟨bb, bo, rfl, _⟩ := rows_shape kSum (by omega) hm2 (by omega)
      obtain ⟨x, hx1⟩ : ∃ x, l[i]? = some x := ⟨_, List.getElem?_eq_getElem hil⟩
      obtain ⟨y, hy1⟩ : ∃ y, m[i]? = some y := ⟨_, List.getElem?_eq_getElem him⟩
      have x0 : wr.cell? ⟨ab, ao + i * 2, none⟩ = some (.string (str x.key)) := rows_cell kSum hl2 hx1 0 _ rfl
      have x1 : wr.cell? ⟨ab, ao + i * 2 + 1, none⟩ = some (.int .i64 x.n) := rows_cell kSum hl2 hx1 1 _ rfl
      have y0 : wr.cell? ⟨bb, bo + i * 2, none⟩ = some (.string (str y.key)) := rows_cell kSum hm2 hy1 0 _ rfl
      have y1 : wr.cell? ⟨bb, bo + i * 2 + 1, none⟩ = some (.int .i64 y.n) := rows_cell kSum hm2 hy1 1 _ rfl
      by_cases hxy : x = y
      · have HE := Lib.hid (show l.take (i + 1) = m.take (i + 1) by
          obtain ⟨h1, h2⟩ := List.getElem?_eq_some_iff.1 hx1
          obtain ⟨h3, h4⟩ := List.getElem?_eq_some_iff.1 hy1
          rw [List.take_succ_eq_append_getElem h1, List.take_succ_eq_append_getElem h3, Htk.out, h2, h4, hxy])
        subst hxy
        go_upto_region 6 with fail
        refine wp_region_F [3, 7] (looks [(3, fun z => Ext no wr z), (7, fun z => Ext no wr z)]) (by kernel_rfl) ?_
        have hT0 : ∀ k, looks [(3, fun z => Ext no wr z), (7, fun z => Ext no wr z)] k (wr.drew) := looks_all ⟨Ext.drew no wr, Ext.drew no wr, trivial⟩
        refine wpF_take 0 (v := ?_) rfl (by kernel_rfl) (by kernel_rfl) (by kernel_rfl) (fun _ _ _ h => h) hT0 (by rfl) ?_ ?_
        rotate_left
        · (intro wq; go_simp; try with_reducible rfl)
        simp only [pz]
        refine wpF_take 1 (v := ?_) rfl (by kernel_rfl) (by kernel_rfl) (by kernel_rfl) (fun _ _ _ h => h) hT0 (by rfl) ?_ ?_
        rotate_left
        · (intro wq; go_simp; try with_reducible rfl)
        simp only [pz]
        refine wpF_take 2 (v := .pointer (some ⟨ab, ao + i * 2, none⟩)) rfl (by kernel_rfl) (by kernel_rfl) (by kernel_rfl) (fun _ _ _ h => h) hT0 (by rfl) (by intro wq; go_simp) ?_
        simp only [pz]
        refine wpF_look 3 (v := .agg #[.string (str x.key), .int .i64 x.n]) rfl rfl (by kernel_rfl) (by kernel_rfl) (by kernel_rfl) (by kernel_rfl) (fun _ _ _ h => h) hT0 (by rfl) (fun w hS => by have hS : Ext no wr w := hS; have q0 := hS.keeps x0 (fun h => h); have q1 := hS.keeps x1 (fun h => h); go_simp) ?_
        simp only [pz]
        refine wpF_take 4 (v := ?_) rfl (by kernel_rfl) (by kernel_rfl) (by kernel_rfl) (fun _ _ _ h => h) hT0 (by rfl) ?_ ?_
        rotate_left
        · (intro wq; go_simp; try with_reducible rfl)
        simp only [pz]
        refine wpF_take 5 (v := ?_) rfl (by kernel_rfl) (by kernel_rfl) (by kernel_rfl) (fun _ _ _ h => h) hT0 (by rfl) ?_ ?_
        rotate_left
        · (intro wq; go_simp; try with_reducible rfl)
        simp only [pz]
        refine wpF_take 6 (v := .pointer (some ⟨bb, bo + i * 2, none⟩)) rfl (by kernel_rfl) (by kernel_rfl) (by kernel_rfl) (fun _ _ _ h => h) hT0 (by rfl) (by intro wq; go_simp) ?_
        simp only [pz]
        refine wpF_look 7 (v := .agg #[.string (str x.key), .int .i64 x.n]) rfl rfl (by kernel_rfl) (by kernel_rfl) (by kernel_rfl) (by kernel_rfl) (fun _ _ _ h => h) hT0 (by rfl) (fun w hS => by have hS : Ext no wr w := hS; have q0 := hS.keeps y0 (fun h => h); have q1 := hS.keeps y1 (fun h => h); go_simp) ?_
        simp only [pz]
        refine wpF_take 8 (v := .bool false) rfl (by kernel_rfl) (by kernel_rfl) (by kernel_rfl) (fun _ _ _ h => h) hT0 (by rfl) (by intro wq; go_simp) ?_
        simp only [pz]
        refine wpF_done (by kernel_rfl) ?_ _
        go_wp2_with fail
        go_roundw
        case rel => exact ⟨i + 1, by omega, by go_num, HE.out, hx.comp (Ext.drew no wr)⟩
        case measure => simp [intOf]; omega
      · have HE := Lib.hid (show ¬ l = m from fun h => by rw [h] at hx1; rw [hx1] at hy1; cases hy1; exact hxy rfl)
        have HF := Lib.hid hxy
        clear hxy
        go_upto_region 6 with fail
        refine wp_region_F [3, 7] (looks [(3, fun z => Ext no wr z), (7, fun z => Ext no wr z)]) (by kernel_rfl) ?_
        have hT0 : ∀ k, looks [(3, fun z => Ext no wr z), (7, fun z => Ext no wr z)] k (wr.drew) := looks_all ⟨Ext.drew no wr, Ext.drew no wr, trivial⟩
        refine wpF_take 0 (v := ?_) rfl (by kernel_rfl) (by kernel_rfl) (by kernel_rfl) (fun _ _ _ h => h) hT0 (by rfl) ?_ ?_
        rotate_left
        · (intro wq; go_simp; try with_reducible rfl)
        simp only [pz]
        refine wpF_take 1 (v := ?_) rfl (by kernel_rfl) (by kernel_rfl) (by kernel_rfl) (fun _ _ _ h => h) hT0 (by rfl) ?_ ?_
        rotate_left
        · (intro wq; go_simp; try with_reducible rfl)
        simp only [pz]
        refine wpF_take 2 (v := .pointer (some ⟨ab, ao + i * 2, none⟩)) rfl (by kernel_rfl) (by kernel_rfl) (by kernel_rfl) (fun _ _ _ h => h) hT0 (by rfl) (by intro wq; go_simp) ?_
        simp only [pz]
        refine wpF_look 3 (v := .agg #[.string (str x.key), .int .i64 x.n]) rfl rfl (by kernel_rfl) (by kernel_rfl) (by kernel_rfl) (by kernel_rfl) (fun _ _ _ h => h) hT0 (by rfl) (fun w hS => by have hS : Ext no wr w := hS; have q0 := hS.keeps x0 (fun h => h); have q1 := hS.keeps x1 (fun h => h); go_simp) ?_
        simp only [pz]
        refine wpF_take 4 (v := ?_) rfl (by kernel_rfl) (by kernel_rfl) (by kernel_rfl) (fun _ _ _ h => h) hT0 (by rfl) ?_ ?_
        rotate_left
        · (intro wq; go_simp; try with_reducible rfl)
        simp only [pz]
        refine wpF_take 5 (v := ?_) rfl (by kernel_rfl) (by kernel_rfl) (by kernel_rfl) (fun _ _ _ h => h) hT0 (by rfl) ?_ ?_
        rotate_left
        · (intro wq; go_simp; try with_reducible rfl)
        simp only [pz]
        refine wpF_take 6 (v := .pointer (some ⟨bb, bo + i * 2, none⟩)) rfl (by kernel_rfl) (by kernel_rfl) (by kernel_rfl) (fun _ _ _ h => h) hT0 (by rfl) (by intro wq; go_simp) ?_
        simp only [pz]
        refine wpF_look 7 (v := .agg #[.string (str y.key), .int .i64 y.n]) rfl rfl (by kernel_rfl) (by kernel_rfl) (by kernel_rfl) (by kernel_rfl) (fun _ _ _ h => h) hT0 (by rfl) (fun w hS => by have hS : Ext no wr w := hS; have q0 := hS.keeps y0 (fun h => h); have q1 := hS.keeps y1 (fun h => h); go_simp) ?_
        simp only [pz]
        refine wpF_take 8 (v := .bool true) rfl (by kernel_rfl) (by kernel_rfl) (by kernel_rfl) (fun _ _ _ h => h) hT0 (by rfl) (by intro wq; go_simp; exact eqSum_ne HF.out) ?_
        simp only [pz]
        refine wpF_done (by kernel_rfl) ?_ _
        go_wp2_with fail
        go_ret
        exact ⟨false, rfl, by simp [HE.out], hx.comp (Ext.drew no wr)⟩
    · have d1 : decide (i < l.length) = false := decF hil
      have HE := Lib.hid (show l = m by
        have := Htk.out
        have := Hlm.out
        rwa [List.take_of_length_le (by omega), List.take_of_length_le (by omega)] at *)
      go_wp2_with fail
      go_ret
      exact ⟨true, rfl, by simp [HE.out], hx⟩
theorem eqBind_ne {x y : BindR} (h : x ≠ y) : x.id = y.id → (str x.text).toList = (str y.text).toList → x.ver = y.ver → x.dot.dev = y.dot.dev → x.dot.ep = y.dot.ep → ¬ x.dot.seq = y.dot.seq := by
  intro h0 h1 h2 h3 h4 h5
  apply h
  rw [toList_str, toList_str] at h1
  obtain ⟨x0, x1, x2, x3⟩ := x
  obtain ⟨y0, y1, y2, y3⟩ := y
  obtain ⟨p0, p1, p2⟩ := x3
  obtain ⟨q0, q1, q2⟩ := y3
  simp only at *
  simp_all
set_option maxHeartbeats 1000000 in
theorem eqBind_any (w : World) (a b : Option Addr) (c d : Nat) (l m : List BindR) (hl : Rd w a (rows BindR.cells l)) (hm : Rd w b (rows BindR.cells m)) (hll : l.length ≤ 1099511627776) (hml : m.length ≤ 1099511627776) :
    Calls Tryz.prog 19 #[.slice a l.length c, .slice b m.length d] w fun e w' => ∃ r : Bool, e = .returned (.bool r) ∧ (r = true ↔ l = m) ∧ Ext no w w' := by
  by_cases hlm : l.length = m.length
  rotate_left
  · have Hne := Lib.hid (show ¬ l = m from fun h => hlm (by rw [h]))
    have d0 : (((l.length : Nat) : Int) != ((m.length : Nat) : Int)) = true := by rw [bne_iff_ne]; omega
    have d0' : (l.length == m.length) = false := by rw [beq_eq_false_iff_ne]; exact hlm
    go_enter Tryz.func19, Tryz.ntmps19
    clear hlm
    go_wp2_with fail
    go_ret
    exact ⟨false, rfl, by simp [Hne.out], Ext.refl _ _⟩
  have Hlm := Lib.hid hlm
  have d0' : (l.length == m.length) = true := by rw [beq_iff_eq]; exact hlm
  have d0 : (((l.length : Nat) : Int) != ((m.length : Nat) : Int)) = false := by rw [bne_eq_false_iff_eq]; omega
  clear hlm
  go_enter Tryz.func19, Tryz.ntmps19
  go_wp2_with fail
  go_loopw [13] (fun s wr => ∃ i : Nat, i ≤ l.length ∧ s = .int .i64 i ∧ l.take i = m.take i ∧ Ext no w wr) (fun s _ => l.length - (intOf s).toNat)
  case atStart => exact ⟨0, by omega, rfl, rfl, Ext.refl _ _⟩
  case round =>
    obtain ⟨i, hi, rfl, htk, hx⟩ := hrel
    have Htk := Lib.hid htk
    clear htk
    by_cases hil : i < l.length
    · have d1 : decide (i < l.length) = true := decT hil
      have him : i < m.length := by have := Hlm.out; omega
      have hl2 := hl.ext hx (fun _ _ h => h)
      have hm2 := hm.ext hx (fun _ _ h => h)
      obtain ⟨ab, ao, rfl, _⟩ := rows_shape kBind (by omega) hl2 (by omega)
      obtain ⟨bb, bo, rfl, _⟩ := rows_shape kBind (by omega) hm2 (by omega)
      obtain ⟨x, hx1⟩ : ∃ x, l[i]? = some x := ⟨_, List.getElem?_eq_getElem hil⟩
      obtain ⟨y, hy1⟩ : ∃ y, m[i]? = some y := ⟨_, List.getElem?_eq_getElem him⟩
      have x0 : wr.cell? ⟨ab, ao + i * 6, none⟩ = some (.int .i64 x.id) := rows_cell kBind hl2 hx1 0 _ rfl
      have x1 : wr.cell? ⟨ab, ao + i * 6 + 1, none⟩ = some (.string (str x.text)) := rows_cell kBind hl2 hx1 1 _ rfl
      have x2 : wr.cell? ⟨ab, ao + i * 6 + 2, none⟩ = some (.int .i64 x.ver) := rows_cell kBind hl2 hx1 2 _ rfl
      have x3 : wr.cell? ⟨ab, ao + i * 6 + 3, none⟩ = some (.int .i64 x.dot.dev) := rows_cell kBind hl2 hx1 3 _ rfl
      have x4 : wr.cell? ⟨ab, ao + i * 6 + 4, none⟩ = some (.int .i64 x.dot.ep) := rows_cell kBind hl2 hx1 4 _ rfl
      have x5 : wr.cell? ⟨ab, ao + i * 6 + 5, none⟩ = some (.int .i64 x.dot.seq) := rows_cell kBind hl2 hx1 5 _ rfl
      have y0 : wr.cell? ⟨bb, bo + i * 6, none⟩ = some (.int .i64 y.id) := rows_cell kBind hm2 hy1 0 _ rfl
      have y1 : wr.cell? ⟨bb, bo + i * 6 + 1, none⟩ = some (.string (str y.text)) := rows_cell kBind hm2 hy1 1 _ rfl
      have y2 : wr.cell? ⟨bb, bo + i * 6 + 2, none⟩ = some (.int .i64 y.ver) := rows_cell kBind hm2 hy1 2 _ rfl
      have y3 : wr.cell? ⟨bb, bo + i * 6 + 3, none⟩ = some (.int .i64 y.dot.dev) := rows_cell kBind hm2 hy1 3 _ rfl
      have y4 : wr.cell? ⟨bb, bo + i * 6 + 4, none⟩ = some (.int .i64 y.dot.ep) := rows_cell kBind hm2 hy1 4 _ rfl
      have y5 : wr.cell? ⟨bb, bo + i * 6 + 5, none⟩ = some (.int .i64 y.dot.seq) := rows_cell kBind hm2 hy1 5 _ rfl
      by_cases hxy : x = y
      · have HE := Lib.hid (show l.take (i + 1) = m.take (i + 1) by
          obtain ⟨h1, h2⟩ := List.getElem?_eq_some_iff.1 hx1
          obtain ⟨h3, h4⟩ := List.getElem?_eq_some_iff.1 hy1
          rw [List.take_succ_eq_append_getElem h1, List.take_succ_eq_append_getElem h3, Htk.out, h2, h4, hxy])
        subst hxy
        go_upto_region 6 with fail
        refine wp_region_F [3, 7] (looks [(3, fun z => Ext no wr z), (7, fun z => Ext no wr z)]) (by kernel_rfl) ?_
        have hT0 : ∀ k, looks [(3, fun z => Ext no wr z), (7, fun z => Ext no wr z)] k (wr.drew) := looks_all ⟨Ext.drew no wr, Ext.drew no wr, trivial⟩
        refine wpF_take 0 (v := ?_) rfl (by kernel_rfl) (by kernel_rfl) (by kernel_rfl) (fun _ _ _ h => h) hT0 (by rfl) ?_ ?_
        rotate_left
        · (intro wq; go_simp; try with_reducible rfl)
        simp only [pz]
        refine wpF_take 1 (v := ?_) rfl (by kernel_rfl) (by kernel_rfl) (by kernel_rfl) (fun _ _ _ h => h) hT0 (by rfl) ?_ ?_
        rotate_left
        · (intro wq; go_simp; try with_reducible rfl)
        simp only [pz]
        refine wpF_take 2 (v := .pointer (some ⟨ab, ao + i * 6, none⟩)) rfl (by kernel_rfl) (by kernel_rfl) (by kernel_rfl) (fun _ _ _ h => h) hT0 (by rfl) (by intro wq; go_simp) ?_
        simp only [pz]
        refine wpF_look 3 (v := .agg #[.int .i64 x.id, .string (str x.text), .int .i64 x.ver, .int .i64 x.dot.dev, .int .i64 x.dot.ep, .int .i64 x.dot.seq]) rfl rfl (by kernel_rfl) (by kernel_rfl) (by kernel_rfl) (by kernel_rfl) (fun _ _ _ h => h) hT0 (by rfl) (fun w hS => by have hS : Ext no wr w := hS; have q0 := hS.keeps x0 (fun h => h); have q1 := hS.keeps x1 (fun h => h); have q2 := hS.keeps x2 (fun h => h); have q3 := hS.keeps x3 (fun h => h); have q4 := hS.keeps x4 (fun h => h); have q5 := hS.keeps x5 (fun h => h); go_simp) ?_
        simp only [pz]
        refine wpF_take 4 (v := ?_) rfl (by kernel_rfl) (by kernel_rfl) (by kernel_rfl) (fun _ _ _ h => h) hT0 (by rfl) ?_ ?_
        rotate_left
        · (intro wq; go_simp; try with_reducible rfl)
        simp only [pz]
        refine wpF_take 5 (v := ?_) rfl (by kernel_rfl) (by kernel_rfl) (by kernel_rfl) (fun _ _ _ h => h) hT0 (by rfl) ?_ ?_
        rotate_left
        · (intro wq; go_simp; try with_reducible rfl)
        simp only [pz]
        refine wpF_take 6 (v := .pointer (some ⟨bb, bo + i * 6, none⟩)) rfl (by kernel_rfl) (by kernel_rfl) (by kernel_rfl) (fun _ _ _ h => h) hT0 (by rfl) (by intro wq; go_simp) ?_
        simp only [pz]
        refine wpF_look 7 (v := .agg #[.int .i64 x.id, .string (str x.text), .int .i64 x.ver, .int .i64 x.dot.dev, .int .i64 x.dot.ep, .int .i64 x.dot.seq]) rfl rfl (by kernel_rfl) (by kernel_rfl) (by kernel_rfl) (by kernel_rfl) (fun _ _ _ h => h) hT0 (by rfl) (fun w hS => by have hS : Ext no wr w := hS; have q0 := hS.keeps y0 (fun h => h); have q1 := hS.keeps y1 (fun h => h); have q2 := hS.keeps y2 (fun h => h); have q3 := hS.keeps y3 (fun h => h); have q4 := hS.keeps y4 (fun h => h); have q5 := hS.keeps y5 (fun h => h); go_simp) ?_
        simp only [pz]
        refine wpF_take 8 (v := .bool false) rfl (by kernel_rfl) (by kernel_rfl) (by kernel_rfl) (fun _ _ _ h => h) hT0 (by rfl) (by intro wq; go_simp) ?_
        simp only [pz]
        refine wpF_done (by kernel_rfl) ?_ _
        go_wp2_with fail
        go_roundw
        case rel => exact ⟨i + 1, by omega, by go_num, HE.out, hx.comp (Ext.drew no wr)⟩
        case measure => simp [intOf]; omega
      · have HE := Lib.hid (show ¬ l = m from fun h => by rw [h] at hx1; rw [hx1] at hy1; cases hy1; exact hxy rfl)
        have HF := Lib.hid hxy
        clear hxy
        go_upto_region 6 with fail
        refine wp_region_F [3, 7] (looks [(3, fun z => Ext no wr z), (7, fun z => Ext no wr z)]) (by kernel_rfl) ?_
        have hT0 : ∀ k, looks [(3, fun z => Ext no wr z), (7, fun z => Ext no wr z)] k (wr.drew) := looks_all ⟨Ext.drew no wr, Ext.drew no wr, trivial⟩
        refine wpF_take 0 (v := ?_) rfl (by kernel_rfl) (by kernel_rfl) (by kernel_rfl) (fun _ _ _ h => h) hT0 (by rfl) ?_ ?_
        rotate_left
        · (intro wq; go_simp; try with_reducible rfl)
        simp only [pz]
        refine wpF_take 1 (v := ?_) rfl (by kernel_rfl) (by kernel_rfl) (by kernel_rfl) (fun _ _ _ h => h) hT0 (by rfl) ?_ ?_
        rotate_left
        · (intro wq; go_simp; try with_reducible rfl)
        simp only [pz]
        refine wpF_take 2 (v := .pointer (some ⟨ab, ao + i * 6, none⟩)) rfl (by kernel_rfl) (by kernel_rfl) (by kernel_rfl) (fun _ _ _ h => h) hT0 (by rfl) (by intro wq; go_simp) ?_
        simp only [pz]
        refine wpF_look 3 (v := .agg #[.int .i64 x.id, .string (str x.text), .int .i64 x.ver, .int .i64 x.dot.dev, .int .i64 x.dot.ep, .int .i64 x.dot.seq]) rfl rfl (by kernel_rfl) (by kernel_rfl) (by kernel_rfl) (by kernel_rfl) (fun _ _ _ h => h) hT0 (by rfl) (fun w hS => by have hS : Ext no wr w := hS; have q0 := hS.keeps x0 (fun h => h); have q1 := hS.keeps x1 (fun h => h); have q2 := hS.keeps x2 (fun h => h); have q3 := hS.keeps x3 (fun h => h); have q4 := hS.keeps x4 (fun h => h); have q5 := hS.keeps x5 (fun h => h); go_simp) ?_
        simp only [pz]
        refine wpF_take 4 (v := ?_) rfl (by kernel_rfl) (by kernel_rfl) (by kernel_rfl) (fun _ _ _ h => h) hT0 (by rfl) ?_ ?_
        rotate_left
        · (intro wq; go_simp; try with_reducible rfl)
        simp only [pz]
        refine wpF_take 5 (v := ?_) rfl (by kernel_rfl) (by kernel_rfl) (by kernel_rfl) (fun _ _ _ h => h) hT0 (by rfl) ?_ ?_
        rotate_left
        · (intro wq; go_simp; try with_reducible rfl)
        simp only [pz]
        refine wpF_take 6 (v := .pointer (some ⟨bb, bo + i * 6, none⟩)) rfl (by kernel_rfl) (by kernel_rfl) (by kernel_rfl) (fun _ _ _ h => h) hT0 (by rfl) (by intro wq; go_simp) ?_
        simp only [pz]
        refine wpF_look 7 (v := .agg #[.int .i64 y.id, .string (str y.text), .int .i64 y.ver, .int .i64 y.dot.dev, .int .i64 y.dot.ep, .int .i64 y.dot.seq]) rfl rfl (by kernel_rfl) (by kernel_rfl) (by kernel_rfl) (by kernel_rfl) (fun _ _ _ h => h) hT0 (by rfl) (fun w hS => by have hS : Ext no wr w := hS; have q0 := hS.keeps y0 (fun h => h); have q1 := hS.keeps y1 (fun h => h); have q2 := hS.keeps y2 (fun h => h); have q3 := hS.keeps y3 (fun h => h); have q4 := hS.keeps y4 (fun h => h); have q5 := hS.keeps y5 (fun h => h); go_simp) ?_
        simp only [pz]
        refine wpF_take 8 (v := .bool true) rfl (by kernel_rfl) (by kernel_rfl) (by kernel_rfl) (fun _ _ _ h => h) hT0 (by rfl) (by intro wq; go_simp; exact eqBind_ne HF.out) ?_
        simp only [pz]
        refine wpF_done (by kernel_rfl) ?_ _
        go_wp2_with fail
        go_ret
        exact ⟨false, rfl, by simp [HE.out], hx.comp (Ext.drew no wr)⟩
    · have d1 : decide (i < l.length) = false := decF hil
      have HE := Lib.hid (show l = m by
        have := Htk.out
        have := Hlm.out
        rwa [List.take_of_length_le (by omega), List.take_of_length_le (by omega)] at *)
      go_wp2_with fail
      go_ret
      exact ⟨true, rfl, by simp [HE.out], hx⟩
theorem coll_eq {C D : CollR} : C = D ↔ C.v = D.v ∧ C.regs = D.regs ∧ C.elems = D.elems ∧ C.gone = D.gone ∧ C.sums = D.sums ∧ C.binds = D.binds := by
  cases C; cases D; simp
set_option maxRecDepth 100000 in
set_option maxHeartbeats 4000000 in
theorem same_any (w : World) (C D : CollR) (h k : Six) (hC : C.In w h) (hD : D.In w k) (sC : C.small 1099511627776) (sD : D.small 1099511627776) :
    Calls Tryz.prog 8 #[C.val h, D.val k] w fun e w' => ∃ r : Bool, e = .returned (.bool r) ∧ (r = true ↔ C = D) ∧ Ext no w w' := by
  rw [coll_eq]
  go_enter Tryz.func8, Tryz.ntmps8
  unfold CollR.val
  go_upto_region 1 with fail
  have hb1_ := Blk.at w #[.slice h.v C.v.length h.vc, .slice h.r C.regs.length h.rc, .slice h.e C.elems.length h.ec, .slice h.g C.gone.length h.gc, .slice h.s C.sums.length h.sc, .slice h.b C.binds.length h.bc] 32 w.heap.size rfl
  have hxa := Ext.alloc no w (.cells #[.slice h.v C.v.length h.vc, .slice h.r C.regs.length h.rc, .slice h.e C.elems.length h.ec, .slice h.g C.gone.length h.gc, .slice h.s C.sums.length h.sc, .slice h.b C.binds.length h.bc] 32)
  have hb2 := Blk.at (w.alloc (.cells #[.slice h.v C.v.length h.vc, .slice h.r C.regs.length h.rc, .slice h.e C.elems.length h.ec, .slice h.g C.gone.length h.gc, .slice h.s C.sums.length h.sc, .slice h.b C.binds.length h.bc] 32)) #[.slice k.v D.v.length k.vc, .slice k.r D.regs.length k.rc, .slice k.e D.elems.length k.ec, .slice k.g D.gone.length k.gc, .slice k.s D.sums.length k.sc, .slice k.b D.binds.length k.bc] 32 (w.heap.size + 1) (by simp)
  have hxb := Ext.alloc no (w.alloc (.cells #[.slice h.v C.v.length h.vc, .slice h.r C.regs.length h.rc, .slice h.e C.elems.length h.ec, .slice h.g C.gone.length h.gc, .slice h.s C.sums.length h.sc, .slice h.b C.binds.length h.bc] 32)) (.cells #[.slice k.v D.v.length k.vc, .slice k.r D.regs.length k.rc, .slice k.e D.elems.length k.ec, .slice k.g D.gone.length k.gc, .slice k.s D.sums.length k.sc, .slice k.b D.binds.length k.bc] 32)
  have hb1 := hb1_.ext (by simp) hxb (fun h => h)
  have hx0 := hxa.comp hxb
  clear hb1_ hxa hxb
  generalize (w.alloc (.cells #[.slice h.v C.v.length h.vc, .slice h.r C.regs.length h.rc, .slice h.e C.elems.length h.ec, .slice h.g C.gone.length h.gc, .slice h.s C.sums.length h.sc, .slice h.b C.binds.length h.bc] 32)).alloc (.cells #[.slice k.v D.v.length k.vc, .slice k.r D.regs.length k.rc, .slice k.e D.elems.length k.ec, .slice k.g D.gone.length k.gc, .slice k.s D.sums.length k.sc, .slice k.b D.binds.length k.bc] 32) = w0 at *
  have H1 := Lib.hid hC
  have H2 := Lib.hid hD
  clear hC hD
  have hrun : True := trivial
  have a0 := hb1.cell 0 _ rfl
  have c0 := hb2.cell 0 _ rfl
  go_wp2_with fail
  refine (eqEntry_any w0 h.v k.v h.vc k.vc C.v D.v (H1.out.v.ext hx0 (fun _ _ h => h)) (H2.out.v.ext hx0 (fun _ _ h => h)) (by have := sC.v; omega) (by have := sD.v; omega)).mono ?_
  rintro e w1 ⟨r0, rfl, hr0, hxn⟩
  replace hb1 := hb1.ext (by simp) hxn (fun h => h)
  replace hb2 := hb2.ext (by simp) hxn (fun h => h)
  have hx1 := hx0.comp hxn
  clear hxn a0 c0
  have Hr0 := Lib.hid hr0
  clear hr0
  cases r0 with
  | false =>
    go_wp2_with fail
    go_ret
    exact ⟨false, rfl, by have t0 := Hr0.out; simp at t0; constructor; (intro e; cases e); (intro e; exact absurd e.1 t0), hx1⟩
  | true =>
    have a1 := hb1.cell 1 _ rfl
    have c1 := hb2.cell 1 _ rfl
    go_wp2_with fail
    refine (eqReg_any w1 h.r k.r h.rc k.rc C.regs D.regs (H1.out.r.ext hx1 (fun _ _ h => h)) (H2.out.r.ext hx1 (fun _ _ h => h)) (by have := sC.r; omega) (by have := sD.r; omega)).mono ?_
    rintro e w2 ⟨r1, rfl, hr1, hxn⟩
    replace hb1 := hb1.ext (by simp) hxn (fun h => h)
    replace hb2 := hb2.ext (by simp) hxn (fun h => h)
    have hx2 := hx1.comp hxn
    clear hxn a1 c1
    have Hr1 := Lib.hid hr1
    clear hr1
    cases r1 with
    | false =>
      go_wp2_with fail
      go_ret
      exact ⟨false, rfl, by have t0 := Hr0.out; have t1 := Hr1.out; simp at t1; constructor; (intro e; cases e); (intro e; exact absurd e.2.1 t1), hx2⟩
    | true =>
      have a2 := hb1.cell 2 _ rfl
      have c2 := hb2.cell 2 _ rfl
      go_wp2_with fail
      refine (eqElem_any w2 h.e k.e h.ec k.ec C.elems D.elems (H1.out.e.ext hx2 (fun _ _ h => h)) (H2.out.e.ext hx2 (fun _ _ h => h)) (by have := sC.e; omega) (by have := sD.e; omega)).mono ?_
      rintro e w3 ⟨r2, rfl, hr2, hxn⟩
      replace hb1 := hb1.ext (by simp) hxn (fun h => h)
      replace hb2 := hb2.ext (by simp) hxn (fun h => h)
      have hx3 := hx2.comp hxn
      clear hxn a2 c2
      have Hr2 := Lib.hid hr2
      clear hr2
      cases r2 with
      | false =>
        go_wp2_with fail
        go_ret
        exact ⟨false, rfl, by have t0 := Hr0.out; have t1 := Hr1.out; have t2 := Hr2.out; simp at t2; constructor; (intro e; cases e); (intro e; exact absurd e.2.2.1 t2), hx3⟩
      | true =>
        have a3 := hb1.cell 3 _ rfl
        have c3 := hb2.cell 3 _ rfl
        go_wp2_with fail
        refine (eqDot_any w3 h.g k.g h.gc k.gc C.gone D.gone (H1.out.g.ext hx3 (fun _ _ h => h)) (H2.out.g.ext hx3 (fun _ _ h => h)) (by have := sC.g; omega) (by have := sD.g; omega)).mono ?_
        rintro e w4 ⟨r3, rfl, hr3, hxn⟩
        replace hb1 := hb1.ext (by simp) hxn (fun h => h)
        replace hb2 := hb2.ext (by simp) hxn (fun h => h)
        have hx4 := hx3.comp hxn
        clear hxn a3 c3
        have Hr3 := Lib.hid hr3
        clear hr3
        cases r3 with
        | false =>
          go_wp2_with fail
          go_ret
          exact ⟨false, rfl, by have t0 := Hr0.out; have t1 := Hr1.out; have t2 := Hr2.out; have t3 := Hr3.out; simp at t3; constructor; (intro e; cases e); (intro e; exact absurd e.2.2.2.1 t3), hx4⟩
        | true =>
          have a4 := hb1.cell 4 _ rfl
          have c4 := hb2.cell 4 _ rfl
          go_wp2_with fail
          refine (eqSum_any w4 h.s k.s h.sc k.sc C.sums D.sums (H1.out.s.ext hx4 (fun _ _ h => h)) (H2.out.s.ext hx4 (fun _ _ h => h)) (by have := sC.s; omega) (by have := sD.s; omega)).mono ?_
          rintro e w5 ⟨r4, rfl, hr4, hxn⟩
          replace hb1 := hb1.ext (by simp) hxn (fun h => h)
          replace hb2 := hb2.ext (by simp) hxn (fun h => h)
          have hx5 := hx4.comp hxn
          clear hxn a4 c4
          have Hr4 := Lib.hid hr4
          clear hr4
          cases r4 with
          | false =>
            go_wp2_with fail
            go_ret
            exact ⟨false, rfl, by have t0 := Hr0.out; have t1 := Hr1.out; have t2 := Hr2.out; have t3 := Hr3.out; have t4 := Hr4.out; simp at t4; constructor; (intro e; cases e); (intro e; exact absurd e.2.2.2.2.1 t4), hx5⟩
          | true =>
            have a5 := hb1.cell 5 _ rfl
            have c5 := hb2.cell 5 _ rfl
            go_wp2_with fail
            refine (eqBind_any w5 h.b k.b h.bc k.bc C.binds D.binds (H1.out.b.ext hx5 (fun _ _ h => h)) (H2.out.b.ext hx5 (fun _ _ h => h)) (by have := sC.b; omega) (by have := sD.b; omega)).mono ?_
            rintro e w6 ⟨r5, rfl, hr5, hxn⟩
            replace hb1 := hb1.ext (by simp) hxn (fun h => h)
            replace hb2 := hb2.ext (by simp) hxn (fun h => h)
            have hx6 := hx5.comp hxn
            clear hxn a5 c5
            have Hr5 := Lib.hid hr5
            clear hr5
            cases r5 with
            | false =>
              go_wp2_with fail
              go_ret
              exact ⟨false, rfl, by have t0 := Hr0.out; have t1 := Hr1.out; have t2 := Hr2.out; have t3 := Hr3.out; have t4 := Hr4.out; have t5 := Hr5.out; simp at t5; constructor; (intro e; cases e); (intro e; exact absurd e.2.2.2.2.2 t5), hx6⟩
            | true =>
              go_wp2_with fail
              go_ret
              exact ⟨true, rfl, ⟨fun _ => ⟨Hr0.out.1 (by first | trivial | rfl), Hr1.out.1 (by first | trivial | rfl), Hr2.out.1 (by first | trivial | rfl), Hr3.out.1 (by first | trivial | rfl), Hr4.out.1 (by first | trivial | rfl), Hr5.out.1 (by first | trivial | rfl)⟩, fun _ => rfl⟩, hx6⟩
end Go.Proofs.YtejmmkjpncpedaaGreat
