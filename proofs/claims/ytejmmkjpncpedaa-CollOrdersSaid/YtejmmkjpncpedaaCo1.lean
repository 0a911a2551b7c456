/- The reference's Same, of one and the same collection. -/
import Derived.Test.YtejmmkjpncpedaaCoZ
namespace Go.Proofs.Ytejmmkjpncpedaa
open Go.RowKit Go.Esc
set_option linter.unusedVariables false
set_option linter.unusedSimpArgs false

set_option maxRecDepth 100000 in
set_option maxHeartbeats 8000000 in
theorem refsame_eq (w : World) (C : CollR) (h k : Six) (hC : C.In w h) (hD : C.In w k) (sC : C.small 1099511627776) :
    Calls Try.prog 12 #[C.val h, C.val k] w fun e w' => e = .returned (.bool true) ∧ Ext no w w' := by
  go_enter Try.func12, Try.ntmps12
  unfold CollR.val
  go_upto_region 1 with fail
  have hb1_ := Blk.at w #[.slice h.v C.v.length h.vc, .slice h.r C.regs.length h.rc, .slice h.e C.elems.length h.ec, .slice h.g C.gone.length h.gc, .slice h.s C.sums.length h.sc, .slice h.b C.binds.length h.bc] 31 w.heap.size rfl
  have hxa := Ext.alloc no w (.cells #[.slice h.v C.v.length h.vc, .slice h.r C.regs.length h.rc, .slice h.e C.elems.length h.ec, .slice h.g C.gone.length h.gc, .slice h.s C.sums.length h.sc, .slice h.b C.binds.length h.bc] 31)
  have hb2 := Blk.at (w.alloc (.cells #[.slice h.v C.v.length h.vc, .slice h.r C.regs.length h.rc, .slice h.e C.elems.length h.ec, .slice h.g C.gone.length h.gc, .slice h.s C.sums.length h.sc, .slice h.b C.binds.length h.bc] 31)) #[.slice k.v C.v.length k.vc, .slice k.r C.regs.length k.rc, .slice k.e C.elems.length k.ec, .slice k.g C.gone.length k.gc, .slice k.s C.sums.length k.sc, .slice k.b C.binds.length k.bc] 31 (w.heap.size + 1) (by simp)
  have hxb := Ext.alloc no (w.alloc (.cells #[.slice h.v C.v.length h.vc, .slice h.r C.regs.length h.rc, .slice h.e C.elems.length h.ec, .slice h.g C.gone.length h.gc, .slice h.s C.sums.length h.sc, .slice h.b C.binds.length h.bc] 31)) (.cells #[.slice k.v C.v.length k.vc, .slice k.r C.regs.length k.rc, .slice k.e C.elems.length k.ec, .slice k.g C.gone.length k.gc, .slice k.s C.sums.length k.sc, .slice k.b C.binds.length k.bc] 31)
  have hb1 := hb1_.ext (by simp) hxb (fun h => h)
  have hx0 := hxa.comp hxb
  clear hb1_ hxa hxb
  generalize (w.alloc (.cells #[.slice h.v C.v.length h.vc, .slice h.r C.regs.length h.rc, .slice h.e C.elems.length h.ec, .slice h.g C.gone.length h.gc, .slice h.s C.sums.length h.sc, .slice h.b C.binds.length h.bc] 31)).alloc (.cells #[.slice k.v C.v.length k.vc, .slice k.r C.regs.length k.rc, .slice k.e C.elems.length k.ec, .slice k.g C.gone.length k.gc, .slice k.s C.sums.length k.sc, .slice k.b C.binds.length k.bc] 31) = w0 at *
  have hb1' := hb1
  have hb2' := hb2
  have H1 := Lib.hid hC
  have H2 := Lib.hid hD
  clear hC hD
  have a0 := hb1.cell 0 _ rfl
  have c0 := hb2.cell 0 _ rfl
  have a1 := hb1.cell 1 _ rfl
  have c1 := hb2.cell 1 _ rfl
  have a2 := hb1.cell 2 _ rfl
  have c2 := hb2.cell 2 _ rfl
  have a3 := hb1.cell 3 _ rfl
  have c3 := hb2.cell 3 _ rfl
  have a4 := hb1.cell 4 _ rfl
  have c4 := hb2.cell 4 _ rfl
  have a5 := hb1.cell 5 _ rfl
  have c5 := hb2.cell 5 _ rfl
  go_wp2_with fail
  refine (refdots_any w0 h.g k.g h.gc k.gc C.gone C.gone (H1.out.g.ext hx0 (fun _ _ h => h)) (H2.out.g.ext hx0 (fun _ _ h => h)) (by have := sC.g; omega) (by have := sC.g; omega)).mono ?_
  rintro e w1 ⟨r, rfl, hrr, hxn⟩
  obtain rfl : r = true := hrr.2 rfl
  have hc1 := hb1.ext (by simp) hxn (fun h => h)
  have hc2 := hb2.ext (by simp) hxn (fun h => h)
  have hx1 := hx0.comp hxn
  clear hrr hxn hb1 hb2 hb1' hb2' a0 c0 a1 c1 a2 c2 a3 c3 a4 c4 a5 c5
  go_wp2_with fail
  go_loopw [5, 6] (fun s5 s wr => ∃ i : Nat, s5 = .bool true ∧ s = .int .i64 i ∧ i ≤ C.v.length ∧ Ext no w1 wr) (fun _ s _ => C.v.length - (intOf s).toNat)
  case atStart => exact ⟨0, rfl, rfl, Nat.zero_le _, Ext.refl _ _⟩
  case round =>
    obtain ⟨i, rfl, rfl, hi, hx⟩ := hrel
    have hsl := sC.v
    have hd1 := hc1.ext (by simp) hx (fun h => h)
    have hd2 := hc2.ext (by simp) hx (fun h => h)
    have a0 := hd1.cell 0 _ rfl
    have c0 := hd2.cell 0 _ rfl
    by_cases hil : i < C.v.length
    · have d1 : decide (i < C.v.length) = true := decT hil
      obtain ⟨x, hxm⟩ : ∃ x, C.v[i]? = some x := ⟨_, List.getElem?_eq_getElem hil⟩
      have hr1 := (H1.out.v.ext hx1 (fun _ _ h => h)).ext hx (fun _ _ h => h)
      have hr2 := (H2.out.v.ext hx1 (fun _ _ h => h)).ext hx (fun _ _ h => h)
      obtain ⟨ab, ao, hab, _⟩ := rows_shape kEntry (by omega) hr1 (by omega)
      obtain ⟨bb, bo, hbb, _⟩ := rows_shape kEntry (by omega) hr2 (by omega)
      rw [hab] at a0 hr1
      rw [hbb] at c0 hr2
      have x0 : wr.cell? ⟨ab, ao + i * 3, none⟩ = some (.int .i64 x.dev) := rows_cell kEntry hr1 hxm 0 _ rfl
      have x1 : wr.cell? ⟨ab, ao + i * 3 + 1, none⟩ = some (.int .i64 x.ep) := rows_cell kEntry hr1 hxm 1 _ rfl
      have x2 : wr.cell? ⟨ab, ao + i * 3 + 2, none⟩ = some (.int .i64 x.seq) := rows_cell kEntry hr1 hxm 2 _ rfl
      have y0 : wr.cell? ⟨bb, bo + i * 3, none⟩ = some (.int .i64 x.dev) := rows_cell kEntry hr2 hxm 0 _ rfl
      have y1 : wr.cell? ⟨bb, bo + i * 3 + 1, none⟩ = some (.int .i64 x.ep) := rows_cell kEntry hr2 hxm 1 _ rfl
      have y2 : wr.cell? ⟨bb, bo + i * 3 + 2, none⟩ = some (.int .i64 x.seq) := rows_cell kEntry hr2 hxm 2 _ rfl
      clear hab hbb hr1 hr2
      go_upto_region 7 with fail
      refine wp_region_F [3, 6, 8, 11] (looks [(3, fun z => Ext no wr z), (6, fun z => Ext no wr z), (8, fun z => Ext no wr z), (11, fun z => Ext no wr z)]) (by kernel_rfl) ?_
      have hT0 : ∀ k, looks [(3, fun z => Ext no wr z), (6, fun z => Ext no wr z), (8, fun z => Ext no wr z), (11, fun z => Ext no wr z)] k (wr.drew) := looks_all ⟨Ext.drew no wr, Ext.drew no wr, Ext.drew no wr, Ext.drew no wr, trivial⟩
      refine wpF_take 0 (v := ?_) rfl (by kernel_rfl) (by kernel_rfl) (by kernel_rfl) (fun _ _ _ h => h) hT0 (by rfl) ?_ ?_
      rotate_left
      · (intro wq; go_simp; try with_reducible rfl)
      simp only [Act.put, List.setIfInBounds_toArray, List.set_cons_zero, List.set_cons_succ]
      refine wpF_take 1 (v := ?_) rfl (by kernel_rfl) (by kernel_rfl) (by kernel_rfl) (fun _ _ _ h => h) hT0 (by rfl) ?_ ?_
      rotate_left
      · (intro wq; go_simp; try with_reducible rfl)
      simp only [Act.put, List.setIfInBounds_toArray, List.set_cons_zero, List.set_cons_succ]
      refine wpF_take 2 (v := ?_) rfl (by kernel_rfl) (by kernel_rfl) (by kernel_rfl) (fun _ _ _ h => h) hT0 (by rfl) ?_ ?_
      rotate_left
      · (intro wq; go_simp; try with_reducible rfl)
      simp only [Act.put, List.setIfInBounds_toArray, List.set_cons_zero, List.set_cons_succ]
      refine wpF_look 3 (v := .slice (some ⟨ab, ao, none⟩) C.v.length h.vc) rfl rfl (by kernel_rfl) (by kernel_rfl) (by kernel_rfl) (by kernel_rfl) (fun _ _ _ h => h) hT0 (by rfl) (fun w hS => by have hS : Ext no wr w := hS; have q0 := hS.keeps a0 (fun h => h); go_simp) ?_
      simp only [Act.put, List.setIfInBounds_toArray, List.set_cons_zero, List.set_cons_succ]
      refine wpF_take 4 (v := ?_) rfl (by kernel_rfl) (by kernel_rfl) (by kernel_rfl) (fun _ _ _ h => h) hT0 (by rfl) ?_ ?_
      rotate_left
      · (intro wq; go_simp; try with_reducible rfl)
      simp only [Act.put, List.setIfInBounds_toArray, List.set_cons_zero, List.set_cons_succ]
      refine wpF_take 5 (v := .pointer (some ⟨ab, ao + i * 3, none⟩)) rfl (by kernel_rfl) (by kernel_rfl) (by kernel_rfl) (fun _ _ _ h => h) hT0 (by rfl) (by intro wq; go_simp) ?_
      simp only [Act.put, List.setIfInBounds_toArray, List.set_cons_zero, List.set_cons_succ]
      refine wpF_look 6 (v := .agg #[.int .i64 x.dev, .int .i64 x.ep, .int .i64 x.seq]) rfl rfl (by kernel_rfl) (by kernel_rfl) (by kernel_rfl) (by kernel_rfl) (fun _ _ _ h => h) hT0 (by rfl) (fun w hS => by have hS : Ext no wr w := hS; have q0 := hS.keeps x0 (fun h => h); have q1 := hS.keeps x1 (fun h => h); have q2 := hS.keeps x2 (fun h => h); go_simp) ?_
      simp only [Act.put, List.setIfInBounds_toArray, List.set_cons_zero, List.set_cons_succ]
      refine wpF_take 7 (v := ?_) rfl (by kernel_rfl) (by kernel_rfl) (by kernel_rfl) (fun _ _ _ h => h) hT0 (by rfl) ?_ ?_
      rotate_left
      · (intro wq; go_simp; try with_reducible rfl)
      simp only [Act.put, List.setIfInBounds_toArray, List.set_cons_zero, List.set_cons_succ]
      refine wpF_look 8 (v := .slice (some ⟨bb, bo, none⟩) C.v.length k.vc) rfl rfl (by kernel_rfl) (by kernel_rfl) (by kernel_rfl) (by kernel_rfl) (fun _ _ _ h => h) hT0 (by rfl) (fun w hS => by have hS : Ext no wr w := hS; have q0 := hS.keeps c0 (fun h => h); go_simp) ?_
      simp only [Act.put, List.setIfInBounds_toArray, List.set_cons_zero, List.set_cons_succ]
      refine wpF_take 9 (v := ?_) rfl (by kernel_rfl) (by kernel_rfl) (by kernel_rfl) (fun _ _ _ h => h) hT0 (by rfl) ?_ ?_
      rotate_left
      · (intro wq; go_simp; try with_reducible rfl)
      simp only [Act.put, List.setIfInBounds_toArray, List.set_cons_zero, List.set_cons_succ]
      refine wpF_take 10 (v := .pointer (some ⟨bb, bo + i * 3, none⟩)) rfl (by kernel_rfl) (by kernel_rfl) (by kernel_rfl) (fun _ _ _ h => h) hT0 (by rfl) (by intro wq; go_simp) ?_
      simp only [Act.put, List.setIfInBounds_toArray, List.set_cons_zero, List.set_cons_succ]
      refine wpF_look 11 (v := .agg #[.int .i64 x.dev, .int .i64 x.ep, .int .i64 x.seq]) rfl rfl (by kernel_rfl) (by kernel_rfl) (by kernel_rfl) (by kernel_rfl) (fun _ _ _ h => h) hT0 (by rfl) (fun w hS => by have hS : Ext no wr w := hS; have q0 := hS.keeps y0 (fun h => h); have q1 := hS.keeps y1 (fun h => h); have q2 := hS.keeps y2 (fun h => h); go_simp) ?_
      simp only [Act.put, List.setIfInBounds_toArray, List.set_cons_zero, List.set_cons_succ]
      refine wpF_take 12 (v := .bool true) rfl (by kernel_rfl) (by kernel_rfl) (by kernel_rfl) (fun _ _ _ h => h) hT0 (by rfl) (by intro wq; go_simp) ?_
      simp only [Act.put, List.setIfInBounds_toArray, List.set_cons_zero, List.set_cons_succ]
      refine wpF_take 13 (v := ?_) rfl (by kernel_rfl) (by kernel_rfl) (by kernel_rfl) (fun _ _ _ h => h) hT0 (by rfl) ?_ ?_
      rotate_left
      · (intro wq; go_simp; try with_reducible rfl)
      simp only [Act.put, List.setIfInBounds_toArray, List.set_cons_zero, List.set_cons_succ]
      refine wpF_take 14 (v := ?_) rfl (by kernel_rfl) (by kernel_rfl) (by kernel_rfl) (fun _ _ _ h => h) hT0 (by rfl) ?_ ?_
      rotate_left
      · (intro wq; go_simp; try with_reducible rfl)
      simp only [Act.put, List.setIfInBounds_toArray, List.set_cons_zero, List.set_cons_succ]
      refine wpF_done (by kernel_rfl) ?_ _
      go_wp2_with fail
      go_roundw
      case rel => exact ⟨i + 1, rfl, by go_num, by omega, hx.comp (Ext.drew no wr)⟩
      case measure => simp [intOf]; omega
    · obtain rfl : i = C.v.length := by omega
      have d1 : decide (C.v.length < C.v.length) = false := decF (by omega)
      have hx_1 := hx
      clear hx hd1 hd2 hil hi
      go_wp2_with fail
      go_loopw [5, 7] (fun s5 s wr => ∃ i : Nat, s5 = .bool true ∧ s = .int .i64 i ∧ i ≤ C.regs.length ∧ Ext no w1 wr) (fun _ s _ => C.regs.length - (intOf s).toNat)
      case atStart => exact ⟨0, rfl, rfl, Nat.zero_le _, hx_1⟩
      case round =>
        obtain ⟨i, rfl, rfl, hi, hx⟩ := hrel
        have hsl := sC.r
        have hd1 := hc1.ext (by simp) hx (fun h => h)
        have hd2 := hc2.ext (by simp) hx (fun h => h)
        have a1 := hd1.cell 1 _ rfl
        have c1 := hd2.cell 1 _ rfl
        by_cases hil : i < C.regs.length
        · have d1 : decide (i < C.regs.length) = true := decT hil
          obtain ⟨x, hxm⟩ : ∃ x, C.regs[i]? = some x := ⟨_, List.getElem?_eq_getElem hil⟩
          have hr1 := (H1.out.r.ext hx1 (fun _ _ h => h)).ext hx (fun _ _ h => h)
          have hr2 := (H2.out.r.ext hx1 (fun _ _ h => h)).ext hx (fun _ _ h => h)
          obtain ⟨ab, ao, hab, _⟩ := rows_shape kReg (by omega) hr1 (by omega)
          obtain ⟨bb, bo, hbb, _⟩ := rows_shape kReg (by omega) hr2 (by omega)
          rw [hab] at a1 hr1
          rw [hbb] at c1 hr2
          have x0 : wr.cell? ⟨ab, ao + i * 7, none⟩ = some (.string (str x.key)) := rows_cell kReg hr1 hxm 0 _ rfl
          have x1 : wr.cell? ⟨ab, ao + i * 7 + 1, none⟩ = some (.string (str x.text)) := rows_cell kReg hr1 hxm 1 _ rfl
          have x2 : wr.cell? ⟨ab, ao + i * 7 + 2, none⟩ = some (.int .i64 x.ver) := rows_cell kReg hr1 hxm 2 _ rfl
          have x3 : wr.cell? ⟨ab, ao + i * 7 + 3, none⟩ = some (.int .i64 x.time) := rows_cell kReg hr1 hxm 3 _ rfl
          have x4 : wr.cell? ⟨ab, ao + i * 7 + 4, none⟩ = some (.int .i64 x.dot.dev) := rows_cell kReg hr1 hxm 4 _ rfl
          have x5 : wr.cell? ⟨ab, ao + i * 7 + 5, none⟩ = some (.int .i64 x.dot.ep) := rows_cell kReg hr1 hxm 5 _ rfl
          have x6 : wr.cell? ⟨ab, ao + i * 7 + 6, none⟩ = some (.int .i64 x.dot.seq) := rows_cell kReg hr1 hxm 6 _ rfl
          have y0 : wr.cell? ⟨bb, bo + i * 7, none⟩ = some (.string (str x.key)) := rows_cell kReg hr2 hxm 0 _ rfl
          have y1 : wr.cell? ⟨bb, bo + i * 7 + 1, none⟩ = some (.string (str x.text)) := rows_cell kReg hr2 hxm 1 _ rfl
          have y2 : wr.cell? ⟨bb, bo + i * 7 + 2, none⟩ = some (.int .i64 x.ver) := rows_cell kReg hr2 hxm 2 _ rfl
          have y3 : wr.cell? ⟨bb, bo + i * 7 + 3, none⟩ = some (.int .i64 x.time) := rows_cell kReg hr2 hxm 3 _ rfl
          have y4 : wr.cell? ⟨bb, bo + i * 7 + 4, none⟩ = some (.int .i64 x.dot.dev) := rows_cell kReg hr2 hxm 4 _ rfl
          have y5 : wr.cell? ⟨bb, bo + i * 7 + 5, none⟩ = some (.int .i64 x.dot.ep) := rows_cell kReg hr2 hxm 5 _ rfl
          have y6 : wr.cell? ⟨bb, bo + i * 7 + 6, none⟩ = some (.int .i64 x.dot.seq) := rows_cell kReg hr2 hxm 6 _ rfl
          clear hab hbb hr1 hr2
          go_upto_region 11 with fail
          refine wp_region_F [3, 6, 8, 11] (looks [(3, fun z => Ext no wr z), (6, fun z => Ext no wr z), (8, fun z => Ext no wr z), (11, fun z => Ext no wr z)]) (by kernel_rfl) ?_
          have hT0 : ∀ k, looks [(3, fun z => Ext no wr z), (6, fun z => Ext no wr z), (8, fun z => Ext no wr z), (11, fun z => Ext no wr z)] k (wr.drew) := looks_all ⟨Ext.drew no wr, Ext.drew no wr, Ext.drew no wr, Ext.drew no wr, trivial⟩
          refine wpF_take 0 (v := ?_) rfl (by kernel_rfl) (by kernel_rfl) (by kernel_rfl) (fun _ _ _ h => h) hT0 (by rfl) ?_ ?_
          rotate_left
          · (intro wq; go_simp; try with_reducible rfl)
          simp only [Act.put, List.setIfInBounds_toArray, List.set_cons_zero, List.set_cons_succ]
          refine wpF_take 1 (v := ?_) rfl (by kernel_rfl) (by kernel_rfl) (by kernel_rfl) (fun _ _ _ h => h) hT0 (by rfl) ?_ ?_
          rotate_left
          · (intro wq; go_simp; try with_reducible rfl)
          simp only [Act.put, List.setIfInBounds_toArray, List.set_cons_zero, List.set_cons_succ]
          refine wpF_take 2 (v := ?_) rfl (by kernel_rfl) (by kernel_rfl) (by kernel_rfl) (fun _ _ _ h => h) hT0 (by rfl) ?_ ?_
          rotate_left
          · (intro wq; go_simp; try with_reducible rfl)
          simp only [Act.put, List.setIfInBounds_toArray, List.set_cons_zero, List.set_cons_succ]
          refine wpF_look 3 (v := .slice (some ⟨ab, ao, none⟩) C.regs.length h.rc) rfl rfl (by kernel_rfl) (by kernel_rfl) (by kernel_rfl) (by kernel_rfl) (fun _ _ _ h => h) hT0 (by rfl) (fun w hS => by have hS : Ext no wr w := hS; have q0 := hS.keeps a1 (fun h => h); go_simp) ?_
          simp only [Act.put, List.setIfInBounds_toArray, List.set_cons_zero, List.set_cons_succ]
          refine wpF_take 4 (v := ?_) rfl (by kernel_rfl) (by kernel_rfl) (by kernel_rfl) (fun _ _ _ h => h) hT0 (by rfl) ?_ ?_
          rotate_left
          · (intro wq; go_simp; try with_reducible rfl)
          simp only [Act.put, List.setIfInBounds_toArray, List.set_cons_zero, List.set_cons_succ]
          refine wpF_take 5 (v := .pointer (some ⟨ab, ao + i * 7, none⟩)) rfl (by kernel_rfl) (by kernel_rfl) (by kernel_rfl) (fun _ _ _ h => h) hT0 (by rfl) (by intro wq; go_simp) ?_
          simp only [Act.put, List.setIfInBounds_toArray, List.set_cons_zero, List.set_cons_succ]
          refine wpF_look 6 (v := .agg #[.string (str x.key), .string (str x.text), .int .i64 x.ver, .int .i64 x.time, .int .i64 x.dot.dev, .int .i64 x.dot.ep, .int .i64 x.dot.seq]) rfl rfl (by kernel_rfl) (by kernel_rfl) (by kernel_rfl) (by kernel_rfl) (fun _ _ _ h => h) hT0 (by rfl) (fun w hS => by have hS : Ext no wr w := hS; have q0 := hS.keeps x0 (fun h => h); have q1 := hS.keeps x1 (fun h => h); have q2 := hS.keeps x2 (fun h => h); have q3 := hS.keeps x3 (fun h => h); have q4 := hS.keeps x4 (fun h => h); have q5 := hS.keeps x5 (fun h => h); have q6 := hS.keeps x6 (fun h => h); go_simp) ?_
          simp only [Act.put, List.setIfInBounds_toArray, List.set_cons_zero, List.set_cons_succ]
          refine wpF_take 7 (v := ?_) rfl (by kernel_rfl) (by kernel_rfl) (by kernel_rfl) (fun _ _ _ h => h) hT0 (by rfl) ?_ ?_
          rotate_left
          · (intro wq; go_simp; try with_reducible rfl)
          simp only [Act.put, List.setIfInBounds_toArray, List.set_cons_zero, List.set_cons_succ]
          refine wpF_look 8 (v := .slice (some ⟨bb, bo, none⟩) C.regs.length k.rc) rfl rfl (by kernel_rfl) (by kernel_rfl) (by kernel_rfl) (by kernel_rfl) (fun _ _ _ h => h) hT0 (by rfl) (fun w hS => by have hS : Ext no wr w := hS; have q0 := hS.keeps c1 (fun h => h); go_simp) ?_
          simp only [Act.put, List.setIfInBounds_toArray, List.set_cons_zero, List.set_cons_succ]
          refine wpF_take 9 (v := ?_) rfl (by kernel_rfl) (by kernel_rfl) (by kernel_rfl) (fun _ _ _ h => h) hT0 (by rfl) ?_ ?_
          rotate_left
          · (intro wq; go_simp; try with_reducible rfl)
          simp only [Act.put, List.setIfInBounds_toArray, List.set_cons_zero, List.set_cons_succ]
          refine wpF_take 10 (v := .pointer (some ⟨bb, bo + i * 7, none⟩)) rfl (by kernel_rfl) (by kernel_rfl) (by kernel_rfl) (fun _ _ _ h => h) hT0 (by rfl) (by intro wq; go_simp) ?_
          simp only [Act.put, List.setIfInBounds_toArray, List.set_cons_zero, List.set_cons_succ]
          refine wpF_look 11 (v := .agg #[.string (str x.key), .string (str x.text), .int .i64 x.ver, .int .i64 x.time, .int .i64 x.dot.dev, .int .i64 x.dot.ep, .int .i64 x.dot.seq]) rfl rfl (by kernel_rfl) (by kernel_rfl) (by kernel_rfl) (by kernel_rfl) (fun _ _ _ h => h) hT0 (by rfl) (fun w hS => by have hS : Ext no wr w := hS; have q0 := hS.keeps y0 (fun h => h); have q1 := hS.keeps y1 (fun h => h); have q2 := hS.keeps y2 (fun h => h); have q3 := hS.keeps y3 (fun h => h); have q4 := hS.keeps y4 (fun h => h); have q5 := hS.keeps y5 (fun h => h); have q6 := hS.keeps y6 (fun h => h); go_simp) ?_
          simp only [Act.put, List.setIfInBounds_toArray, List.set_cons_zero, List.set_cons_succ]
          refine wpF_take 12 (v := .bool true) rfl (by kernel_rfl) (by kernel_rfl) (by kernel_rfl) (fun _ _ _ h => h) hT0 (by rfl) (by intro wq; go_simp) ?_
          simp only [Act.put, List.setIfInBounds_toArray, List.set_cons_zero, List.set_cons_succ]
          refine wpF_take 13 (v := ?_) rfl (by kernel_rfl) (by kernel_rfl) (by kernel_rfl) (fun _ _ _ h => h) hT0 (by rfl) ?_ ?_
          rotate_left
          · (intro wq; go_simp; try with_reducible rfl)
          simp only [Act.put, List.setIfInBounds_toArray, List.set_cons_zero, List.set_cons_succ]
          refine wpF_take 14 (v := ?_) rfl (by kernel_rfl) (by kernel_rfl) (by kernel_rfl) (fun _ _ _ h => h) hT0 (by rfl) ?_ ?_
          rotate_left
          · (intro wq; go_simp; try with_reducible rfl)
          simp only [Act.put, List.setIfInBounds_toArray, List.set_cons_zero, List.set_cons_succ]
          refine wpF_done (by kernel_rfl) ?_ _
          go_wp2_with fail
          go_roundw
          case rel => exact ⟨i + 1, rfl, by go_num, by omega, hx.comp (Ext.drew no wr)⟩
          case measure => simp [intOf]; omega
        · obtain rfl : i = C.regs.length := by omega
          have d1 : decide (C.regs.length < C.regs.length) = false := decF (by omega)
          have hx_2 := hx
          clear hx hd1 hd2 hil hi
          go_wp2_with fail
          go_loopw [5, 8] (fun s5 s wr => ∃ i : Nat, s5 = .bool true ∧ s = .int .i64 i ∧ i ≤ C.elems.length ∧ Ext no w1 wr) (fun _ s _ => C.elems.length - (intOf s).toNat)
          case atStart => exact ⟨0, rfl, rfl, Nat.zero_le _, hx_2⟩
          case round =>
            obtain ⟨i, rfl, rfl, hi, hx⟩ := hrel
            have hsl := sC.e
            have hd1 := hc1.ext (by simp) hx (fun h => h)
            have hd2 := hc2.ext (by simp) hx (fun h => h)
            have a2 := hd1.cell 2 _ rfl
            have c2 := hd2.cell 2 _ rfl
            by_cases hil : i < C.elems.length
            · have d1 : decide (i < C.elems.length) = true := decT hil
              obtain ⟨x, hxm⟩ : ∃ x, C.elems[i]? = some x := ⟨_, List.getElem?_eq_getElem hil⟩
              have hr1 := (H1.out.e.ext hx1 (fun _ _ h => h)).ext hx (fun _ _ h => h)
              have hr2 := (H2.out.e.ext hx1 (fun _ _ h => h)).ext hx (fun _ _ h => h)
              obtain ⟨ab, ao, hab, _⟩ := rows_shape kElem (by omega) hr1 (by omega)
              obtain ⟨bb, bo, hbb, _⟩ := rows_shape kElem (by omega) hr2 (by omega)
              rw [hab] at a2 hr1
              rw [hbb] at c2 hr2
              have x0 : wr.cell? ⟨ab, ao + i * 6, none⟩ = some (.string (str x.key)) := rows_cell kElem hr1 hxm 0 _ rfl
              have x1 : wr.cell? ⟨ab, ao + i * 6 + 1, none⟩ = some (.string (str x.text)) := rows_cell kElem hr1 hxm 1 _ rfl
              have x2 : wr.cell? ⟨ab, ao + i * 6 + 2, none⟩ = some (.int .i64 x.ver) := rows_cell kElem hr1 hxm 2 _ rfl
              have x3 : wr.cell? ⟨ab, ao + i * 6 + 3, none⟩ = some (.int .i64 x.dot.dev) := rows_cell kElem hr1 hxm 3 _ rfl
              have x4 : wr.cell? ⟨ab, ao + i * 6 + 4, none⟩ = some (.int .i64 x.dot.ep) := rows_cell kElem hr1 hxm 4 _ rfl
              have x5 : wr.cell? ⟨ab, ao + i * 6 + 5, none⟩ = some (.int .i64 x.dot.seq) := rows_cell kElem hr1 hxm 5 _ rfl
              have y0 : wr.cell? ⟨bb, bo + i * 6, none⟩ = some (.string (str x.key)) := rows_cell kElem hr2 hxm 0 _ rfl
              have y1 : wr.cell? ⟨bb, bo + i * 6 + 1, none⟩ = some (.string (str x.text)) := rows_cell kElem hr2 hxm 1 _ rfl
              have y2 : wr.cell? ⟨bb, bo + i * 6 + 2, none⟩ = some (.int .i64 x.ver) := rows_cell kElem hr2 hxm 2 _ rfl
              have y3 : wr.cell? ⟨bb, bo + i * 6 + 3, none⟩ = some (.int .i64 x.dot.dev) := rows_cell kElem hr2 hxm 3 _ rfl
              have y4 : wr.cell? ⟨bb, bo + i * 6 + 4, none⟩ = some (.int .i64 x.dot.ep) := rows_cell kElem hr2 hxm 4 _ rfl
              have y5 : wr.cell? ⟨bb, bo + i * 6 + 5, none⟩ = some (.int .i64 x.dot.seq) := rows_cell kElem hr2 hxm 5 _ rfl
              clear hab hbb hr1 hr2
              go_upto_region 15 with fail
              refine wp_region_F [3, 6, 8, 11] (looks [(3, fun z => Ext no wr z), (6, fun z => Ext no wr z), (8, fun z => Ext no wr z), (11, fun z => Ext no wr z)]) (by kernel_rfl) ?_
              have hT0 : ∀ k, looks [(3, fun z => Ext no wr z), (6, fun z => Ext no wr z), (8, fun z => Ext no wr z), (11, fun z => Ext no wr z)] k (wr.drew) := looks_all ⟨Ext.drew no wr, Ext.drew no wr, Ext.drew no wr, Ext.drew no wr, trivial⟩
              refine wpF_take 0 (v := ?_) rfl (by kernel_rfl) (by kernel_rfl) (by kernel_rfl) (fun _ _ _ h => h) hT0 (by rfl) ?_ ?_
              rotate_left
              · (intro wq; go_simp; try with_reducible rfl)
              simp only [Act.put, List.setIfInBounds_toArray, List.set_cons_zero, List.set_cons_succ]
              refine wpF_take 1 (v := ?_) rfl (by kernel_rfl) (by kernel_rfl) (by kernel_rfl) (fun _ _ _ h => h) hT0 (by rfl) ?_ ?_
              rotate_left
              · (intro wq; go_simp; try with_reducible rfl)
              simp only [Act.put, List.setIfInBounds_toArray, List.set_cons_zero, List.set_cons_succ]
              refine wpF_take 2 (v := ?_) rfl (by kernel_rfl) (by kernel_rfl) (by kernel_rfl) (fun _ _ _ h => h) hT0 (by rfl) ?_ ?_
              rotate_left
              · (intro wq; go_simp; try with_reducible rfl)
              simp only [Act.put, List.setIfInBounds_toArray, List.set_cons_zero, List.set_cons_succ]
              refine wpF_look 3 (v := .slice (some ⟨ab, ao, none⟩) C.elems.length h.ec) rfl rfl (by kernel_rfl) (by kernel_rfl) (by kernel_rfl) (by kernel_rfl) (fun _ _ _ h => h) hT0 (by rfl) (fun w hS => by have hS : Ext no wr w := hS; have q0 := hS.keeps a2 (fun h => h); go_simp) ?_
              simp only [Act.put, List.setIfInBounds_toArray, List.set_cons_zero, List.set_cons_succ]
              refine wpF_take 4 (v := ?_) rfl (by kernel_rfl) (by kernel_rfl) (by kernel_rfl) (fun _ _ _ h => h) hT0 (by rfl) ?_ ?_
              rotate_left
              · (intro wq; go_simp; try with_reducible rfl)
              simp only [Act.put, List.setIfInBounds_toArray, List.set_cons_zero, List.set_cons_succ]
              refine wpF_take 5 (v := .pointer (some ⟨ab, ao + i * 6, none⟩)) rfl (by kernel_rfl) (by kernel_rfl) (by kernel_rfl) (fun _ _ _ h => h) hT0 (by rfl) (by intro wq; go_simp) ?_
              simp only [Act.put, List.setIfInBounds_toArray, List.set_cons_zero, List.set_cons_succ]
              refine wpF_look 6 (v := .agg #[.string (str x.key), .string (str x.text), .int .i64 x.ver, .int .i64 x.dot.dev, .int .i64 x.dot.ep, .int .i64 x.dot.seq]) rfl rfl (by kernel_rfl) (by kernel_rfl) (by kernel_rfl) (by kernel_rfl) (fun _ _ _ h => h) hT0 (by rfl) (fun w hS => by have hS : Ext no wr w := hS; have q0 := hS.keeps x0 (fun h => h); have q1 := hS.keeps x1 (fun h => h); have q2 := hS.keeps x2 (fun h => h); have q3 := hS.keeps x3 (fun h => h); have q4 := hS.keeps x4 (fun h => h); have q5 := hS.keeps x5 (fun h => h); go_simp) ?_
              simp only [Act.put, List.setIfInBounds_toArray, List.set_cons_zero, List.set_cons_succ]
              refine wpF_take 7 (v := ?_) rfl (by kernel_rfl) (by kernel_rfl) (by kernel_rfl) (fun _ _ _ h => h) hT0 (by rfl) ?_ ?_
              rotate_left
              · (intro wq; go_simp; try with_reducible rfl)
              simp only [Act.put, List.setIfInBounds_toArray, List.set_cons_zero, List.set_cons_succ]
              refine wpF_look 8 (v := .slice (some ⟨bb, bo, none⟩) C.elems.length k.ec) rfl rfl (by kernel_rfl) (by kernel_rfl) (by kernel_rfl) (by kernel_rfl) (fun _ _ _ h => h) hT0 (by rfl) (fun w hS => by have hS : Ext no wr w := hS; have q0 := hS.keeps c2 (fun h => h); go_simp) ?_
              simp only [Act.put, List.setIfInBounds_toArray, List.set_cons_zero, List.set_cons_succ]
              refine wpF_take 9 (v := ?_) rfl (by kernel_rfl) (by kernel_rfl) (by kernel_rfl) (fun _ _ _ h => h) hT0 (by rfl) ?_ ?_
              rotate_left
              · (intro wq; go_simp; try with_reducible rfl)
              simp only [Act.put, List.setIfInBounds_toArray, List.set_cons_zero, List.set_cons_succ]
              refine wpF_take 10 (v := .pointer (some ⟨bb, bo + i * 6, none⟩)) rfl (by kernel_rfl) (by kernel_rfl) (by kernel_rfl) (fun _ _ _ h => h) hT0 (by rfl) (by intro wq; go_simp) ?_
              simp only [Act.put, List.setIfInBounds_toArray, List.set_cons_zero, List.set_cons_succ]
              refine wpF_look 11 (v := .agg #[.string (str x.key), .string (str x.text), .int .i64 x.ver, .int .i64 x.dot.dev, .int .i64 x.dot.ep, .int .i64 x.dot.seq]) rfl rfl (by kernel_rfl) (by kernel_rfl) (by kernel_rfl) (by kernel_rfl) (fun _ _ _ h => h) hT0 (by rfl) (fun w hS => by have hS : Ext no wr w := hS; have q0 := hS.keeps y0 (fun h => h); have q1 := hS.keeps y1 (fun h => h); have q2 := hS.keeps y2 (fun h => h); have q3 := hS.keeps y3 (fun h => h); have q4 := hS.keeps y4 (fun h => h); have q5 := hS.keeps y5 (fun h => h); go_simp) ?_
              simp only [Act.put, List.setIfInBounds_toArray, List.set_cons_zero, List.set_cons_succ]
              refine wpF_take 12 (v := .bool true) rfl (by kernel_rfl) (by kernel_rfl) (by kernel_rfl) (fun _ _ _ h => h) hT0 (by rfl) (by intro wq; go_simp) ?_
              simp only [Act.put, List.setIfInBounds_toArray, List.set_cons_zero, List.set_cons_succ]
              refine wpF_take 13 (v := ?_) rfl (by kernel_rfl) (by kernel_rfl) (by kernel_rfl) (fun _ _ _ h => h) hT0 (by rfl) ?_ ?_
              rotate_left
              · (intro wq; go_simp; try with_reducible rfl)
              simp only [Act.put, List.setIfInBounds_toArray, List.set_cons_zero, List.set_cons_succ]
              refine wpF_take 14 (v := ?_) rfl (by kernel_rfl) (by kernel_rfl) (by kernel_rfl) (fun _ _ _ h => h) hT0 (by rfl) ?_ ?_
              rotate_left
              · (intro wq; go_simp; try with_reducible rfl)
              simp only [Act.put, List.setIfInBounds_toArray, List.set_cons_zero, List.set_cons_succ]
              refine wpF_done (by kernel_rfl) ?_ _
              go_wp2_with fail
              go_roundw
              case rel => exact ⟨i + 1, rfl, by go_num, by omega, hx.comp (Ext.drew no wr)⟩
              case measure => simp [intOf]; omega
            · obtain rfl : i = C.elems.length := by omega
              have d1 : decide (C.elems.length < C.elems.length) = false := decF (by omega)
              have hx_3 := hx
              clear hx hd1 hd2 hil hi
              go_wp2_with fail
              go_loopw [5, 9] (fun s5 s wr => ∃ i : Nat, s5 = .bool true ∧ s = .int .i64 i ∧ i ≤ C.sums.length ∧ Ext no w1 wr) (fun _ s _ => C.sums.length - (intOf s).toNat)
              case atStart => exact ⟨0, rfl, rfl, Nat.zero_le _, hx_3⟩
              case round =>
                obtain ⟨i, rfl, rfl, hi, hx⟩ := hrel
                have hsl := sC.s
                have hd1 := hc1.ext (by simp) hx (fun h => h)
                have hd2 := hc2.ext (by simp) hx (fun h => h)
                have a4 := hd1.cell 4 _ rfl
                have c4 := hd2.cell 4 _ rfl
                by_cases hil : i < C.sums.length
                · have d1 : decide (i < C.sums.length) = true := decT hil
                  obtain ⟨x, hxm⟩ : ∃ x, C.sums[i]? = some x := ⟨_, List.getElem?_eq_getElem hil⟩
                  have hr1 := (H1.out.s.ext hx1 (fun _ _ h => h)).ext hx (fun _ _ h => h)
                  have hr2 := (H2.out.s.ext hx1 (fun _ _ h => h)).ext hx (fun _ _ h => h)
                  obtain ⟨ab, ao, hab, _⟩ := rows_shape kSum (by omega) hr1 (by omega)
                  obtain ⟨bb, bo, hbb, _⟩ := rows_shape kSum (by omega) hr2 (by omega)
                  rw [hab] at a4 hr1
                  rw [hbb] at c4 hr2
                  have x0 : wr.cell? ⟨ab, ao + i * 2, none⟩ = some (.string (str x.key)) := rows_cell kSum hr1 hxm 0 _ rfl
                  have x1 : wr.cell? ⟨ab, ao + i * 2 + 1, none⟩ = some (.int .i64 x.n) := rows_cell kSum hr1 hxm 1 _ rfl
                  have y0 : wr.cell? ⟨bb, bo + i * 2, none⟩ = some (.string (str x.key)) := rows_cell kSum hr2 hxm 0 _ rfl
                  have y1 : wr.cell? ⟨bb, bo + i * 2 + 1, none⟩ = some (.int .i64 x.n) := rows_cell kSum hr2 hxm 1 _ rfl
                  clear hab hbb hr1 hr2
                  go_upto_region 19 with fail
                  refine wp_region_F [3, 6, 8, 11] (looks [(3, fun z => Ext no wr z), (6, fun z => Ext no wr z), (8, fun z => Ext no wr z), (11, fun z => Ext no wr z)]) (by kernel_rfl) ?_
                  have hT0 : ∀ k, looks [(3, fun z => Ext no wr z), (6, fun z => Ext no wr z), (8, fun z => Ext no wr z), (11, fun z => Ext no wr z)] k (wr.drew) := looks_all ⟨Ext.drew no wr, Ext.drew no wr, Ext.drew no wr, Ext.drew no wr, trivial⟩
                  refine wpF_take 0 (v := ?_) rfl (by kernel_rfl) (by kernel_rfl) (by kernel_rfl) (fun _ _ _ h => h) hT0 (by rfl) ?_ ?_
                  rotate_left
                  · (intro wq; go_simp; try with_reducible rfl)
                  simp only [Act.put, List.setIfInBounds_toArray, List.set_cons_zero, List.set_cons_succ]
                  refine wpF_take 1 (v := ?_) rfl (by kernel_rfl) (by kernel_rfl) (by kernel_rfl) (fun _ _ _ h => h) hT0 (by rfl) ?_ ?_
                  rotate_left
                  · (intro wq; go_simp; try with_reducible rfl)
                  simp only [Act.put, List.setIfInBounds_toArray, List.set_cons_zero, List.set_cons_succ]
                  refine wpF_take 2 (v := ?_) rfl (by kernel_rfl) (by kernel_rfl) (by kernel_rfl) (fun _ _ _ h => h) hT0 (by rfl) ?_ ?_
                  rotate_left
                  · (intro wq; go_simp; try with_reducible rfl)
                  simp only [Act.put, List.setIfInBounds_toArray, List.set_cons_zero, List.set_cons_succ]
                  refine wpF_look 3 (v := .slice (some ⟨ab, ao, none⟩) C.sums.length h.sc) rfl rfl (by kernel_rfl) (by kernel_rfl) (by kernel_rfl) (by kernel_rfl) (fun _ _ _ h => h) hT0 (by rfl) (fun w hS => by have hS : Ext no wr w := hS; have q0 := hS.keeps a4 (fun h => h); go_simp) ?_
                  simp only [Act.put, List.setIfInBounds_toArray, List.set_cons_zero, List.set_cons_succ]
                  refine wpF_take 4 (v := ?_) rfl (by kernel_rfl) (by kernel_rfl) (by kernel_rfl) (fun _ _ _ h => h) hT0 (by rfl) ?_ ?_
                  rotate_left
                  · (intro wq; go_simp; try with_reducible rfl)
                  simp only [Act.put, List.setIfInBounds_toArray, List.set_cons_zero, List.set_cons_succ]
                  refine wpF_take 5 (v := .pointer (some ⟨ab, ao + i * 2, none⟩)) rfl (by kernel_rfl) (by kernel_rfl) (by kernel_rfl) (fun _ _ _ h => h) hT0 (by rfl) (by intro wq; go_simp) ?_
                  simp only [Act.put, List.setIfInBounds_toArray, List.set_cons_zero, List.set_cons_succ]
                  refine wpF_look 6 (v := .agg #[.string (str x.key), .int .i64 x.n]) rfl rfl (by kernel_rfl) (by kernel_rfl) (by kernel_rfl) (by kernel_rfl) (fun _ _ _ h => h) hT0 (by rfl) (fun w hS => by have hS : Ext no wr w := hS; have q0 := hS.keeps x0 (fun h => h); have q1 := hS.keeps x1 (fun h => h); go_simp) ?_
                  simp only [Act.put, List.setIfInBounds_toArray, List.set_cons_zero, List.set_cons_succ]
                  refine wpF_take 7 (v := ?_) rfl (by kernel_rfl) (by kernel_rfl) (by kernel_rfl) (fun _ _ _ h => h) hT0 (by rfl) ?_ ?_
                  rotate_left
                  · (intro wq; go_simp; try with_reducible rfl)
                  simp only [Act.put, List.setIfInBounds_toArray, List.set_cons_zero, List.set_cons_succ]
                  refine wpF_look 8 (v := .slice (some ⟨bb, bo, none⟩) C.sums.length k.sc) rfl rfl (by kernel_rfl) (by kernel_rfl) (by kernel_rfl) (by kernel_rfl) (fun _ _ _ h => h) hT0 (by rfl) (fun w hS => by have hS : Ext no wr w := hS; have q0 := hS.keeps c4 (fun h => h); go_simp) ?_
                  simp only [Act.put, List.setIfInBounds_toArray, List.set_cons_zero, List.set_cons_succ]
                  refine wpF_take 9 (v := ?_) rfl (by kernel_rfl) (by kernel_rfl) (by kernel_rfl) (fun _ _ _ h => h) hT0 (by rfl) ?_ ?_
                  rotate_left
                  · (intro wq; go_simp; try with_reducible rfl)
                  simp only [Act.put, List.setIfInBounds_toArray, List.set_cons_zero, List.set_cons_succ]
                  refine wpF_take 10 (v := .pointer (some ⟨bb, bo + i * 2, none⟩)) rfl (by kernel_rfl) (by kernel_rfl) (by kernel_rfl) (fun _ _ _ h => h) hT0 (by rfl) (by intro wq; go_simp) ?_
                  simp only [Act.put, List.setIfInBounds_toArray, List.set_cons_zero, List.set_cons_succ]
                  refine wpF_look 11 (v := .agg #[.string (str x.key), .int .i64 x.n]) rfl rfl (by kernel_rfl) (by kernel_rfl) (by kernel_rfl) (by kernel_rfl) (fun _ _ _ h => h) hT0 (by rfl) (fun w hS => by have hS : Ext no wr w := hS; have q0 := hS.keeps y0 (fun h => h); have q1 := hS.keeps y1 (fun h => h); go_simp) ?_
                  simp only [Act.put, List.setIfInBounds_toArray, List.set_cons_zero, List.set_cons_succ]
                  refine wpF_take 12 (v := .bool true) rfl (by kernel_rfl) (by kernel_rfl) (by kernel_rfl) (fun _ _ _ h => h) hT0 (by rfl) (by intro wq; go_simp) ?_
                  simp only [Act.put, List.setIfInBounds_toArray, List.set_cons_zero, List.set_cons_succ]
                  refine wpF_take 13 (v := ?_) rfl (by kernel_rfl) (by kernel_rfl) (by kernel_rfl) (fun _ _ _ h => h) hT0 (by rfl) ?_ ?_
                  rotate_left
                  · (intro wq; go_simp; try with_reducible rfl)
                  simp only [Act.put, List.setIfInBounds_toArray, List.set_cons_zero, List.set_cons_succ]
                  refine wpF_take 14 (v := ?_) rfl (by kernel_rfl) (by kernel_rfl) (by kernel_rfl) (fun _ _ _ h => h) hT0 (by rfl) ?_ ?_
                  rotate_left
                  · (intro wq; go_simp; try with_reducible rfl)
                  simp only [Act.put, List.setIfInBounds_toArray, List.set_cons_zero, List.set_cons_succ]
                  refine wpF_done (by kernel_rfl) ?_ _
                  go_wp2_with fail
                  go_roundw
                  case rel => exact ⟨i + 1, rfl, by go_num, by omega, hx.comp (Ext.drew no wr)⟩
                  case measure => simp [intOf]; omega
                · obtain rfl : i = C.sums.length := by omega
                  have d1 : decide (C.sums.length < C.sums.length) = false := decF (by omega)
                  have hx_4 := hx
                  clear hx hd1 hd2 hil hi
                  go_wp2_with fail
                  go_loopw [5, 10] (fun s5 s wr => ∃ i : Nat, s5 = .bool true ∧ s = .int .i64 i ∧ i ≤ C.binds.length ∧ Ext no w1 wr) (fun _ s _ => C.binds.length - (intOf s).toNat)
                  case atStart => exact ⟨0, rfl, rfl, Nat.zero_le _, hx_4⟩
                  case round =>
                    obtain ⟨i, rfl, rfl, hi, hx⟩ := hrel
                    have hsl := sC.b
                    have hd1 := hc1.ext (by simp) hx (fun h => h)
                    have hd2 := hc2.ext (by simp) hx (fun h => h)
                    have a5 := hd1.cell 5 _ rfl
                    have c5 := hd2.cell 5 _ rfl
                    by_cases hil : i < C.binds.length
                    · have d1 : decide (i < C.binds.length) = true := decT hil
                      obtain ⟨x, hxm⟩ : ∃ x, C.binds[i]? = some x := ⟨_, List.getElem?_eq_getElem hil⟩
                      have hr1 := (H1.out.b.ext hx1 (fun _ _ h => h)).ext hx (fun _ _ h => h)
                      have hr2 := (H2.out.b.ext hx1 (fun _ _ h => h)).ext hx (fun _ _ h => h)
                      obtain ⟨ab, ao, hab, _⟩ := rows_shape kBind (by omega) hr1 (by omega)
                      obtain ⟨bb, bo, hbb, _⟩ := rows_shape kBind (by omega) hr2 (by omega)
                      rw [hab] at a5 hr1
                      rw [hbb] at c5 hr2
                      have x0 : wr.cell? ⟨ab, ao + i * 6, none⟩ = some (.int .i64 x.id) := rows_cell kBind hr1 hxm 0 _ rfl
                      have x1 : wr.cell? ⟨ab, ao + i * 6 + 1, none⟩ = some (.string (str x.text)) := rows_cell kBind hr1 hxm 1 _ rfl
                      have x2 : wr.cell? ⟨ab, ao + i * 6 + 2, none⟩ = some (.int .i64 x.ver) := rows_cell kBind hr1 hxm 2 _ rfl
                      have x3 : wr.cell? ⟨ab, ao + i * 6 + 3, none⟩ = some (.int .i64 x.dot.dev) := rows_cell kBind hr1 hxm 3 _ rfl
                      have x4 : wr.cell? ⟨ab, ao + i * 6 + 4, none⟩ = some (.int .i64 x.dot.ep) := rows_cell kBind hr1 hxm 4 _ rfl
                      have x5 : wr.cell? ⟨ab, ao + i * 6 + 5, none⟩ = some (.int .i64 x.dot.seq) := rows_cell kBind hr1 hxm 5 _ rfl
                      have y0 : wr.cell? ⟨bb, bo + i * 6, none⟩ = some (.int .i64 x.id) := rows_cell kBind hr2 hxm 0 _ rfl
                      have y1 : wr.cell? ⟨bb, bo + i * 6 + 1, none⟩ = some (.string (str x.text)) := rows_cell kBind hr2 hxm 1 _ rfl
                      have y2 : wr.cell? ⟨bb, bo + i * 6 + 2, none⟩ = some (.int .i64 x.ver) := rows_cell kBind hr2 hxm 2 _ rfl
                      have y3 : wr.cell? ⟨bb, bo + i * 6 + 3, none⟩ = some (.int .i64 x.dot.dev) := rows_cell kBind hr2 hxm 3 _ rfl
                      have y4 : wr.cell? ⟨bb, bo + i * 6 + 4, none⟩ = some (.int .i64 x.dot.ep) := rows_cell kBind hr2 hxm 4 _ rfl
                      have y5 : wr.cell? ⟨bb, bo + i * 6 + 5, none⟩ = some (.int .i64 x.dot.seq) := rows_cell kBind hr2 hxm 5 _ rfl
                      clear hab hbb hr1 hr2
                      go_upto_region 23 with fail
                      refine wp_region_F [3, 6, 8, 11] (looks [(3, fun z => Ext no wr z), (6, fun z => Ext no wr z), (8, fun z => Ext no wr z), (11, fun z => Ext no wr z)]) (by kernel_rfl) ?_
                      have hT0 : ∀ k, looks [(3, fun z => Ext no wr z), (6, fun z => Ext no wr z), (8, fun z => Ext no wr z), (11, fun z => Ext no wr z)] k (wr.drew) := looks_all ⟨Ext.drew no wr, Ext.drew no wr, Ext.drew no wr, Ext.drew no wr, trivial⟩
                      refine wpF_take 0 (v := ?_) rfl (by kernel_rfl) (by kernel_rfl) (by kernel_rfl) (fun _ _ _ h => h) hT0 (by rfl) ?_ ?_
                      rotate_left
                      · (intro wq; go_simp; try with_reducible rfl)
                      simp only [Act.put, List.setIfInBounds_toArray, List.set_cons_zero, List.set_cons_succ]
                      refine wpF_take 1 (v := ?_) rfl (by kernel_rfl) (by kernel_rfl) (by kernel_rfl) (fun _ _ _ h => h) hT0 (by rfl) ?_ ?_
                      rotate_left
                      · (intro wq; go_simp; try with_reducible rfl)
                      simp only [Act.put, List.setIfInBounds_toArray, List.set_cons_zero, List.set_cons_succ]
                      refine wpF_take 2 (v := ?_) rfl (by kernel_rfl) (by kernel_rfl) (by kernel_rfl) (fun _ _ _ h => h) hT0 (by rfl) ?_ ?_
                      rotate_left
                      · (intro wq; go_simp; try with_reducible rfl)
                      simp only [Act.put, List.setIfInBounds_toArray, List.set_cons_zero, List.set_cons_succ]
                      refine wpF_look 3 (v := .slice (some ⟨ab, ao, none⟩) C.binds.length h.bc) rfl rfl (by kernel_rfl) (by kernel_rfl) (by kernel_rfl) (by kernel_rfl) (fun _ _ _ h => h) hT0 (by rfl) (fun w hS => by have hS : Ext no wr w := hS; have q0 := hS.keeps a5 (fun h => h); go_simp) ?_
                      simp only [Act.put, List.setIfInBounds_toArray, List.set_cons_zero, List.set_cons_succ]
                      refine wpF_take 4 (v := ?_) rfl (by kernel_rfl) (by kernel_rfl) (by kernel_rfl) (fun _ _ _ h => h) hT0 (by rfl) ?_ ?_
                      rotate_left
                      · (intro wq; go_simp; try with_reducible rfl)
                      simp only [Act.put, List.setIfInBounds_toArray, List.set_cons_zero, List.set_cons_succ]
                      refine wpF_take 5 (v := .pointer (some ⟨ab, ao + i * 6, none⟩)) rfl (by kernel_rfl) (by kernel_rfl) (by kernel_rfl) (fun _ _ _ h => h) hT0 (by rfl) (by intro wq; go_simp) ?_
                      simp only [Act.put, List.setIfInBounds_toArray, List.set_cons_zero, List.set_cons_succ]
                      refine wpF_look 6 (v := .agg #[.int .i64 x.id, .string (str x.text), .int .i64 x.ver, .int .i64 x.dot.dev, .int .i64 x.dot.ep, .int .i64 x.dot.seq]) rfl rfl (by kernel_rfl) (by kernel_rfl) (by kernel_rfl) (by kernel_rfl) (fun _ _ _ h => h) hT0 (by rfl) (fun w hS => by have hS : Ext no wr w := hS; have q0 := hS.keeps x0 (fun h => h); have q1 := hS.keeps x1 (fun h => h); have q2 := hS.keeps x2 (fun h => h); have q3 := hS.keeps x3 (fun h => h); have q4 := hS.keeps x4 (fun h => h); have q5 := hS.keeps x5 (fun h => h); go_simp) ?_
                      simp only [Act.put, List.setIfInBounds_toArray, List.set_cons_zero, List.set_cons_succ]
                      refine wpF_take 7 (v := ?_) rfl (by kernel_rfl) (by kernel_rfl) (by kernel_rfl) (fun _ _ _ h => h) hT0 (by rfl) ?_ ?_
                      rotate_left
                      · (intro wq; go_simp; try with_reducible rfl)
                      simp only [Act.put, List.setIfInBounds_toArray, List.set_cons_zero, List.set_cons_succ]
                      refine wpF_look 8 (v := .slice (some ⟨bb, bo, none⟩) C.binds.length k.bc) rfl rfl (by kernel_rfl) (by kernel_rfl) (by kernel_rfl) (by kernel_rfl) (fun _ _ _ h => h) hT0 (by rfl) (fun w hS => by have hS : Ext no wr w := hS; have q0 := hS.keeps c5 (fun h => h); go_simp) ?_
                      simp only [Act.put, List.setIfInBounds_toArray, List.set_cons_zero, List.set_cons_succ]
                      refine wpF_take 9 (v := ?_) rfl (by kernel_rfl) (by kernel_rfl) (by kernel_rfl) (fun _ _ _ h => h) hT0 (by rfl) ?_ ?_
                      rotate_left
                      · (intro wq; go_simp; try with_reducible rfl)
                      simp only [Act.put, List.setIfInBounds_toArray, List.set_cons_zero, List.set_cons_succ]
                      refine wpF_take 10 (v := .pointer (some ⟨bb, bo + i * 6, none⟩)) rfl (by kernel_rfl) (by kernel_rfl) (by kernel_rfl) (fun _ _ _ h => h) hT0 (by rfl) (by intro wq; go_simp) ?_
                      simp only [Act.put, List.setIfInBounds_toArray, List.set_cons_zero, List.set_cons_succ]
                      refine wpF_look 11 (v := .agg #[.int .i64 x.id, .string (str x.text), .int .i64 x.ver, .int .i64 x.dot.dev, .int .i64 x.dot.ep, .int .i64 x.dot.seq]) rfl rfl (by kernel_rfl) (by kernel_rfl) (by kernel_rfl) (by kernel_rfl) (fun _ _ _ h => h) hT0 (by rfl) (fun w hS => by have hS : Ext no wr w := hS; have q0 := hS.keeps y0 (fun h => h); have q1 := hS.keeps y1 (fun h => h); have q2 := hS.keeps y2 (fun h => h); have q3 := hS.keeps y3 (fun h => h); have q4 := hS.keeps y4 (fun h => h); have q5 := hS.keeps y5 (fun h => h); go_simp) ?_
                      simp only [Act.put, List.setIfInBounds_toArray, List.set_cons_zero, List.set_cons_succ]
                      refine wpF_take 12 (v := .bool true) rfl (by kernel_rfl) (by kernel_rfl) (by kernel_rfl) (fun _ _ _ h => h) hT0 (by rfl) (by intro wq; go_simp) ?_
                      simp only [Act.put, List.setIfInBounds_toArray, List.set_cons_zero, List.set_cons_succ]
                      refine wpF_take 13 (v := ?_) rfl (by kernel_rfl) (by kernel_rfl) (by kernel_rfl) (fun _ _ _ h => h) hT0 (by rfl) ?_ ?_
                      rotate_left
                      · (intro wq; go_simp; try with_reducible rfl)
                      simp only [Act.put, List.setIfInBounds_toArray, List.set_cons_zero, List.set_cons_succ]
                      refine wpF_take 14 (v := ?_) rfl (by kernel_rfl) (by kernel_rfl) (by kernel_rfl) (fun _ _ _ h => h) hT0 (by rfl) ?_ ?_
                      rotate_left
                      · (intro wq; go_simp; try with_reducible rfl)
                      simp only [Act.put, List.setIfInBounds_toArray, List.set_cons_zero, List.set_cons_succ]
                      refine wpF_done (by kernel_rfl) ?_ _
                      go_wp2_with fail
                      go_roundw
                      case rel => exact ⟨i + 1, rfl, by go_num, by omega, hx.comp (Ext.drew no wr)⟩
                      case measure => simp [intOf]; omega
                    · obtain rfl : i = C.binds.length := by omega
                      have d1 : decide (C.binds.length < C.binds.length) = false := decF (by omega)
                      have hx_5 := hx
                      clear hx hd1 hd2 hil hi
                      go_wp2_with fail
                      go_ret
                      exact ⟨rfl, hx1.comp hx_5⟩
end Go.Proofs.Ytejmmkjpncpedaa
