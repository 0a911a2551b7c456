/- The reference's rows, leases, replies: of one and the same. -/
import Derived.Test.YtddobhihjljcgaaGreatWxF
namespace Go.Proofs.YtddobhihjljcgaaGreat
open Go.RowKit Go.Esc
set_option linter.unusedVariables false
set_option linter.unusedSimpArgs false
set_option maxRecDepth 100000 in
set_option maxHeartbeats 4000000 in
theorem refbools_eq (w : World) (a b : Option Addr) (c d : Nat) (l : List Bool) (ha : Rd w a (bls l)) (hb : Rd w b (bls l)) (hl : l.length ≤ 1000000) :
  Calls Tryz.prog 41 #[.slice a l.length c, .slice b l.length d] w fun e w' => e = .returned (.bool true) ∧ Ext no w w' := by
 go_enter Tryz.func41, Tryz.ntmps41
 go_wp2_with fail
 go_loopw [5] (fun s5 wr => ∃ (i : Nat), i ≤ l.length ∧ s5 = .int .i64 i ∧ Ext no w wr) (fun s5 _ => l.length - (intOf s5).toNat)
 case atStart => exact ⟨0, Nat.zero_le _, rfl, Ext.refl _ _⟩
 case round =>
  obtain ⟨i, hi, rfl, hx⟩ := hrel
  by_cases hlt : i < l.length
  ·have d1 : decide (i < l.length) = true := decT hlt
   have hr1 := ha.ext hx (fun _ _ h => h)
   have hr2 := hb.ext hx (fun _ _ h => h)
   have hgl : (bls l).length = l.length := by simp
   obtain ⟨ob, oof, hsa, _⟩ := hr1.shape (by omega)
   obtain ⟨pb, pof, hsb, _⟩ := hr2.shape (by omega)
   rw [hsa] at hr1
   rw [hsb] at hr2
   have y0 := hr1.lookup i (by omega)
   have z0 := hr2.lookup i (by omega)
   rw [show (bls l)[i]'(by omega) = .bool l[i] from by simp [bls]] at y0 z0
   generalize l[i] = m at *
   have ha' : a = some ⟨ob, oof, none⟩ := hsa
   have hb' : b = some ⟨pb, pof, none⟩ := hsb
   clear hr1 hr2 hsa hsb hgl
   subst ha' hb'
   go_upto_region 6 with fail
   go_quiet (fail)
   have hx := hx.comp (Ext.drewN no wr nq)
   generalize wr.drewN nq = wz at *
   go_wp2_with fail
   go_roundw
   case rel => exact ⟨i + 1, by omega, by go_num, hx⟩
   case measure => simp [intOf]; omega
  ·have d1 : decide (i < l.length) = false := decF hlt
   go_wp2_with fail
   go_ret
   exact ⟨rfl, hx⟩
set_option maxRecDepth 100000 in
set_option maxHeartbeats 4000000 in
theorem refints_eq (w : World) (a b : Option Addr) (c d : Nat) (l : List Int) (ha : Rd w a (is l)) (hb : Rd w b (is l)) (hl : l.length ≤ 1000000) :
  Calls Tryz.prog 90 #[.slice a l.length c, .slice b l.length d] w fun e w' => e = .returned (.bool true) ∧ Ext no w w' := by
 go_enter Tryz.func90, Tryz.ntmps90
 go_wp2_with fail
 go_loopw [5] (fun s5 wr => ∃ (i : Nat), i ≤ l.length ∧ s5 = .int .i64 i ∧ Ext no w wr) (fun s5 _ => l.length - (intOf s5).toNat)
 case atStart => exact ⟨0, Nat.zero_le _, rfl, Ext.refl _ _⟩
 case round =>
  obtain ⟨i, hi, rfl, hx⟩ := hrel
  by_cases hlt : i < l.length
  ·have d1 : decide (i < l.length) = true := decT hlt
   have hr1 := ha.ext hx (fun _ _ h => h)
   have hr2 := hb.ext hx (fun _ _ h => h)
   have hgl : (is l).length = l.length := by simp
   obtain ⟨ob, oof, hsa, _⟩ := hr1.shape (by omega)
   obtain ⟨pb, pof, hsb, _⟩ := hr2.shape (by omega)
   rw [hsa] at hr1
   rw [hsb] at hr2
   have y0 := hr1.lookup i (by omega)
   have z0 := hr2.lookup i (by omega)
   rw [show (is l)[i]'(by omega) = .int .i64 l[i] from by simp [is, I64]] at y0 z0
   generalize l[i] = m at *
   have ha' : a = some ⟨ob, oof, none⟩ := hsa
   have hb' : b = some ⟨pb, pof, none⟩ := hsb
   clear hr1 hr2 hsa hsb hgl
   subst ha' hb'
   go_upto_region 6 with fail
   go_quiet (fail)
   have hx := hx.comp (Ext.drewN no wr nq)
   generalize wr.drewN nq = wz at *
   go_wp2_with fail
   go_roundw
   case rel => exact ⟨i + 1, by omega, by go_num, hx⟩
   case measure => simp [intOf]; omega
  ·have d1 : decide (i < l.length) = false := decF hlt
   go_wp2_with fail
   go_ret
   exact ⟨rfl, hx⟩
set_option maxRecDepth 100000 in
set_option maxHeartbeats 4000000 in
theorem refranges_eq (w : World) (a b : Option Addr) (c d : Nat) (l : List RangeR) (ha : Rd w a (rows RangeR.cells l)) (hb : Rd w b (rows RangeR.cells l)) (hl : l.length ≤ 1000000) :
  Calls Tryz.prog 89 #[.slice a l.length c, .slice b l.length d] w fun e w' => e = .returned (.bool true) ∧ Ext no w w' := by
 go_enter Tryz.func89, Tryz.ntmps89
 go_wp2_with fail
 go_loopw [5] (fun s5 wr => ∃ (i : Nat), i ≤ l.length ∧ s5 = .int .i64 i ∧ Ext no w wr) (fun s5 _ => l.length - (intOf s5).toNat)
 case atStart => exact ⟨0, Nat.zero_le _, rfl, Ext.refl _ _⟩
 case round =>
  obtain ⟨i, hi, rfl, hx⟩ := hrel
  by_cases hlt : i < l.length
  ·have d1 : decide (i < l.length) = true := decT hlt
   obtain ⟨y, hym⟩ : ∃ y, l[i]? = some y := ⟨_, List.getElem?_eq_getElem hlt⟩
   have hr1 := ha.ext hx (fun _ _ h => h)
   have hr2 := hb.ext hx (fun _ _ h => h)
   obtain ⟨ob, oof, hsa, _⟩ := rows_shape kRange (by omega) hr1 (by omega)
   obtain ⟨pb, pof, hsb, _⟩ := rows_shape kRange (by omega) hr2 (by omega)
   rw [hsa] at hr1
   rw [hsb] at hr2
   have y0 : wr.cell? ⟨ob, oof + i * 2, none⟩ = some (.int .i64 y.lo) := rows_cell kRange hr1 hym 0 _ rfl
   have y1 : wr.cell? ⟨ob, oof + i * 2 + 1, none⟩ = some (.int .i64 y.hi) := rows_cell kRange hr1 hym 1 _ rfl
   have z0 : wr.cell? ⟨pb, pof + i * 2, none⟩ = some (.int .i64 y.lo) := rows_cell kRange hr2 hym 0 _ rfl
   have z1 : wr.cell? ⟨pb, pof + i * 2 + 1, none⟩ = some (.int .i64 y.hi) := rows_cell kRange hr2 hym 1 _ rfl
   have ha' : a = some ⟨ob, oof, none⟩ := hsa
   have hb' : b = some ⟨pb, pof, none⟩ := hsb
   clear hr1 hr2 hsa hsb hym
   subst ha' hb'
   go_upto_region 6 with fail
   go_quiet (fail)
   have hx := hx.comp (Ext.drewN no wr nq)
   generalize wr.drewN nq = wz at *
   go_wp2_with fail
   go_roundw
   case rel => exact ⟨i + 1, by omega, by go_num, hx⟩
   case measure => simp [intOf]; omega
  ·have d1 : decide (i < l.length) = false := decF hlt
   go_wp2_with fail
   go_ret
   exact ⟨rfl, hx⟩
set_option maxRecDepth 100000 in
set_option maxHeartbeats 4000000 in
theorem reflease_eq (w : World) (C : ReplyR) (h k : ReplyA) (ha : C.In w h) (hb : C.In w k) (hsl : C.slices.length ≤ 1000000) (hil : C.ids.length ≤ 1000000) (hul : C.used.length ≤ 1000000) :
  Calls Tryz.prog 71 #[.agg #[.int .i64 C.dev, .int .i64 C.ep, .int .i64 C.til, .int .i64 C.last, .slice h.s C.slices.length h.sc, .slice h.i C.ids.length h.ic, .slice h.u C.used.length h.uc], .agg #[.int .i64 C.dev, .int .i64 C.ep, .int .i64 C.til, .int .i64 C.last, .slice k.s C.slices.length k.sc, .slice k.i C.ids.length k.ic, .slice k.u C.used.length k.uc]] w fun e w' => e = .returned (.bool true) ∧ Ext no w w' := by
 go_enter Tryz.func71, Tryz.ntmps71
 go_upto_region 1 with fail
 have hb1 := Blk.lit w #[.int .i64 C.dev, .int .i64 C.ep, .int .i64 C.til, .int .i64 C.last, .slice h.s C.slices.length h.sc, .slice h.i C.ids.length h.ic, .slice h.u C.used.length h.uc] 32
 have hx1 := Ext.alloc no w (.cells #[.int .i64 C.dev, .int .i64 C.ep, .int .i64 C.til, .int .i64 C.last, .slice h.s C.slices.length h.sc, .slice h.i C.ids.length h.ic, .slice h.u C.used.length h.uc] 32)
 have hb2 := Blk.lit (w.alloc (.cells #[.int .i64 C.dev, .int .i64 C.ep, .int .i64 C.til, .int .i64 C.last, .slice h.s C.slices.length h.sc, .slice h.i C.ids.length h.ic, .slice h.u C.used.length h.uc] 32)) #[.int .i64 C.dev, .int .i64 C.ep, .int .i64 C.til, .int .i64 C.last, .slice k.s C.slices.length k.sc, .slice k.i C.ids.length k.ic, .slice k.u C.used.length k.uc] 32
 have hx2 := Ext.alloc no (w.alloc (.cells #[.int .i64 C.dev, .int .i64 C.ep, .int .i64 C.til, .int .i64 C.last, .slice h.s C.slices.length h.sc, .slice h.i C.ids.length h.ic, .slice h.u C.used.length h.uc] 32)) (.cells #[.int .i64 C.dev, .int .i64 C.ep, .int .i64 C.til, .int .i64 C.last, .slice k.s C.slices.length k.sc, .slice k.i C.ids.length k.ic, .slice k.u C.used.length k.uc] 32)
 have hb1 := hb1.ext (by simp) hx2 (fun h => h)
 have hx := hx1.comp hx2
 have ha := ha.no hx
 have hb := hb.no hx
 clear hx1 hx2
 have e1 : (w.alloc (.cells #[.int .i64 C.dev, .int .i64 C.ep, .int .i64 C.til, .int .i64 C.last, .slice h.s C.slices.length h.sc, .slice h.i C.ids.length h.ic, .slice h.u C.used.length h.uc] 32)).heap.size = w.heap.size + 1 := by simp
 rw [e1] at hb2
 generalize (w.alloc (.cells #[.int .i64 C.dev, .int .i64 C.ep, .int .i64 C.til, .int .i64 C.last, .slice h.s C.slices.length h.sc, .slice h.i C.ids.length h.ic, .slice h.u C.used.length h.uc] 32)).alloc (.cells #[.int .i64 C.dev, .int .i64 C.ep, .int .i64 C.til, .int .i64 C.last, .slice k.s C.slices.length k.sc, .slice k.i C.ids.length k.ic, .slice k.u C.used.length k.uc] 32) = w2 at *
 generalize w.heap.size + 1 = g2 at *
 generalize w.heap.size = g1 at hb1 ⊢
 clear e1
 have p0 := hb1.cell 0 _ rfl
 have r0 := hb2.cell 0 _ rfl
 have p1 := hb1.cell 1 _ rfl
 have r1 := hb2.cell 1 _ rfl
 have p2 := hb1.cell 2 _ rfl
 have r2 := hb2.cell 2 _ rfl
 have p3 := hb1.cell 3 _ rfl
 have r3 := hb2.cell 3 _ rfl
 have p4 := hb1.cell 4 _ rfl
 have r4 := hb2.cell 4 _ rfl
 have p5 := hb1.cell 5 _ rfl
 have r5 := hb2.cell 5 _ rfl
 have p6 := hb1.cell 6 _ rfl
 have r6 := hb2.cell 6 _ rfl
 go_wp2_with fail
 refine (refranges_eq w2 h.i k.i h.ic k.ic C.ids ha.i hb.i hil).mono ?_
 rintro e w3 ⟨rfl, hy⟩
 have hb1 := hb1.ext (by simp) hy (fun h => h)
 have hb2 := hb2.ext (by simp) hy (fun h => h)
 have ha := ha.no hy
 have hb := hb.no hy
 replace hx := hx.comp hy
 clear hy p0 r0 p1 r1 p2 r2 p3 r3 p4 r4 p5 r5 p6 r6
 have p0 := hb1.cell 0 _ rfl
 have r0 := hb2.cell 0 _ rfl
 have p1 := hb1.cell 1 _ rfl
 have r1 := hb2.cell 1 _ rfl
 have p2 := hb1.cell 2 _ rfl
 have r2 := hb2.cell 2 _ rfl
 have p3 := hb1.cell 3 _ rfl
 have r3 := hb2.cell 3 _ rfl
 have p4 := hb1.cell 4 _ rfl
 have r4 := hb2.cell 4 _ rfl
 have p5 := hb1.cell 5 _ rfl
 have r5 := hb2.cell 5 _ rfl
 have p6 := hb1.cell 6 _ rfl
 have r6 := hb2.cell 6 _ rfl
 go_wp2_with fail
 refine (refints_eq w3 h.u k.u h.uc k.uc C.used ha.u hb.u hul).mono ?_
 rintro e w4 ⟨rfl, hy⟩
 have hb1 := hb1.ext (by simp) hy (fun h => h)
 have hb2 := hb2.ext (by simp) hy (fun h => h)
 have ha := ha.no hy
 have hb := hb.no hy
 replace hx := hx.comp hy
 clear hy p0 r0 p1 r1 p2 r2 p3 r3 p4 r4 p5 r5 p6 r6
 have p0 := hb1.cell 0 _ rfl
 have r0 := hb2.cell 0 _ rfl
 have p1 := hb1.cell 1 _ rfl
 have r1 := hb2.cell 1 _ rfl
 have p2 := hb1.cell 2 _ rfl
 have r2 := hb2.cell 2 _ rfl
 have p3 := hb1.cell 3 _ rfl
 have r3 := hb2.cell 3 _ rfl
 have p4 := hb1.cell 4 _ rfl
 have r4 := hb2.cell 4 _ rfl
 have p5 := hb1.cell 5 _ rfl
 have r5 := hb2.cell 5 _ rfl
 have p6 := hb1.cell 6 _ rfl
 have r6 := hb2.cell 6 _ rfl
 clear p0 r0 p1 r1 p2 r2 p3 r3 p4 r4 p5 r5 p6 r6
 go_wp2_with fail
 go_loopw [5] (fun s5 wr => ∃ (i : Nat), i ≤ C.slices.length ∧ s5 = .int .i64 i ∧ Ext no w wr ∧ Ext no w4 wr) (fun s5 _ => C.slices.length - (intOf s5).toNat)
 case atStart => exact ⟨0, Nat.zero_le _, rfl, hx, Ext.refl _ _⟩
 case round =>
  clear hx
  obtain ⟨i, hi, rfl, hx, hy⟩ := hrel
  have hb1 := hb1.ext (by simp) hy (fun h => h)
  have hb2 := hb2.ext (by simp) hy (fun h => h)
  have p4 := hb1.cell 4 _ rfl
  have r4 := hb2.cell 4 _ rfl
  by_cases hlt : i < C.slices.length
  ·have d1 : decide (i < C.slices.length) = true := decT hlt
   obtain ⟨y, hym⟩ : ∃ y, C.slices[i]? = some y := ⟨_, List.getElem?_eq_getElem hlt⟩
   have hr1 := ha.s.ext hy (fun _ _ h => h)
   have hr2 := hb.s.ext hy (fun _ _ h => h)
   obtain ⟨ob, oof, hsa, _⟩ := rows_shape kSlice (by omega) hr1 (by omega)
   obtain ⟨pb, pof, hsb, _⟩ := rows_shape kSlice (by omega) hr2 (by omega)
   rw [hsa] at hr1
   rw [hsb] at hr2
   have y0 : wr.cell? ⟨ob, oof + i * 5, none⟩ = some (.string (str y.key)) := rows_cell kSlice hr1 hym 0 _ rfl
   have y1 : wr.cell? ⟨ob, oof + i * 5 + 1, none⟩ = some (.int .i64 y.up) := rows_cell kSlice hr1 hym 1 _ rfl
   have y2 : wr.cell? ⟨ob, oof + i * 5 + 2, none⟩ = some (.int .i64 y.down) := rows_cell kSlice hr1 hym 2 _ rfl
   have y3 : wr.cell? ⟨ob, oof + i * 5 + 3, none⟩ = some (.int .i64 y.uu) := rows_cell kSlice hr1 hym 3 _ rfl
   have y4 : wr.cell? ⟨ob, oof + i * 5 + 4, none⟩ = some (.int .i64 y.ud) := rows_cell kSlice hr1 hym 4 _ rfl
   have z0 : wr.cell? ⟨pb, pof + i * 5, none⟩ = some (.string (str y.key)) := rows_cell kSlice hr2 hym 0 _ rfl
   have z1 : wr.cell? ⟨pb, pof + i * 5 + 1, none⟩ = some (.int .i64 y.up) := rows_cell kSlice hr2 hym 1 _ rfl
   have z2 : wr.cell? ⟨pb, pof + i * 5 + 2, none⟩ = some (.int .i64 y.down) := rows_cell kSlice hr2 hym 2 _ rfl
   have z3 : wr.cell? ⟨pb, pof + i * 5 + 3, none⟩ = some (.int .i64 y.uu) := rows_cell kSlice hr2 hym 3 _ rfl
   have z4 : wr.cell? ⟨pb, pof + i * 5 + 4, none⟩ = some (.int .i64 y.ud) := rows_cell kSlice hr2 hym 4 _ rfl
   rw [hsa] at p4
   rw [hsb] at r4
   clear hr1 hr2 hsa hsb hym
   go_upto_region 6 with fail
   go_quiet (fail)
   have hx := hx.comp (Ext.drewN no wr nq)
   have hy := hy.comp (Ext.drewN no wr nq)
   generalize wr.drewN nq = wz at *
   go_wp2_with fail
   go_roundw
   case rel => exact ⟨i + 1, by omega, by go_num, hx, hy⟩
   case measure => simp [intOf]; omega
  ·have d1 : decide (i < C.slices.length) = false := decF hlt
   go_wp2_with fail
   go_ret
   exact ⟨rfl, hx⟩
set_option maxRecDepth 100000 in
set_option maxHeartbeats 4000000 in
theorem refreply_eq (w : World) (C : ReplyR) (h k : ReplyA) (ha : C.In w h) (hb : C.In w k) (hsl : C.slices.length ≤ 1000000) (hil : C.ids.length ≤ 1000000) (hul : C.used.length ≤ 1000000) :
  Calls Tryz.prog 40 #[C.val h, C.val k] w fun e w' => e = .returned (.bool true) ∧ Ext no w w' := by
 go_enter Tryz.func40, Tryz.ntmps40
 unfold ReplyR.val
 go_upto_region 1 with fail
 have hb1 := Blk.lit w #[.int .i64 C.err, .int .i64 C.n, .int .i64 C.dev, .int .i64 C.ep, .int .i64 C.til, .int .i64 C.last, .slice h.s C.slices.length h.sc, .slice h.i C.ids.length h.ic, .slice h.u C.used.length h.uc] 34
 have hx1 := Ext.alloc no w (.cells #[.int .i64 C.err, .int .i64 C.n, .int .i64 C.dev, .int .i64 C.ep, .int .i64 C.til, .int .i64 C.last, .slice h.s C.slices.length h.sc, .slice h.i C.ids.length h.ic, .slice h.u C.used.length h.uc] 34)
 have hb2 := Blk.lit (w.alloc (.cells #[.int .i64 C.err, .int .i64 C.n, .int .i64 C.dev, .int .i64 C.ep, .int .i64 C.til, .int .i64 C.last, .slice h.s C.slices.length h.sc, .slice h.i C.ids.length h.ic, .slice h.u C.used.length h.uc] 34)) #[.int .i64 C.err, .int .i64 C.n, .int .i64 C.dev, .int .i64 C.ep, .int .i64 C.til, .int .i64 C.last, .slice k.s C.slices.length k.sc, .slice k.i C.ids.length k.ic, .slice k.u C.used.length k.uc] 34
 have hx2 := Ext.alloc no (w.alloc (.cells #[.int .i64 C.err, .int .i64 C.n, .int .i64 C.dev, .int .i64 C.ep, .int .i64 C.til, .int .i64 C.last, .slice h.s C.slices.length h.sc, .slice h.i C.ids.length h.ic, .slice h.u C.used.length h.uc] 34)) (.cells #[.int .i64 C.err, .int .i64 C.n, .int .i64 C.dev, .int .i64 C.ep, .int .i64 C.til, .int .i64 C.last, .slice k.s C.slices.length k.sc, .slice k.i C.ids.length k.ic, .slice k.u C.used.length k.uc] 34)
 have hb1 := hb1.ext (by simp) hx2 (fun h => h)
 have hx := hx1.comp hx2
 have ha := ha.no hx
 have hb := hb.no hx
 clear hx1 hx2
 have e1 : (w.alloc (.cells #[.int .i64 C.err, .int .i64 C.n, .int .i64 C.dev, .int .i64 C.ep, .int .i64 C.til, .int .i64 C.last, .slice h.s C.slices.length h.sc, .slice h.i C.ids.length h.ic, .slice h.u C.used.length h.uc] 34)).heap.size = w.heap.size + 1 := by simp
 rw [e1] at hb2
 generalize (w.alloc (.cells #[.int .i64 C.err, .int .i64 C.n, .int .i64 C.dev, .int .i64 C.ep, .int .i64 C.til, .int .i64 C.last, .slice h.s C.slices.length h.sc, .slice h.i C.ids.length h.ic, .slice h.u C.used.length h.uc] 34)).alloc (.cells #[.int .i64 C.err, .int .i64 C.n, .int .i64 C.dev, .int .i64 C.ep, .int .i64 C.til, .int .i64 C.last, .slice k.s C.slices.length k.sc, .slice k.i C.ids.length k.ic, .slice k.u C.used.length k.uc] 34) = w2 at *
 generalize w.heap.size + 1 = g2 at *
 generalize w.heap.size = g1 at hb1 ⊢
 clear e1
 have p0 := hb1.cell 0 _ rfl
 have r0 := hb2.cell 0 _ rfl
 have p1 := hb1.cell 1 _ rfl
 have r1 := hb2.cell 1 _ rfl
 have p2 := hb1.cell 2 _ rfl
 have r2 := hb2.cell 2 _ rfl
 have p3 := hb1.cell 3 _ rfl
 have r3 := hb2.cell 3 _ rfl
 have p4 := hb1.cell 4 _ rfl
 have r4 := hb2.cell 4 _ rfl
 have p5 := hb1.cell 5 _ rfl
 have r5 := hb2.cell 5 _ rfl
 have p6 := hb1.cell 6 _ rfl
 have r6 := hb2.cell 6 _ rfl
 have p7 := hb1.cell 7 _ rfl
 have r7 := hb2.cell 7 _ rfl
 have p8 := hb1.cell 8 _ rfl
 have r8 := hb2.cell 8 _ rfl
 go_wp2_with fail
 refine (reflease_eq w2 C h k ha hb hsl hil hul).mono ?_
 rintro e w3 ⟨rfl, hy⟩
 go_wp2_with fail
 go_ret
 exact ⟨rfl, hx.comp hy⟩
end Go.Proofs.YtddobhihjljcgaaGreat
