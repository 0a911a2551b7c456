/- Chapter 14's Few. -/
import Derived.Test.YtddobhihjljcgaaGreatWiF
namespace Go.Proofs.YtddobhihjljcgaaGreat
open Go.RowKit Go.Esc
set_option linter.unusedVariables false
set_option linter.unusedSimpArgs false
set_option maxRecDepth 100000 in
set_option maxHeartbeats 4000000 in
theorem wifew_any (w : World) (m : MsgR) (h : MsgA) (hin : m.In w h) (hok : m.ok) :
  Calls Tryz.prog 5 #[m.val h] w fun e w' => ∃ b, e = .returned (.bool b) ∧ (b = true → m.few ∧ m.subs.length ≤ 6) ∧ Ext no w w' := by
 have hol := hin.ol
 have hom := hin.om
 have hsl := hin.r.sl
 have hsm := hin.r.sm
 unfold maxLen at hom hsm
 go_enter Tryz.func5, Tryz.ntmps5
 go_upto_region 0 with fail
 refine wp_region_lit ?_
 refine wp_box_msg rfl rfl (by rfl) (fun hC => ?_)
 simp only [pz]
 have hxa := Ext.alloc no w (.cells (m.cells h).toArray 36)
 generalize w.alloc (.cells (m.cells h).toArray 36) = w1 at *
 obtain ⟨g, hg⟩ : ∃ g, g = w.heap.size := ⟨_, rfl⟩
 rw [← hg] at hC ⊢
 clear hg
 have z17 : w1.cell? ⟨g, 17, none⟩ = some (.int .i64 m.rep.dev) := hC.cell 17 _ rfl
 have z18 := hC.cell 18 _ rfl
 have z19 := hC.cell 19 _ rfl
 have z20 := hC.cell 20 _ rfl
 have z21 := hC.cell 21 _ rfl
 have z22 := hC.cell 22 _ rfl
 have z23 := hC.cell 23 _ rfl
 go_upto_region 2 with fail
 have hD := Blk.lit w1 #[.int .i64 m.rep.dev, .int .i64 m.rep.ep, .int .i64 m.rep.til, .int .i64 m.rep.last, .slice h.r.s m.rep.slices.length h.r.sc, .slice h.r.i m.rep.ids.length h.r.ic, .slice h.r.u m.rep.used.length h.r.uc] 32
 have hxb := Ext.alloc no w1 (.cells #[.int .i64 m.rep.dev, .int .i64 m.rep.ep, .int .i64 m.rep.til, .int .i64 m.rep.last, .slice h.r.s m.rep.slices.length h.r.sc, .slice h.r.i m.rep.ids.length h.r.ic, .slice h.r.u m.rep.used.length h.r.uc] 32)
 have hC2 := hC.ext (msg_ne _ _) hxb (fun h => h)
 have hxx := hxa.comp hxb
 clear hC hxa hxb z17 z18 z19 z20 z21 z22 z23
 generalize w1.alloc (.cells #[.int .i64 m.rep.dev, .int .i64 m.rep.ep, .int .i64 m.rep.til, .int .i64 m.rep.last, .slice h.r.s m.rep.slices.length h.r.sc, .slice h.r.i m.rep.ids.length h.r.ic, .slice h.r.u m.rep.used.length h.r.uc] 32) = w2 at *
 obtain ⟨gd, hgd⟩ : ∃ gd, gd = w1.heap.size := ⟨_, rfl⟩
 rw [← hgd] at hD ⊢
 clear hgd
 have hin2 := hin.no hxx
 have z6 := hC2.cell 6 _ rfl
 have z8 := hC2.cell 8 _ rfl
 have z9 := hC2.cell 9 _ rfl
 have z10 := hC2.cell 10 _ rfl
 have z11 := hC2.cell 11 _ rfl
 have z12 := hC2.cell 12 _ rfl
 have z13 := hC2.cell 13 _ rfl
 have z14 := hC2.cell 14 _ rfl
 have z24 := hC2.cell 24 _ rfl
 have y4 := hD.cell 4 _ rfl
 have y5 := hD.cell 5 _ rfl
 have y6 := hD.cell 6 _ rfl
 go_cut [42] (fun s42 wx => ∃ tb, s42 = .bool tb ∧ (tb = false → (m.ops.length ≤ 22 ∧ m.subs.length ≤ 6 ∧ m.rep.slices.length ≤ 22 ∧ m.rep.ids.length ≤ 110 ∧ m.rep.used.length ≤ 110 ∧ m.cmd.few)) ∧ Ext no w2 wx)
 case first =>
  by_cases f0 : 22 < m.ops.length
  ·have s0 : decide ((22 : Int) < (m.ops.length : Int)) = true := decT (by omega)
   clear f0
   go_wp2_with fail
   go_meet
   exact ⟨true, rfl, (fun h => by cases h), Ext.refl _ _⟩
  ·have s0 : decide ((22 : Int) < (m.ops.length : Int)) = false := decF (by omega)
   by_cases f1 : 6 < m.subs.length
   ·have s1 : decide ((6 : Int) < (m.subs.length : Int)) = true := decT (by omega)
    clear f0 f1
    go_wp2_with fail
    go_meet
    exact ⟨true, rfl, (fun h => by cases h), Ext.refl _ _⟩
   ·have s1 : decide ((6 : Int) < (m.subs.length : Int)) = false := decF (by omega)
    by_cases f2 : 22 < m.rep.slices.length
    ·have s2 : decide ((22 : Int) < (m.rep.slices.length : Int)) = true := decT (by omega)
     clear f0 f1 f2
     go_wp2_with fail
     go_meet
     exact ⟨true, rfl, (fun h => by cases h), Ext.refl _ _⟩
    ·have s2 : decide ((22 : Int) < (m.rep.slices.length : Int)) = false := decF (by omega)
     by_cases f3 : 110 < m.rep.ids.length
     ·have s3 : decide ((110 : Int) < (m.rep.ids.length : Int)) = true := decT (by omega)
      clear f0 f1 f2 f3
      go_wp2_with fail
      go_meet
      exact ⟨true, rfl, (fun h => by cases h), Ext.refl _ _⟩
     ·have s3 : decide ((110 : Int) < (m.rep.ids.length : Int)) = false := decF (by omega)
      by_cases f4 : 110 < m.rep.used.length
      ·have s4 : decide ((110 : Int) < (m.rep.used.length : Int)) = true := decT (by omega)
       clear f0 f1 f2 f3 f4
       go_wp2_with fail
       go_meet
       exact ⟨true, rfl, (fun h => by cases h), Ext.refl _ _⟩
      ·have s4 : decide ((110 : Int) < (m.rep.used.length : Int)) = false := decF (by omega)
       have HB := Lib.hid (show m.ops.length ≤ 22 ∧ m.subs.length ≤ 6 ∧ m.rep.slices.length ≤ 22 ∧ m.rep.ids.length ≤ 110 ∧ m.rep.used.length ≤ 110 from ⟨by omega, by omega, by omega, by omega, by omega⟩)
       clear f0 f1 f2 f3 f4
       go_wp2_with fail
       refine (wifewcmd_any w2 m.cmd h.c hin2.c hok.cmd).mono ?_
       rintro e wf ⟨bb, rfl, hbb, hxf⟩
       have HBB := Lib.hid hbb
       clear hbb
       cases hbt : bb with
       | false =>
        go_wp2_with fail
        go_meet
        exact ⟨true, rfl, (fun h => by cases h), hxf⟩
       | true =>
        have HF := Lib.hid (HBB.out hbt)
        go_wp2_with fail
        go_meet
        exact ⟨false, rfl, (fun _ => ⟨HB.out.1, HB.out.2.1, HB.out.2.2.1, HB.out.2.2.2.1, HB.out.2.2.2.2, HF.out⟩), hxf⟩
 case rest =>
  obtain ⟨tb, rfl, hbnd, hx3⟩ := hcut
  cases tb with
  | true =>
   go_wp2_with fail
   go_ret
   first
    | exact ⟨false, rfl, (fun h => by cases h), hxx.comp hx3⟩
    | exact .inl ⟨rfl, hxx.comp hx3⟩
  | false =>
   have HB := Lib.hid (hbnd rfl)
   clear hbnd z6 z8 z9 z10 z11 z12 z13 z14 z24 y4 y5 y6
   obtain ⟨P, hP, hrp, hgp⟩ := hin2.o
   have hPl : P.length = m.ops.length := by rw [← hP, List.length_map]
   have HP := Lib.hid hP
   have HPl := Lib.hid hPl
   clear hP hPl
   go_wp2_with fail
   go_loopw [4] (fun s4 wr => ∃ k : Nat, s4 = .int .i64 k ∧ k ≤ m.ops.length ∧ (∀ y ∈ m.ops.take k, y.few) ∧ Ext no w2 wr) (fun s4 _ => m.ops.length - (intOf s4).toNat)
   case atStart => exact ⟨0, rfl, Nat.zero_le _, (fun x hx => by cases hx), hx3⟩
   case round =>
    clear hx3
    obtain ⟨k, rfl, hk, hof, hx3⟩ := hrel
    have Hof := Lib.hid hof
    clear hof
    have hC3 := hC2.ext (msg_ne _ _) hx3 (fun h => h)
    have z24 : wr.cell? ⟨g, 24, none⟩ = some (.slice h.o m.ops.length h.oc) := hC3.cell 24 _ rfl
    by_cases hkl : k < m.ops.length
    ·have d2 : decide (k < m.ops.length) = true := decT hkl
     obtain ⟨y, hym⟩ : ∃ y, P[k]? = some y := ⟨_, List.getElem?_eq_getElem (by have := HPl.out; omega)⟩
     have hyo : m.ops[k]? = some y.o := by rw [← HP.out, List.getElem?_map, hym]; rfl
     have hgy := hgp y (List.mem_of_getElem? hym)
     have hoy := hok.ops y.o (List.mem_of_getElem? hyo)
     have hrq := hrp.ext hx3 (fun _ _ h => h)
     obtain ⟨b2, off2, hsb, _⟩ := rows_shape kOp (by omega) hrq (by have := HPl.out; omega)
     rw [hsb] at hrq
     have y0 : wr.cell? ⟨b2, off2 + k * 11, none⟩ = some (.int .i64 y.o.dot.dev) := rows_cell kOp hrq hym 0 _ rfl
     have y1 : wr.cell? ⟨b2, off2 + k * 11 + 1, none⟩ = some (.int .i64 y.o.dot.ep) := rows_cell kOp hrq hym 1 _ rfl
     have y2 : wr.cell? ⟨b2, off2 + k * 11 + 2, none⟩ = some (.int .i64 y.o.dot.seq) := rows_cell kOp hrq hym 2 _ rfl
     have y3 : wr.cell? ⟨b2, off2 + k * 11 + 3, none⟩ = some (.int .i64 y.o.coll) := rows_cell kOp hrq hym 3 _ rfl
     have y4 : wr.cell? ⟨b2, off2 + k * 11 + 4, none⟩ = some (.int .i64 y.o.ver) := rows_cell kOp hrq hym 4 _ rfl
     have y5 : wr.cell? ⟨b2, off2 + k * 11 + 5, none⟩ = some (.int .i64 y.o.kind) := rows_cell kOp hrq hym 5 _ rfl
     have y6 : wr.cell? ⟨b2, off2 + k * 11 + 6, none⟩ = some (.string (str y.o.key)) := rows_cell kOp hrq hym 6 _ rfl
     have y7 : wr.cell? ⟨b2, off2 + k * 11 + 7, none⟩ = some (.string (str y.o.text)) := rows_cell kOp hrq hym 7 _ rfl
     have y8 : wr.cell? ⟨b2, off2 + k * 11 + 8, none⟩ = some (.int .i64 y.o.n) := rows_cell kOp hrq hym 8 _ rfl
     have y9 : wr.cell? ⟨b2, off2 + k * 11 + 9, none⟩ = some (.int .i64 y.o.time) := rows_cell kOp hrq hym 9 _ rfl
     have y10 : wr.cell? ⟨b2, off2 + k * 11 + 10, none⟩ = some (.slice y.a y.o.dots.length y.c) := rows_cell kOp hrq hym 10 _ rfl
     have hfd := hgy.lc
     have hfc := hgy.cm
     unfold maxLen at hfc
     have hkk := hoy.key
     have hkt := hoy.text
     have Hyo := Lib.hid hyo
     clear hyo
     go_wp2_with fail
     refine (few_any wr y.o y.a y.c (by unfold maxLen; omega) hkk hkt).mono ?_
     rintro e w4 ⟨rfl, hx4⟩
     clear y0 y1 y2 y3 y4 y5 y6 y7 y8 y9 y10 hrq hgy hoy hfd hfc hkk hkt hC3 z24
     cases hfb : fewB y.o with
     | true =>
      have Ht := Lib.hid (few_step Hof.out Hyo.out (fewB_few hfb))
      go_wp2_with fail
      go_roundw
      case rel => exact ⟨k + 1, by go_num, by omega, Ht.out, hx3.comp hx4⟩
      case measure => simp [intOf]; omega
     | false =>
      go_wp2_with fail
      go_ret
      exact ⟨false, rfl, (fun h => by cases h), hxx.comp (hx3.comp hx4)⟩
    ·have d2 : decide (k < m.ops.length) = false := decF hkl
     have Hops := Lib.hid (few_all Hof.out hkl)
     go_wp2_with fail
     go_loopw [5] (fun s5 wr => ∃ k : Nat, s5 = .int .i64 k ∧ k ≤ m.rep.slices.length ∧ (∀ y ∈ m.rep.slices.take k, y.key.length ≤ 60) ∧ Ext no w2 wr) (fun s5 _ => m.rep.slices.length - (intOf s5).toNat)
     case atStart => exact ⟨0, rfl, Nat.zero_le _, (fun x hx => by cases hx), hx3⟩
     case round =>
      clear hC3 z24 hx3 hkl d2 hk
      obtain ⟨j, rfl, hj, hwf, hx3⟩ := hrel
      have Hwf := Lib.hid hwf
      clear hwf
      have hD3 := hD.ext (by simp) hx3 (fun h => h)
      have y4 : wr.cell? ⟨gd, 4, none⟩ = some (.slice h.r.s m.rep.slices.length h.r.sc) := hD3.cell 4 _ rfl
      by_cases hjl : j < m.rep.slices.length
      ·have d3 : decide (j < m.rep.slices.length) = true := decT hjl
       obtain ⟨y, hym⟩ : ∃ y, m.rep.slices[j]? = some y := ⟨_, List.getElem?_eq_getElem hjl⟩
       have hrq := hin2.r.s.ext hx3 (fun _ _ h => h)
       obtain ⟨b2, off2, hsb, _⟩ := rows_shape kSlice (by omega) hrq (by omega)
       rw [hsb] at hrq
       have y0 : wr.cell? ⟨b2, off2 + j * 5, none⟩ = some (.string (str y.key)) := rows_cell kSlice hrq hym 0 _ rfl
       have Hym := Lib.hid hym
       have hky := (hok.rep.slices y (List.mem_of_getElem? hym)).key
       clear hym
       by_cases h60 : y.key.length ≤ 60
       ·have d4 : decide ((60 : Int) < ((str y.key).size : Int)) = false := decF (by rw [str_size]; omega)
        have Ht := Lib.hid (few_step Hwf.out Hym.out h60)
        go_wp2_with fail
        go_roundw
        case rel => exact ⟨j + 1, by go_num, by omega, Ht.out, hx3⟩
        case measure => simp [intOf]; omega
       ·have d4 : decide ((60 : Int) < ((str y.key).size : Int)) = true := decT (by rw [str_size]; omega)
        go_wp2_with fail
        go_ret
        exact ⟨false, rfl, (fun h => by cases h), hxx.comp hx3⟩
      ·have d3 : decide (j < m.rep.slices.length) = false := decF hjl
       have Ht := Lib.hid (show m.few ∧ m.subs.length ≤ 6 by
        obtain ⟨q1, q2, q3, q4, q5, q6⟩ := HB.out
        exact ⟨⟨by omega, q6, ⟨by omega, few_all Hwf.out hjl, by omega, by omega⟩, by omega, Hops.out⟩, q2⟩)
       go_wp2_with fail
       go_ret
       exact ⟨true, rfl, (fun _ => Ht.out), hxx.comp hx3⟩
end Go.Proofs.YtddobhihjljcgaaGreat
