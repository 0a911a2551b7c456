/- Chapter 13's Few and FewCmd; chapter 14's Few. -/
import Derived.Test.YtddobhihjljcgaaGreatWiE
import Derived.Test.YtddobhihjljcgaaGreatOpE
namespace Go.Esc
open Go.RowKit
/-- An act: chapter 13's, as far as it is asked here. -/
structure ActW where
 k : Int
 d : Int
 n : Int
 c : CmdR
 h : CmdA
def ActW.cells (x : ActW) : List Value := [.int .i64 x.k, .int .i64 x.d, .int .i64 x.n, .slice x.h.w x.c.wants.length x.h.wc, .slice x.h.o x.c.ops.length x.h.oc]
theorem kAct (x : ActW) : x.cells.length = 5 := rfl
theorem few_step {α : Type} {F : α → Prop} {l : List α} {i : Nat} {x : α} (h : ∀ y ∈ l.take i, F y) (hx : l[i]? = some x) (hf : F x) : ∀ y ∈ l.take (i + 1), F y := by
 intro y hy
 rw [List.take_add_one, hx] at hy
 rcases List.mem_append.1 hy with hy | hy
 ·exact h y hy
 ·simp at hy
  rw [hy]
  exact hf
theorem few_all {α : Type} {F : α → Prop} {l : List α} {i : Nat} (h : ∀ y ∈ l.take i, F y) (hi : ¬ i < l.length) : ∀ y ∈ l, F y := by
 rw [List.take_of_length_le (by omega)] at h
 exact h
end Go.Esc
namespace Go.Proofs.YtddobhihjljcgaaGreat
open Go.RowKit Go.Esc
set_option linter.unusedVariables false
set_option linter.unusedSimpArgs false
theorem fewB_few {o : OpR} (h : fewB o = true) : o.few := by
 have h' : o.key.length ≤ 60 ∧ o.text.length ≤ 60 ∧ o.dots.length ≤ 12 := of_decide_eq_true h
 exact h'
set_option maxRecDepth 100000 in
set_option maxHeartbeats 4000000 in
theorem wifew13_any (w : World) (a : Option Addr) (l : List ActW) (c : Nat) (hr : Rd w a (rows ActW.cells l)) (hg : ∀ x ∈ l, x.c.In w x.h) (hok : ∀ x ∈ l, x.c.ok) (hlc : l.length ≤ c) (hcm : c ≤ maxLen) :
  Calls Tryz.prog 49 #[.slice a l.length c] w fun e w' => ∃ b, e = .returned (.bool b) ∧ (b = true → ∀ x ∈ l, x.c.few) ∧ Ext no w w' := by
 unfold maxLen at hcm
 have Hg := Lib.hid hg
 have Hok := Lib.hid hok
 clear hg hok
 go_enter Tryz.func49, Tryz.ntmps49
 go_wp2_with fail
 go_loopw [3] (fun s3 wr => ∃ i : Nat, s3 = .int .i64 i ∧ i ≤ l.length ∧ (∀ x ∈ l.take i, x.c.few) ∧ Ext no w wr) (fun s3 _ => l.length - (intOf s3).toNat)
 case atStart => exact ⟨0, rfl, Nat.zero_le _, (fun x hx => by cases hx), Ext.refl _ _⟩
 case round =>
  obtain ⟨i, rfl, hil, hall, hx⟩ := hrel
  have Hall := Lib.hid hall
  clear hall
  by_cases hin : i < l.length
  ·have d1 : decide (i < l.length) = true := decT hin
   obtain ⟨x, hxm⟩ : ∃ x, l[i]? = some x := ⟨_, List.getElem?_eq_getElem hin⟩
   have hgx := Hg.out x (List.mem_of_getElem? hxm)
   have hkx := Hok.out x (List.mem_of_getElem? hxm)
   have Hnew := Lib.hid (fun hf : x.c.few => few_step Hall.out hxm hf)
   obtain ⟨b, off, rfl, _⟩ := rows_shape kAct (by omega) hr (by omega)
   have hrr := hr.ext hx (fun _ _ h => h)
   have q3 : wr.cell? ⟨b, off + i * 5 + 3, none⟩ = some (.slice x.h.w x.c.wants.length x.h.wc) := rows_cell kAct hrr hxm 3 _ rfl
   have q4 : wr.cell? ⟨b, off + i * 5 + 4, none⟩ = some (.slice x.h.o x.c.ops.length x.h.oc) := rows_cell kAct hrr hxm 4 _ rfl
   obtain ⟨P, hP, hrp, hgp⟩ := hgx.o
   have hPl : P.length = x.c.ops.length := by rw [← hP, List.length_map]
   have HP := Lib.hid hP
   have HPl := Lib.hid hPl
   have hwl := hgx.wl
   have hol := hgx.ol
   have hwm := hgx.wm
   have hom := hgx.om
   unfold maxLen at hwm hom
   have Hx := Lib.hid hxm
   clear hP hPl hxm
   obtain ⟨tb, htb⟩ : ∃ tb, tb = (decide (8 < x.c.wants.length) || decide (22 < x.c.ops.length)) := ⟨_, rfl⟩
   have Htb := Lib.hid htb
   clear htb
   go_upto_region 4 with fail
   go_cut [27] (fun s27 wx => s27 = .bool tb ∧ wx = wr)
   case first =>
    by_cases g1 : 8 < x.c.wants.length
    ·have sg1 : decide (8 < x.c.wants.length) = true := decT g1
     have sg1' : decide ((8 : Int) < (x.c.wants.length : Int)) = true := decT (by omega)
     have HT := Lib.hid (show tb = true by rw [Htb.out]; simp [g1])
     go_wp2_with fail
     go_meet
     case rel => exact ⟨by rw [HT.out], rfl⟩
    ·have sg1 : decide (8 < x.c.wants.length) = false := decF g1
     have sg1' : decide ((8 : Int) < (x.c.wants.length : Int)) = false := decF (by omega)
     by_cases g2 : 22 < x.c.ops.length
     ·have sg2 : decide (22 < x.c.ops.length) = true := decT g2
      have sg2' : decide ((22 : Int) < (x.c.ops.length : Int)) = true := decT (by omega)
      have HT := Lib.hid (show tb = true by rw [Htb.out]; simp [g1, g2])
      go_wp2_with fail
      go_meet
      case rel => exact ⟨by rw [HT.out], rfl⟩
     ·have sg2 : decide (22 < x.c.ops.length) = false := decF g2
      have sg2' : decide ((22 : Int) < (x.c.ops.length : Int)) = false := decF (by omega)
      have HT := Lib.hid (show tb = false by rw [Htb.out]; simp [g1, g2])
      go_wp2_with fail
      go_meet
      case rel => exact ⟨by rw [HT.out], rfl⟩
   case rest =>
    obtain ⟨rfl, rfl⟩ := hcut
    cases tb with
    | true =>
     go_wp2_with fail
     go_ret
     exact ⟨false, rfl, (fun h => by cases h), hx⟩
    | false =>
     have g12 := Htb.out
     have g1 : ¬ 8 < x.c.wants.length := fun h => by simp [h] at g12
     have g2 : ¬ 22 < x.c.ops.length := fun h => by simp [h] at g12
     clear g12
     have W1 := Lib.hid (show x.c.wants.length ≤ 40 by omega)
     have O1 := Lib.hid (show x.c.ops.length ≤ 40 by omega)
     clear g1 g2
     go_wp2_with fail
     go_loopw [4] (fun s4 wr => ∃ k : Nat, s4 = .int .i64 k ∧ k ≤ x.c.ops.length ∧ (∀ y ∈ x.c.ops.take k, y.few) ∧ Ext no w wr) (fun s4 _ => x.c.ops.length - (intOf s4).toNat)
     case atStart => exact ⟨0, rfl, Nat.zero_le _, (fun x hx => by cases hx), hx⟩
     case round =>
      clear hrr q3 q4 hx
      obtain ⟨k, rfl, hk, hof, hx2⟩ := hrel
      have Hof := Lib.hid hof
      clear hof
      have hrr := hr.ext hx2 (fun _ _ h => h)
      have q3 : wr.cell? ⟨b, off + i * 5 + 3, none⟩ = some (.slice x.h.w x.c.wants.length x.h.wc) := rows_cell kAct hrr Hx.out 3 _ rfl
      have q4 : wr.cell? ⟨b, off + i * 5 + 4, none⟩ = some (.slice x.h.o x.c.ops.length x.h.oc) := rows_cell kAct hrr Hx.out 4 _ rfl
      by_cases hkl : k < x.c.ops.length
      ·have d2 : decide (k < x.c.ops.length) = true := decT hkl
       obtain ⟨y, hym⟩ : ∃ y, P[k]? = some y := ⟨_, List.getElem?_eq_getElem (by have := HPl.out; omega)⟩
       have hyo : x.c.ops[k]? = some y.o := by rw [← HP.out, List.getElem?_map, hym]; rfl
       have hgy := hgp y (List.mem_of_getElem? hym)
       have hoy := hkx.ops y.o (List.mem_of_getElem? hyo)
       have hrq := hrp.ext hx2 (fun _ _ h => h)
       obtain ⟨b2, off2, hsb, _⟩ := rows_shape kOp (by omega) hrq (by have := HPl.out; omega)
       rw [hsb] at hrq
       have y0 : wr.cell? ⟨b2, off2 + k * 11, none⟩ = some (.int .i64 y.o.dot.dev) := rows_cell kOp hrq hym 0 _ rfl
       have y1 : wr.cell? ⟨b2, off2 + k * 11 + 1, none⟩ = some (.int .i64 y.o.dot.ep) := rows_cell kOp hrq hym 1 _ rfl
       have y2 : wr.cell? ⟨b2, off2 + k * 11 + 2, none⟩ = some (.int .i64 y.o.dot.seq) := rows_cell kOp hrq hym 2 _ rfl
       have y3 : wr.cell? ⟨b2, off2 + k * 11 + 3, none⟩ = some (.int .i64 y.o.coll) := rows_cell kOp hrq hym 3 _ rfl
       have y4 : wr.cell? ⟨b2, off2 + k * 11 + 4, none⟩ = some (.int .i64 y.o.ver) := rows_cell kOp hrq hym 4 _ rfl
       have y5 : wr.cell? ⟨b2, off2 + k * 11 + 5, none⟩ = some (.int .i64 y.o.kind) := rows_cell kOp hrq hym 5 _ rfl
       have y6 : wr.cell? ⟨b2, off2 + k * 11 + 6, none⟩ = some (.string (str y.o.key)) := rows_cell kOp hrq hym 6 _ rfl
       have y7 : wr.cell? ⟨b2, off2 + k * 11 + 7, none⟩ = some (.string (str y.o.text)) := rows_cell kOp hrq hym 7 _ rfl
       have y8 : wr.cell? ⟨b2, off2 + k * 11 + 8, none⟩ = some (.int .i64 y.o.n) := rows_cell kOp hrq hym 8 _ rfl
       have y9 : wr.cell? ⟨b2, off2 + k * 11 + 9, none⟩ = some (.int .i64 y.o.time) := rows_cell kOp hrq hym 9 _ rfl
       have y10 : wr.cell? ⟨b2, off2 + k * 11 + 10, none⟩ = some (.slice y.a y.o.dots.length y.c) := rows_cell kOp hrq hym 10 _ rfl
       have hfd := hgy.lc
       have hfc := hgy.cm
       unfold maxLen at hfc
       have hkk := hoy.key
       have hkt := hoy.text
       have Hyo := Lib.hid hyo
       clear hyo
       go_wp2_with fail
       refine (few_any wr y.o y.a y.c (by unfold maxLen; omega) hkk hkt).mono ?_
       rintro e w1 ⟨rfl, hx1⟩
       clear y0 y1 y2 y3 y4 y5 y6 y7 y8 y9 y10 hrq hgy hoy hfd hfc hkk hkt hrr q3 q4
       cases hfb : fewB y.o with
       | true =>
        have Ht := Lib.hid (few_step Hof.out Hyo.out (fewB_few hfb))
        go_wp2_with fail
        go_roundw
        case rel => exact ⟨k + 1, by go_num, by omega, Ht.out, hx2.comp hx1⟩
        case measure => simp [intOf]; omega
       | false =>
        go_wp2_with fail
        go_ret
        exact ⟨false, rfl, (fun h => by cases h), hx2.comp hx1⟩
      ·have d2 : decide (k < x.c.ops.length) = false := decF hkl
       have Hops := Lib.hid (few_all Hof.out hkl)
       clear d2
       have d2 : decide (k < x.c.ops.length) = false := decF hkl
       go_wp2_with fail
       go_loopw [5] (fun s5 wr => ∃ k : Nat, s5 = .int .i64 k ∧ k ≤ x.c.wants.length ∧ (∀ y ∈ x.c.wants.take k, y.key.length ≤ 60) ∧ Ext no w wr) (fun s5 _ => x.c.wants.length - (intOf s5).toNat)
       case atStart => exact ⟨0, rfl, Nat.zero_le _, (fun x hx => by cases hx), hx2⟩
       case round =>
        clear hrr q3 q4 hx2 hkl d2 hk
        obtain ⟨j, rfl, hj, hwf, hx3⟩ := hrel
        have Hwf := Lib.hid hwf
        clear hwf
        have hrr := hr.ext hx3 (fun _ _ h => h)
        have q3 : wr.cell? ⟨b, off + i * 5 + 3, none⟩ = some (.slice x.h.w x.c.wants.length x.h.wc) := rows_cell kAct hrr Hx.out 3 _ rfl
        have q4 : wr.cell? ⟨b, off + i * 5 + 4, none⟩ = some (.slice x.h.o x.c.ops.length x.h.oc) := rows_cell kAct hrr Hx.out 4 _ rfl
        by_cases hjl : j < x.c.wants.length
        ·have d3 : decide (j < x.c.wants.length) = true := decT hjl
         obtain ⟨y, hym⟩ : ∃ y, x.c.wants[j]? = some y := ⟨_, List.getElem?_eq_getElem hjl⟩
         have hrq := hgx.x.ext hx3 (fun _ _ h => h)
         obtain ⟨b2, off2, hsb, _⟩ := rows_shape kWant (by omega) hrq (by omega)
         rw [hsb] at hrq
         have y0 : wr.cell? ⟨b2, off2 + j * 4, none⟩ = some (.string (str y.key)) := rows_cell kWant hrq hym 0 _ rfl
         have Hym := Lib.hid hym
         have hky := (hkx.wants y (List.mem_of_getElem? hym)).key
         clear hym
         by_cases h60 : y.key.length ≤ 60
         ·have d4 : decide ((60 : Int) < ((str y.key).size : Int)) = false := decF (by rw [str_size]; omega)
          have d4' : decide (60 < (str y.key).size) = false := decF (by rw [str_size]; omega)
          have Ht := Lib.hid (few_step Hwf.out Hym.out h60)
          go_wp2_with fail
          go_roundw
          case rel => exact ⟨j + 1, by go_num, by omega, Ht.out, hx3⟩
          case measure => simp [intOf]; omega
         ·have d4 : decide ((60 : Int) < ((str y.key).size : Int)) = true := decT (by rw [str_size]; omega)
          have d4' : decide (60 < (str y.key).size) = true := decT (by rw [str_size]; omega)
          go_wp2_with fail
          go_ret
          exact ⟨false, rfl, (fun h => by cases h), hx3⟩
        ·have d3 : decide (j < x.c.wants.length) = false := decF hjl
         have Ht := Lib.hid (Hnew.out ⟨W1.out, few_all Hwf.out hjl, O1.out, Hops.out⟩)
         go_wp2_with fail
         go_roundw
         case rel => exact ⟨i + 1, by go_num, by omega, Ht.out, hx3⟩
         case measure => simp [intOf]; omega
  ·have d1 : decide (i < l.length) = false := decF hin
   have Ht := Lib.hid (few_all Hall.out hin)
   clear Hall
   by_cases h60 : l.length ≤ 60
   ·have d6 : decide ((l.length : Int) ≤ 60) = true := decT (by omega)
    go_wp2_with fail
    go_ret
    exact ⟨true, rfl, (fun _ => Ht.out), hx⟩
   ·have d6 : decide ((l.length : Int) ≤ 60) = false := decF (by omega)
    go_wp2_with fail
    go_ret
    exact ⟨false, rfl, (fun h => by cases h), hx⟩
set_option maxRecDepth 100000 in
set_option maxHeartbeats 4000000 in
theorem wifewcmd_any (w : World) (c : CmdR) (h : CmdA) (hin : c.In w h) (hok : c.ok) :
  Calls Tryz.prog 15 #[c.val h] w fun e w' => ∃ b, e = .returned (.bool b) ∧ (b = true → c.few) ∧ Ext no w w' := by
 have hol := hin.ol
 have hom := hin.om
 have hwl := hin.wl
 have hwm := hin.wm
 unfold maxLen at hom hwm
 go_enter Tryz.func15, Tryz.ntmps15
 unfold CmdR.val
 go_upto_region 1 with fail
 have hC := Blk.lit w #[.int .i64 c.kind, .int .i64 c.dev, .int .i64 c.ep, .int .i64 c.req, .int .i64 c.n, .slice h.w c.wants.length h.wc, .slice h.o c.ops.length h.oc] 27
 have hxa := Ext.alloc no w (.cells #[.int .i64 c.kind, .int .i64 c.dev, .int .i64 c.ep, .int .i64 c.req, .int .i64 c.n, .slice h.w c.wants.length h.wc, .slice h.o c.ops.length h.oc] 27)
 have hin1 := hin.no hxa
 generalize w.alloc (.cells #[.int .i64 c.kind, .int .i64 c.dev, .int .i64 c.ep, .int .i64 c.req, .int .i64 c.n, .slice h.w c.wants.length h.wc, .slice h.o c.ops.length h.oc] 27) = w1 at *
 have z5 := hC.cell 5 _ rfl
 have z6 := hC.cell 6 _ rfl
 go_wp2_with fail
 have hxb := Ext.alloc no w1 (.cells #[.int .i64 0, .int .i64 0, .int .i64 0, .slice h.w c.wants.length h.wc, .slice h.o c.ops.length h.oc] 102)
 refine (wifew13_any (w1.alloc (.cells #[.int .i64 0, .int .i64 0, .int .i64 0, .slice h.w c.wants.length h.wc, .slice h.o c.ops.length h.oc] 102)) (some ⟨w1.heap.size, 0, none⟩) [⟨0, 0, 0, c, h⟩] 1 (Rd.lit w1 #[.int .i64 0, .int .i64 0, .int .i64 0, .slice h.w c.wants.length h.wc, .slice h.o c.ops.length h.oc] 102 (0, 0)) (fun x hx => by simp at hx; subst hx; exact hin1.no hxb) (fun x hx => by simp at hx; subst hx; exact hok) (by simp) (by unfold maxLen; omega)).mono ?_
 rintro e w2 ⟨bb, rfl, hbb, hx2⟩
 have hxx := (hxa.comp hxb).comp hx2
 have hC2 := hC.ext (by simp) (hxb.comp hx2) (fun h => h)
 have HB := Lib.hid (fun hb : bb = true => hbb hb ⟨0, 0, 0, c, h⟩ (by simp))
 clear hbb hC z5 z6
 have z5 := hC2.cell 5 _ rfl
 have z6 := hC2.cell 6 _ rfl
 cases hbt : bb with
 | false =>
  go_wp2_with fail
  go_ret
  exact ⟨false, rfl, (fun h => by cases h), hxx⟩
 | true =>
  have HF := Lib.hid (HB.out hbt)
  by_cases h22 : c.ops.length ≤ 22
  ·have d22 : decide ((c.ops.length : Int) ≤ 22) = true := decT (by omega)
   go_wp2_with fail
   go_ret
   exact ⟨true, rfl, (fun _ => HF.out), hxx⟩
  ·have d22 : decide ((c.ops.length : Int) ≤ 22) = false := decF (by omega)
   go_wp2_with fail
   go_ret
   exact ⟨false, rfl, (fun h => by cases h), hxx⟩
end Go.Proofs.YtddobhihjljcgaaGreat
