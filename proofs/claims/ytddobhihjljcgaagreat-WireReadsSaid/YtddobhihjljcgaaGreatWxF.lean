/- The reference's SameOps, SameCmd: of one and the same. -/
import Derived.Test.YtddobhihjljcgaaGreatWiP
import Derived.Test.YtddobhihjljcgaaGreatOpST
import Derived.BigQuiet
import Derived.Deep.QuietTactic
namespace Go.Esc
open Go.RowKit
theorem rows_range {α : Type} {f : α → List Value} {k : Nat} {w : World} {b o : Nat} {l : List α} {i : Nat} {x : α} (hk : ∀ r, (f r).length = k) (h : Rd w (some ⟨b, o, none⟩) (rows f l)) (hx : l[i]? = some x) : w.rangeAt b (o + i * k) (f x) := fun j v hv => rows_cell hk h hx j v hv
theorem range_no {w w' : World} {b o : Nat} {cs : List Value} (h : w.rangeAt b o cs) (hx : Ext no w w') : w'.rangeAt b o cs := fun j v hv => hx.keeps (h j v hv) (fun h => h)
end Go.Esc
namespace Go.Proofs.YtddobhihjljcgaaGreat
open Go.RowKit Go.Esc
set_option linter.unusedVariables false
set_option linter.unusedSimpArgs false
theorem run_load_opw {op : Oper} {x : Operand} {a : Act} {w : World} {b off : Nat} {y : OpW} (ho : op.op = .load 62 x) (hx : a.eval x = .pointer (some ⟨b, off, none⟩)) (hC : w.rangeAt b off (OpW.cells y)) : (execOp a.eval op).run Tryz.prog w = .ok (.value (y.o.v y.a y.c)) w := by
 unfold execOp
 simp only [ho, hx, run_loadAt_mid (P := Tryz.prog) w b off 62 (OpW.cells y) _ hC Tryz.underlying62 rfl (by kernel_rfl), Sem.run_bind, Sem.run_pure, Result.andThen_ok]
 rfl
set_option maxRecDepth 100000 in
set_option maxHeartbeats 4000000 in
theorem sameops_eq (w : World) (a b : Option Addr) (c d : Nat) (l : List OpR) (ha : OpsIn w a l) (hb : OpsIn w b l) (hl : l.length ≤ 1000000) (hf : ∀ o ∈ l, o.dots.length ≤ 1099511627776) :
  Calls Tryz.prog 42 #[.slice a l.length c, .slice b l.length d] w fun e w' => e = .returned (.bool true) ∧ Ext no w w' := by
 obtain ⟨P, hP, hrp, hgp⟩ := ha
 obtain ⟨Q, hQ, hrq, hgq⟩ := hb
 have hPl : P.length = l.length := by rw [← hP, List.length_map]
 have hQl : Q.length = l.length := by rw [← hQ, List.length_map]
 have HP := Lib.hid hP
 have HPl := Lib.hid hPl
 have HQ := Lib.hid hQ
 have HQl := Lib.hid hQl
 clear hP hPl hQ hQl
 go_enter Tryz.func42, Tryz.ntmps42
 go_wp2_with fail
 go_loopw [5] (fun s5 wr => ∃ (i : Nat), i ≤ l.length ∧ s5 = .int .i64 i ∧ Ext no w wr) (fun s5 _ => l.length - (intOf s5).toNat)
 case atStart => exact ⟨0, Nat.zero_le _, rfl, Ext.refl _ _⟩
 case round =>
  obtain ⟨i, hi, rfl, hx⟩ := hrel
  by_cases hlt : i < l.length
  ·have d1 : decide (i < l.length) = true := decT hlt
   obtain ⟨y, hym⟩ : ∃ y, P[i]? = some y := ⟨_, List.getElem?_eq_getElem (by have := HPl.out; omega)⟩
   obtain ⟨z, hzm⟩ : ∃ z, Q[i]? = some z := ⟨_, List.getElem?_eq_getElem (by have := HQl.out; omega)⟩
   have hyo : l[i]? = some y.o := by rw [← HP.out, List.getElem?_map, hym]; rfl
   have hzo : l[i]? = some z.o := by rw [← HQ.out, List.getElem?_map, hzm]; rfl
   have HYZ := Lib.hid (show y.o = z.o by rw [hyo] at hzo; exact Option.some.inj hzo)
   have hyl := hf y.o (List.mem_of_getElem? hyo)
   have hzl := hf z.o (List.mem_of_getElem? hzo)
   have hrp1 := hrp.ext hx (fun _ _ h => h)
   have hrq1 := hrq.ext hx (fun _ _ h => h)
   obtain ⟨ob, oof, hsa, _⟩ := rows_shape kOp (by omega) hrp1 (by have := HPl.out; omega)
   obtain ⟨pb, pof, hsb, _⟩ := rows_shape kOp (by omega) hrq1 (by have := HQl.out; omega)
   rw [hsa] at hrp1
   rw [hsb] at hrq1
   have hry := rows_range kOp hrp1 hym
   have hrz := rows_range kOp hrq1 hzm
   have hdy := (hgp y (List.mem_of_getElem? hym)).rd.ext hx (fun _ _ h => h)
   have hdz := (hgq z (List.mem_of_getElem? hzm)).rd.ext hx (fun _ _ h => h)
   have ha' : a = some ⟨ob, oof, none⟩ := hsa
   have hb' : b = some ⟨pb, pof, none⟩ := hsb
   clear hrp1 hrq1 hym hzm hyo hzo hsa hsb
   subst ha' hb'
   go_upto_region 6 with fail
   refine wp_region_F [3, 7] (looks [(3, fun z => Ext no wr z), (7, fun z => Ext no wr z)]) (by kernel_rfl) ?_
   have hXd := Ext.drew no wr
   have hdy := hdy.ext hXd (fun _ _ h => h)
   have hdz := hdz.ext hXd (fun _ _ h => h)
   generalize wr.drew = wd at *
   have hT0 : ∀ k, looks [(3, fun z => Ext no wr z), (7, fun z => Ext no wr z)] k (wd) := looks_all ⟨hXd, hXd, trivial⟩
   refine wpF_tk 0 (v := ?_) rfl hT0 (by rfl) ?_ ?_
   rotate_left
   ·(intro wq; go_simp; try with_reducible rfl)
   simp only [pz]
   refine wpF_tk 1 (v := ?_) rfl hT0 (by rfl) ?_ ?_
   rotate_left
   ·(intro wq; go_simp; try with_reducible rfl)
   simp only [pz]
   refine wpF_tk 2 (v := .pointer (some ⟨ob, oof + i * 11, none⟩)) rfl hT0 (by rfl) (by intro wq; go_simp) ?_
   simp only [pz]
   refine wpF_lk 3 (v := y.o.v y.a y.c) rfl hT0 (by rfl) (fun w hS => by have hS : Ext no wr w := hS; exact run_load_opw rfl (by rfl) (range_no hry hS)) ?_
   simp only [pz]
   refine wpF_tk 4 (v := ?_) rfl hT0 (by rfl) ?_ ?_
   rotate_left
   ·(intro wq; go_simp; try with_reducible rfl)
   simp only [pz]
   refine wpF_tk 5 (v := ?_) rfl hT0 (by rfl) ?_ ?_
   rotate_left
   ·(intro wq; go_simp; try with_reducible rfl)
   simp only [pz]
   refine wpF_tk 6 (v := .pointer (some ⟨pb, pof + i * 11, none⟩)) rfl hT0 (by rfl) (by intro wq; go_simp) ?_
   simp only [pz]
   refine wpF_lk 7 (v := z.o.v z.a z.c) rfl hT0 (by rfl) (fun w hS => by have hS : Ext no wr w := hS; exact run_load_opw rfl (by rfl) (range_no hrz hS)) ?_
   simp only [pz]
   refine wpF_exec 8 rfl (by kernel_rfl) (by rfl) ?_
   intro K hK
   go_simp
   refine (refsame_any wd y.o z.o y.a z.a y.c z.c hdy hdz hyl hzl).mono ?_
   rintro e w9 ⟨r, rfl, hr, hy⟩
   obtain rfl : r = true := hr.2 HYZ.out
   have hX9 := hXd.comp hy
   clear hr hy
   have hT1 : ∀ k, looks [(3, fun z => Ext no wr z), (7, fun z => Ext no wr z)] k (w9) := looks_all ⟨hX9, hX9, trivial⟩
   refine hK _ _ (looks [(3, fun z => Ext no wr z), (7, fun z => Ext no wr z)]) ⟨.inr (.inl (by kernel_rfl)), .inr (.inl (by kernel_rfl)), trivial⟩ hT1 ?_
   clear hK K
   try simp only [pz]
   refine wpF_tk 9 (v := ?_) rfl hT1 (by rfl) ?_ ?_
   rotate_left
   ·(intro wq; go_simp; try with_reducible rfl)
   simp only [pz]
   refine wpF_done (by kernel_rfl) ?_ _
   go_wp2_with fail
   go_roundw
   case rel => exact ⟨i + 1, by omega, by go_num, hx.comp hX9⟩
   case measure => simp [intOf]; omega
  ·have d1 : decide (i < l.length) = false := decF hlt
   go_wp2_with fail
   go_ret
   exact ⟨rfl, hx⟩
set_option maxRecDepth 100000 in
set_option maxHeartbeats 4000000 in
theorem samecmd_eq (w : World) (C : CmdR) (h k : CmdA) (ha : C.In w h) (hb : C.In w k) (hwl : C.wants.length ≤ 1000000) (hl : C.ops.length ≤ 1000000) (hf : ∀ o ∈ C.ops, o.dots.length ≤ 1099511627776) :
  Calls Tryz.prog 39 #[C.val h, C.val k] w fun e w' => e = .returned (.bool true) ∧ Ext no w w' := by
 go_enter Tryz.func39, Tryz.ntmps39
 unfold CmdR.val
 go_upto_region 1 with fail
 have hb1 := Blk.lit w #[.int .i64 C.kind, .int .i64 C.dev, .int .i64 C.ep, .int .i64 C.req, .int .i64 C.n, .slice h.w C.wants.length h.wc, .slice h.o C.ops.length h.oc] 27
 have hx1 := Ext.alloc no w (.cells #[.int .i64 C.kind, .int .i64 C.dev, .int .i64 C.ep, .int .i64 C.req, .int .i64 C.n, .slice h.w C.wants.length h.wc, .slice h.o C.ops.length h.oc] 27)
 have hb2 := Blk.lit (w.alloc (.cells #[.int .i64 C.kind, .int .i64 C.dev, .int .i64 C.ep, .int .i64 C.req, .int .i64 C.n, .slice h.w C.wants.length h.wc, .slice h.o C.ops.length h.oc] 27)) #[.int .i64 C.kind, .int .i64 C.dev, .int .i64 C.ep, .int .i64 C.req, .int .i64 C.n, .slice k.w C.wants.length k.wc, .slice k.o C.ops.length k.oc] 27
 have hx2 := Ext.alloc no (w.alloc (.cells #[.int .i64 C.kind, .int .i64 C.dev, .int .i64 C.ep, .int .i64 C.req, .int .i64 C.n, .slice h.w C.wants.length h.wc, .slice h.o C.ops.length h.oc] 27)) (.cells #[.int .i64 C.kind, .int .i64 C.dev, .int .i64 C.ep, .int .i64 C.req, .int .i64 C.n, .slice k.w C.wants.length k.wc, .slice k.o C.ops.length k.oc] 27)
 have hb1 := hb1.ext (by simp) hx2 (fun h => h)
 have hx := hx1.comp hx2
 have ha := ha.no hx
 have hb := hb.no hx
 clear hx1 hx2
 have e1 : (w.alloc (.cells #[.int .i64 C.kind, .int .i64 C.dev, .int .i64 C.ep, .int .i64 C.req, .int .i64 C.n, .slice h.w C.wants.length h.wc, .slice h.o C.ops.length h.oc] 27)).heap.size = w.heap.size + 1 := by simp
 rw [e1] at hb2
 generalize (w.alloc (.cells #[.int .i64 C.kind, .int .i64 C.dev, .int .i64 C.ep, .int .i64 C.req, .int .i64 C.n, .slice h.w C.wants.length h.wc, .slice h.o C.ops.length h.oc] 27)).alloc (.cells #[.int .i64 C.kind, .int .i64 C.dev, .int .i64 C.ep, .int .i64 C.req, .int .i64 C.n, .slice k.w C.wants.length k.wc, .slice k.o C.ops.length k.oc] 27) = w2 at *
 generalize w.heap.size + 1 = g2 at *
 generalize w.heap.size = g1 at hb1 ⊢
 clear e1
 have p0 := hb1.cell 0 _ rfl
 have r0 := hb2.cell 0 _ rfl
 have p1 := hb1.cell 1 _ rfl
 have r1 := hb2.cell 1 _ rfl
 have p2 := hb1.cell 2 _ rfl
 have r2 := hb2.cell 2 _ rfl
 have p3 := hb1.cell 3 _ rfl
 have r3 := hb2.cell 3 _ rfl
 have p4 := hb1.cell 4 _ rfl
 have r4 := hb2.cell 4 _ rfl
 have p5 := hb1.cell 5 _ rfl
 have r5 := hb2.cell 5 _ rfl
 have p6 := hb1.cell 6 _ rfl
 have r6 := hb2.cell 6 _ rfl
 go_wp2_with fail
 refine (sameops_eq w2 h.o k.o h.oc k.oc C.ops ha.o hb.o hl hf).mono ?_
 rintro e w3 ⟨rfl, hy⟩
 have hb1 := hb1.ext (by simp) hy (fun h => h)
 have hb2 := hb2.ext (by simp) hy (fun h => h)
 have ha := ha.no hy
 have hb := hb.no hy
 replace hx := hx.comp hy
 clear hy p0 r0 p1 r1 p2 r2 p3 r3 p4 r4 p5 r5 p6 r6
 go_wp2_with fail
 go_loopw [5] (fun s5 wr => ∃ (i : Nat), i ≤ C.wants.length ∧ s5 = .int .i64 i ∧ Ext no w wr ∧ Ext no w3 wr) (fun s5 _ => C.wants.length - (intOf s5).toNat)
 case atStart => exact ⟨0, Nat.zero_le _, rfl, hx, Ext.refl _ _⟩
 case round =>
  clear hx
  obtain ⟨i, hi, rfl, hx, hy⟩ := hrel
  have hb1 := hb1.ext (by simp) hy (fun h => h)
  have hb2 := hb2.ext (by simp) hy (fun h => h)
  have p5 := hb1.cell 5 _ rfl
  have r5 := hb2.cell 5 _ rfl
  by_cases hlt : i < C.wants.length
  ·have d1 : decide (i < C.wants.length) = true := decT hlt
   obtain ⟨y, hym⟩ : ∃ y, C.wants[i]? = some y := ⟨_, List.getElem?_eq_getElem hlt⟩
   have hrp1 := ha.x.ext hy (fun _ _ h => h)
   have hrq1 := hb.x.ext hy (fun _ _ h => h)
   obtain ⟨ob, oof, hsa, _⟩ := rows_shape kWant (by omega) hrp1 (by omega)
   obtain ⟨pb, pof, hsb, _⟩ := rows_shape kWant (by omega) hrq1 (by omega)
   rw [hsa] at hrp1 p5
   rw [hsb] at hrq1 r5
   have y0 : wr.cell? ⟨ob, oof + i * 4, none⟩ = some (.string (str y.key)) := rows_cell kWant hrp1 hym 0 _ rfl
   have y1 : wr.cell? ⟨ob, oof + i * 4 + 1, none⟩ = some (.int .i64 y.up) := rows_cell kWant hrp1 hym 1 _ rfl
   have y2 : wr.cell? ⟨ob, oof + i * 4 + 2, none⟩ = some (.int .i64 y.down) := rows_cell kWant hrp1 hym 2 _ rfl
   have y3 : wr.cell? ⟨ob, oof + i * 4 + 3, none⟩ = some (.int .i64 y.ids) := rows_cell kWant hrp1 hym 3 _ rfl
   have z0 : wr.cell? ⟨pb, pof + i * 4, none⟩ = some (.string (str y.key)) := rows_cell kWant hrq1 hym 0 _ rfl
   have z1 : wr.cell? ⟨pb, pof + i * 4 + 1, none⟩ = some (.int .i64 y.up) := rows_cell kWant hrq1 hym 1 _ rfl
   have z2 : wr.cell? ⟨pb, pof + i * 4 + 2, none⟩ = some (.int .i64 y.down) := rows_cell kWant hrq1 hym 2 _ rfl
   have z3 : wr.cell? ⟨pb, pof + i * 4 + 3, none⟩ = some (.int .i64 y.ids) := rows_cell kWant hrq1 hym 3 _ rfl
   clear hrp1 hrq1 hym hsa hsb
   go_upto_region 6 with fail
   go_quiet (fail)
   have hx := hx.comp (Ext.drewN no wr nq)
   have hy := hy.comp (Ext.drewN no wr nq)
   generalize wr.drewN nq = wz at *
   go_wp2_with fail
   go_roundw
   case rel => exact ⟨i + 1, by omega, by go_num, hx, hy⟩
   case measure => simp [intOf]; omega
  ·have d1 : decide (i < C.wants.length) = false := decF hlt
   go_wp2_with fail
   go_ret
   exact ⟨rfl, hx⟩
end Go.Proofs.YtddobhihjljcgaaGreat
