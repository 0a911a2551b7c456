/- The reference's fold. -/
import Derived.Test.YtejmmkjpncpedaaGreatCrD
import Derived.Test.YtejmmkjpncpedaaGreatCoX
namespace Go.Esc
open Go.RowKit
theorem refApply_small {C : CollR} {m : Nat} (h : C.small m) (o : OpR) : (refApply C o).small (m + 9) := by
  unfold refApply
  split
  · exact h.up (by omega)
  · split
    · exact h.up (by omega)
    · rename_i hc _
      have hc' : checkOp o = 0 := Classical.not_not.1 hc
      have h1 : ({ C with v := refPut C.v o.dot } : CollR).small (m + 1) := ⟨by have := refPut_len C.v o.dot; have := h.v; simp only; omega, by have := h.r; simp only; omega, by have := h.e; simp only; omega, by have := h.g; simp only; omega, by have := h.s; simp only; omega, by have := h.b; simp only; omega⟩
      exact (refLay_small h1 o (fun hk => dots_le8 hc' hk)).up (by omega)
end Go.Esc
namespace Go.Proofs.YtejmmkjpncpedaaGreat
open Go.RowKit Go.Esc
set_option linter.unusedVariables false
set_option linter.unusedSimpArgs false
set_option maxRecDepth 100000 in
set_option maxHeartbeats 8000000 in
theorem fold_any (w : World) (a : Option Addr) (l : List OpW) (c : Nat) (hr : Rd w a (rows OpW.cells l)) (hg : ∀ x ∈ l, x.good w) (hdd : ∀ x ∈ l, x.o.dots.length ≤ 1099511627776) (hl : l.length ≤ 60) :
    Calls Tryz.prog 6 #[.slice a l.length c] w fun e w' => ∃ h', e = .returned ((refFold (l.map OpW.o)).val h') ∧ Mine (refFold (l.map OpW.o)) w' w.heap.size h' ∧ (refFold (l.map OpW.o)).small 540 ∧ Ext no w w' := by
  obtain ⟨E, hE⟩ : ∃ E, E = refFold (l.map OpW.o) := ⟨_, rfl⟩
  rw [← hE]
  have HE := Lib.hid hE
  have Hg := Lib.hid hg
  clear hE hg
  go_enter Tryz.func6, Tryz.ntmps6
  unfold CollR.val
  go_upto_region 2 with fail
  have hR_ := Blk.at (w) #[.slice none 0 0, .slice none 0 0, .slice none 0 0, .slice none 0 0, .slice none 0 0, .slice none 0 0] 32 (w.heap.size) (by simp)
  have hx_0 := Ext.alloc no (w) (.cells #[.slice none 0 0, .slice none 0 0, .slice none 0 0, .slice none 0 0, .slice none 0 0, .slice none 0 0] 32)
  have hC_ := Blk.at (w.alloc (.cells #[.slice none 0 0, .slice none 0 0, .slice none 0 0, .slice none 0 0, .slice none 0 0, .slice none 0 0] 32)) #[.slice none 0 0, .slice none 0 0, .slice none 0 0, .slice none 0 0, .slice none 0 0, .slice none 0 0] 32 (w.heap.size + 1) (by simp)
  have hx_1 := Ext.alloc no (w.alloc (.cells #[.slice none 0 0, .slice none 0 0, .slice none 0 0, .slice none 0 0, .slice none 0 0, .slice none 0 0] 32)) (.cells #[.slice none 0 0, .slice none 0 0, .slice none 0 0, .slice none 0 0, .slice none 0 0, .slice none 0 0] 32)
  have hR := hR_.ext (by simp) hx_1 (fun h => h)
  have hC := hC_
  have hx1 := (hx_0).comp hx_1
  clear hR_ hx_0 hC_ hx_1
  generalize (w.alloc (.cells #[.slice none 0 0, .slice none 0 0, .slice none 0 0, .slice none 0 0, .slice none 0 0, .slice none 0 0] 32)).alloc (.cells #[.slice none 0 0, .slice none 0 0, .slice none 0 0, .slice none 0 0, .slice none 0 0, .slice none 0 0] 32) = w1 at *
  have hsz := hC.lt (by simp)
  obtain ⟨g, hg⟩ : ∃ g, g = w.heap.size := ⟨_, rfl⟩
  have hgw : w.heap.size ≤ g := by omega
  rw [← hg] at hR hC hsz ⊢
  clear hg
  have hW := hx1
  obtain ⟨B, hBB⟩ : ∃ B, B = w1.heap.size := ⟨_, rfl⟩
  have hB1 : g + 1 < B := by omega
  have hB2 : w.heap.size ≤ B := by omega
  have hB3 : B ≤ w1.heap.size := by omega
  clear hBB hx1
  go_wp2_with fail
  go_loopw [4] (fun s4 wr => ∃ (i : Nat) (C : CollR) (h : Six), s4 = .int .i64 i ∧ i ≤ l.length ∧ C = refFold ((l.map OpW.o).take i) ∧ C.small (9 * i) ∧ Mine C wr B h ∧ Blk wr (g + 1) [.slice h.v C.v.length h.vc, .slice h.r C.regs.length h.rc, .slice h.e C.elems.length h.ec, .slice h.g C.gone.length h.gc, .slice h.s C.sums.length h.sc, .slice h.b C.binds.length h.bc] ∧ Blk wr g [.slice none 0 0, .slice none 0 0, .slice none 0 0, .slice none 0 0, .slice none 0 0, .slice none 0 0] ∧ Ext no w wr ∧ B ≤ wr.heap.size) (fun s4 _ => l.length - (intOf s4).toNat)
  case atStart => exact ⟨0, CollR.nil, six0, rfl, Nat.zero_le _, rfl, ⟨Nat.zero_le _, Nat.zero_le _, Nat.zero_le _, Nat.zero_le _, Nat.zero_le _, Nat.zero_le _⟩, nil_mine _ _, hC, hR, hW, hB3⟩
  case round =>
    clear hC hR hW hsz hB3
    obtain ⟨i, C, h, rfl, hil, hCe, hs, hm, hC, hR, hW, hBs⟩ := hrel
    have HC := Lib.hid hCe
    clear hCe
    have c0 := hC.cell 0 _ rfl
    have c1 := hC.cell 1 _ rfl
    have c2 := hC.cell 2 _ rfl
    have c3 := hC.cell 3 _ rfl
    have c4 := hC.cell 4 _ rfl
    have c5 := hC.cell 5 _ rfl
    by_cases hin : i < l.length
    · have d1 : decide (i < l.length) = true := decT hin
      obtain ⟨x, hxm⟩ : ∃ x, l[i]? = some x := ⟨_, List.getElem?_eq_getElem hin⟩
      have hgx := (Hg.out x (List.mem_of_getElem? hxm)).no hW
      have htk : (l.map OpW.o).take (i + 1) = (l.map OpW.o).take i ++ [x.o] := by
        rw [List.take_succ_eq_append_getElem (by simpa using hin)]
        congr 2
        rw [List.getElem_map, (List.getElem?_eq_some_iff.1 hxm).2]
      have HN := Lib.hid (show refApply C x.o = refFold ((l.map OpW.o).take (i + 1)) by rw [htk, refFold_snoc, ← HC.out])
      clear htk
      obtain ⟨b, off, hsa, _⟩ := rows_shape kOp (by omega) hr (by omega)
      subst hsa
      have hrr := hr.no hW
      have q0 : wr.cell? ⟨b, off + i * 11, none⟩ = some (.int .i64 (x.o.dot.dev)) := rows_cell kOp hrr hxm 0 _ rfl
      have q1 : wr.cell? ⟨b, off + i * 11 + 1, none⟩ = some (.int .i64 (x.o.dot.ep)) := rows_cell kOp hrr hxm 1 _ rfl
      have q2 : wr.cell? ⟨b, off + i * 11 + 2, none⟩ = some (.int .i64 (x.o.dot.seq)) := rows_cell kOp hrr hxm 2 _ rfl
      have q3 : wr.cell? ⟨b, off + i * 11 + 3, none⟩ = some (.int .i64 (x.o.coll)) := rows_cell kOp hrr hxm 3 _ rfl
      have q4 : wr.cell? ⟨b, off + i * 11 + 4, none⟩ = some (.int .i64 (x.o.ver)) := rows_cell kOp hrr hxm 4 _ rfl
      have q5 : wr.cell? ⟨b, off + i * 11 + 5, none⟩ = some (.int .i64 (x.o.kind)) := rows_cell kOp hrr hxm 5 _ rfl
      have q6 : wr.cell? ⟨b, off + i * 11 + 6, none⟩ = some (.string (str (x.o.key))) := rows_cell kOp hrr hxm 6 _ rfl
      have q7 : wr.cell? ⟨b, off + i * 11 + 7, none⟩ = some (.string (str (x.o.text))) := rows_cell kOp hrr hxm 7 _ rfl
      have q8 : wr.cell? ⟨b, off + i * 11 + 8, none⟩ = some (.int .i64 (x.o.n)) := rows_cell kOp hrr hxm 8 _ rfl
      have q9 : wr.cell? ⟨b, off + i * 11 + 9, none⟩ = some (.int .i64 (x.o.time)) := rows_cell kOp hrr hxm 9 _ rfl
      have q10 : wr.cell? ⟨b, off + i * 11 + 10, none⟩ = some (.slice x.a x.o.dots.length x.c) := rows_cell kOp hrr hxm 10 _ rfl
      have hok := hgx.ok
      have hks := hok.key
      have hts := hok.text
      have hrd := hgx.rd
      have hdl : x.o.dots.length ≤ 1099511627776 := hdd x (List.mem_of_getElem? hxm)
      clear hrr hgx hok hxm
      obtain ⟨D, hD⟩ : ∃ D, D = refApply C x.o := ⟨_, rfl⟩
      have HD := Lib.hid hD
      have hsD : D.small (9 * (i + 1)) := by rw [hD]; exact refApply_small hs x.o
      clear hD
      rw [← HD.out] at HN
      go_upto_region 5 with fail
      refine wp_region_F [0, 4] (looks [(0, fun z => Ext no wr z), (4, fun z => Ext no wr z)]) (by kernel_rfl) ?_
      have hT0 : ∀ k, looks [(0, fun z => Ext no wr z), (4, fun z => Ext no wr z)] k (wr.drew) := looks_all ⟨Ext.drew no wr, Ext.drew no wr, trivial⟩
      refine wpF_look 0 (v := .agg #[.slice h.v C.v.length h.vc, .slice h.r C.regs.length h.rc, .slice h.e C.elems.length h.ec, .slice h.g C.gone.length h.gc, .slice h.s C.sums.length h.sc, .slice h.b C.binds.length h.bc]) rfl rfl (by kernel_rfl) (by kernel_rfl) (by kernel_rfl) (by kernel_rfl) (fun _ _ _ h => h) hT0 (by rfl) (fun w hS => by have hS : Ext no wr w := hS; have q0 := hS.keeps c0 (fun h => h); have q1 := hS.keeps c1 (fun h => h); have q2 := hS.keeps c2 (fun h => h); have q3 := hS.keeps c3 (fun h => h); have q4 := hS.keeps c4 (fun h => h); have q5 := hS.keeps c5 (fun h => h); go_simp) ?_
      simp only [pz]
      refine wpF_take 1 (v := ?_) rfl (by kernel_rfl) (by kernel_rfl) (by kernel_rfl) (fun _ _ _ h => h) hT0 (by rfl) ?_ ?_
      rotate_left
      · (intro wq; go_simp; try with_reducible rfl)
      simp only [pz]
      refine wpF_take 2 (v := ?_) rfl (by kernel_rfl) (by kernel_rfl) (by kernel_rfl) (fun _ _ _ h => h) hT0 (by rfl) ?_ ?_
      rotate_left
      · (intro wq; go_simp; try with_reducible rfl)
      simp only [pz]
      refine wpF_take 3 (v := .pointer (some ⟨b, off + i * 11, none⟩)) rfl (by kernel_rfl) (by kernel_rfl) (by kernel_rfl) (fun _ _ _ h => h) hT0 (by rfl) (by intro wq; go_simp) ?_
      simp only [pz]
      refine wpF_look 4 (v := .agg #[.int .i64 (x.o.dot.dev), .int .i64 (x.o.dot.ep), .int .i64 (x.o.dot.seq), .int .i64 (x.o.coll), .int .i64 (x.o.ver), .int .i64 (x.o.kind), .string (str (x.o.key)), .string (str (x.o.text)), .int .i64 (x.o.n), .int .i64 (x.o.time), .slice x.a x.o.dots.length x.c]) rfl rfl (by kernel_rfl) (by kernel_rfl) (by kernel_rfl) (by kernel_rfl) (fun _ _ _ h => h) hT0 (by rfl) (fun w hS => by have hS : Ext no wr w := hS; have q0 := hS.keeps q0 (fun h => h); have q1 := hS.keeps q1 (fun h => h); have q2 := hS.keeps q2 (fun h => h); have q3 := hS.keeps q3 (fun h => h); have q4 := hS.keeps q4 (fun h => h); have q5 := hS.keeps q5 (fun h => h); have q6 := hS.keeps q6 (fun h => h); have q7 := hS.keeps q7 (fun h => h); have q8 := hS.keeps q8 (fun h => h); have q9 := hS.keeps q9 (fun h => h); have q10 := hS.keeps q10 (fun h => h); go_simp) ?_
      simp only [pz]
      refine wpF_exec 5 rfl (by kernel_rfl) (by rfl) ?_
      intro K hK
      go_simp
      refine (refapply_any _ B C h x.o x.a x.c (hm.no (Ext.drew no wr)) hBs (hs.up (by omega)) (hrd.ext (Ext.drew no wr) (fun _ _ h => h)) hdl hks hts).mono ?_
      rintro e w3 ⟨h3, rfl, hm3, hx3⟩
      rw [← HD.out] at hm3 ⊢
      unfold CollR.val
      have hT1 : ∀ k, looks [(0, fun z => Ext no wr z), (4, fun z => Ext no wr z)] k (w3) := looks_all ⟨(Ext.drew no wr).comp hx3, (Ext.drew no wr).comp hx3, trivial⟩
      refine hK _ _ (looks [(0, fun z => Ext no wr z), (4, fun z => Ext no wr z)]) ⟨.inr (.inl (by kernel_rfl)), .inr (.inl (by kernel_rfl)), trivial⟩ hT1 ?_
      clear hK K
      try simp only [pz]
      replace hx3 := (Ext.drew no wr).comp hx3
      refine wpF_take 6 (v := ?_) rfl (by kernel_rfl) (by kernel_rfl) (by kernel_rfl) (fun _ _ _ h => h) hT1 (by rfl) ?_ ?_
      rotate_left
      · (intro wq; go_simp; try with_reducible rfl)
      simp only [pz]
      refine wpF_take 7 (v := ?_) rfl (by kernel_rfl) (by kernel_rfl) (by kernel_rfl) (fun _ _ _ h => h) hT1 (by rfl) ?_ ?_
      rotate_left
      · (intro wq; go_simp; try with_reducible rfl)
      simp only [pz]
      refine wpF_take 8 (v := ?_) rfl (by kernel_rfl) (by kernel_rfl) (by kernel_rfl) (fun _ _ _ h => h) hT1 (by rfl) ?_ ?_
      rotate_left
      · (intro wq; go_simp; try with_reducible rfl)
      simp only [pz]
      refine wpF_exec 9 rfl (by kernel_rfl) (by rfl) ?_
      intro K hK
      have hC3 := hC.ext (by simp) hx3 (fun h => h)
      have z0 := hC3.cell 0 _ rfl
      have z1 := hC3.cell 1 _ rfl
      have z2 := hC3.cell 2 _ rfl
      have z3 := hC3.cell 3 _ rfl
      have z4 := hC3.cell 4 _ rfl
      have z5 := hC3.cell 5 _ rfl
      have f0 := hC3.fr 0
      have f1 := hC3.fr 1
      have f2 := hC3.fr 2
      have f3 := hC3.fr 3
      have f4 := hC3.fr 4
      have f5 := hC3.fr 5
      go_simp
      have hC4 := ((((((hC3.set 0 (.slice h3.v D.v.length h3.vc) (by simp)).set 1 (.slice h3.r D.regs.length h3.rc) (by simp)).set 2 (.slice h3.e D.elems.length h3.ec) (by simp)).set 3 (.slice h3.g D.gone.length h3.gc) (by simp)).set 4 (.slice h3.s D.sums.length h3.sc) (by simp)).set 5 (.slice h3.b D.binds.length h3.bc) (by simp))
      have hxs : Ext (just (g + 1)) w3 ((((((w3.setCell ⟨g + 1, 0, none⟩ (.slice h3.v D.v.length h3.vc)).setCell ⟨g + 1, 1, none⟩ (.slice h3.r D.regs.length h3.rc)).setCell ⟨g + 1, 2, none⟩ (.slice h3.e D.elems.length h3.ec)).setCell ⟨g + 1, 3, none⟩ (.slice h3.g D.gone.length h3.gc)).setCell ⟨g + 1, 4, none⟩ (.slice h3.s D.sums.length h3.sc)).setCell ⟨g + 1, 5, none⟩ (.slice h3.b D.binds.length h3.bc)) := (((((Ext.setCell (S := just (g + 1)) w3 ⟨g + 1, 0, none⟩ (.slice h3.v D.v.length h3.vc) rfl).comp (Ext.setCell _ ⟨g + 1, 1, none⟩ (.slice h3.r D.regs.length h3.rc) rfl)).comp (Ext.setCell _ ⟨g + 1, 2, none⟩ (.slice h3.e D.elems.length h3.ec) rfl)).comp (Ext.setCell _ ⟨g + 1, 3, none⟩ (.slice h3.g D.gone.length h3.gc) rfl)).comp (Ext.setCell _ ⟨g + 1, 4, none⟩ (.slice h3.s D.sums.length h3.sc) rfl)).comp (Ext.setCell _ ⟨g + 1, 5, none⟩ (.slice h3.b D.binds.length h3.bc) rfl)
      clear z0 f0 z1 f1 z2 f2 z3 f3 z4 f4 z5 f5
      generalize (((((w3.setCell ⟨g + 1, 0, none⟩ (.slice h3.v D.v.length h3.vc)).setCell ⟨g + 1, 1, none⟩ (.slice h3.r D.regs.length h3.rc)).setCell ⟨g + 1, 2, none⟩ (.slice h3.e D.elems.length h3.ec)).setCell ⟨g + 1, 3, none⟩ (.slice h3.g D.gone.length h3.gc)).setCell ⟨g + 1, 4, none⟩ (.slice h3.s D.sums.length h3.sc)).setCell ⟨g + 1, 5, none⟩ (.slice h3.b D.binds.length h3.bc) = w4 at *
      have hT2 : ∀ k, looks [(0, fun z => True), (4, fun z => True)] k (w4) := looks_all ⟨trivial, trivial, trivial⟩
      refine hK _ _ (looks [(0, fun z => True), (4, fun z => True)]) ⟨.inr (.inl (by kernel_rfl)), .inr (.inl (by kernel_rfl)), trivial⟩ hT2 ?_
      clear hK K
      try simp only [pz]
      refine wpF_done (by kernel_rfl) ?_ _
      have hm4 := hm3.ext hxs (fun i ad hi e => by have e : ad.block = g + 1 := e; have := (hm3.base i ad hi).1; omega)
      have hR4 := (hR.ext (by simp) hx3 (fun h => h)).ext (by simp) hxs (fun e => by have e : g = g + 1 := e; omega)
      have hW4 := (hW.comp hx3).trans hxs (fun k hk e => by have e : k = g + 1 := e; omega)
      have hB4 := Nat.le_trans hBs (Nat.le_trans hx3.size hxs.size)
      clear c0 c1 c2 c3 c4 c5 q0 q1 q2 q3 q4 q5 q6 q7 q8 q9 q10 hm hC hR hW hx3 hxs hm3 hrd
      go_wp2_with fail
      go_roundw
      case rel => exact ⟨i + 1, D, h3, by go_num, by omega, HN.out, hsD, hm4, hC4, hR4, hW4, hB4⟩
      case measure => simp [intOf]; omega
    · have hiE : i = l.length := by omega
      subst hiE
      have d1 : decide (l.length < l.length) = false := decF (by omega)
      rw [List.take_of_length_le (by simp), ← HE.out] at HC
      have z0 := hR.cell 0 _ rfl
      have z1 := hR.cell 1 _ rfl
      have z2 := hR.cell 2 _ rfl
      have z3 := hR.cell 3 _ rfl
      have z4 := hR.cell 4 _ rfl
      have z5 := hR.cell 5 _ rfl
      have f0 := hR.fr 0
      have f1 := hR.fr 1
      have f2 := hR.fr 2
      have f3 := hR.fr 3
      have f4 := hR.fr 4
      have f5 := hR.fr 5
      go_wp2_with fail
      have hbE := ((((((hR.set 0 (.slice h.v C.v.length h.vc) (by simp)).set 1 (.slice h.r C.regs.length h.rc) (by simp)).set 2 (.slice h.e C.elems.length h.ec) (by simp)).set 3 (.slice h.g C.gone.length h.gc) (by simp)).set 4 (.slice h.s C.sums.length h.sc) (by simp)).set 5 (.slice h.b C.binds.length h.bc) (by simp))
      have hxE := (((((Ext.setCell (S := just g) wr ⟨g, 0, none⟩ (.slice h.v C.v.length h.vc) rfl).comp (Ext.setCell _ ⟨g, 1, none⟩ (.slice h.r C.regs.length h.rc) rfl)).comp (Ext.setCell _ ⟨g, 2, none⟩ (.slice h.e C.elems.length h.ec) rfl)).comp (Ext.setCell _ ⟨g, 3, none⟩ (.slice h.g C.gone.length h.gc) rfl)).comp (Ext.setCell _ ⟨g, 4, none⟩ (.slice h.s C.sums.length h.sc) rfl)).comp (Ext.setCell _ ⟨g, 5, none⟩ (.slice h.b C.binds.length h.bc) rfl)
      clear z0 f0 z1 f1 z2 f2 z3 f3 z4 f4 z5 f5
      generalize (((((wr.setCell ⟨g, 0, none⟩ (.slice h.v C.v.length h.vc)).setCell ⟨g, 1, none⟩ (.slice h.r C.regs.length h.rc)).setCell ⟨g, 2, none⟩ (.slice h.e C.elems.length h.ec)).setCell ⟨g, 3, none⟩ (.slice h.g C.gone.length h.gc)).setCell ⟨g, 4, none⟩ (.slice h.s C.sums.length h.sc)).setCell ⟨g, 5, none⟩ (.slice h.b C.binds.length h.bc) = wE at *
      have z0 := hbE.cell 0 _ rfl
      have z1 := hbE.cell 1 _ rfl
      have z2 := hbE.cell 2 _ rfl
      have z3 := hbE.cell 3 _ rfl
      have z4 := hbE.cell 4 _ rfl
      have z5 := hbE.cell 5 _ rfl
      refine bodyPost_ret (v := .agg #[.slice h.v C.v.length h.vc, .slice h.r C.regs.length h.rc, .slice h.e C.elems.length h.ec, .slice h.g C.gone.length h.gc, .slice h.s C.sums.length h.sc, .slice h.b C.binds.length h.bc]) ?_ rfl ?_
      · rw [res_cell1 rfl]
        go_simp
      rw [← HC.out]
      exact ⟨h, rfl, (hm.ext hxE (fun i ad hi e => by have e : ad.block = g := e; have := (hm.base i ad hi).1; omega)).mono hB2, hs.up (by omega), hW.trans hxE (fun k hk e => by have e : k = g := e; omega)⟩
end Go.Proofs.YtejmmkjpncpedaaGreat
