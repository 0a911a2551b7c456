/- The walk of CollOrders. -/
import Derived.Test.YtejmmkjpncpedaaCoY
import Derived.Test.YtejmmkjpncpedaaCo1
import Derived.Test.YtejmmkjpncpedaaCo2
import Derived.Test.YtejmmkjpncpedaaCo3
namespace Go.Proofs.Ytejmmkjpncpedaa
open Go.RowKit Go.Esc
set_option linter.unusedVariables false
set_option linter.unusedSimpArgs false

set_option maxRecDepth 100000 in
set_option maxHeartbeats 8000000 in
theorem corders_walk (w : World) (a : Option Addr) (l : List OpW) (c : Nat) (pa : Option Addr) (ps : List Int) (pc : Nat) (hr : Rd w a (rows OpW.cells l)) (hg : ∀ x ∈ l, x.good w) (hlc : l.length ≤ c) (hcm : c ≤ maxLen) (hpr : Rd w pa (is ps)) (hpok : ∀ n ∈ ps, I64ok n) (hplc : ps.length ≤ pc) (hpcm : pc ≤ maxLen) :
    Calls Try.prog 4 #[.slice a l.length c, .slice pa ps.length pc] w fun e w' => e = .returned (.bool true) ∧ Ext no w w' := by
  have Hg := Lib.hid hg
  have Hpok := Lib.hid hpok
  clear hg hpok
  unfold maxLen at hpcm
  go_enter Try.func4, Try.ntmps4
  go_wp2_with fail
  refine (known_any w).mono ?_
  rintro e w0 ⟨rfl, hx0⟩
  go_wp2_with fail
  refine (cofew_any w0 a l c (hr.ext hx0 (fun _ _ h => h)) (fun x hx => (Hg.out x hx).no hx0) hlc hcm).mono ?_
  rintro e w1 ⟨rfl, hx1⟩
  have hx01 := hx0.comp hx1
  cases hfw : (l.all (fun x => fewB x.o) && decide (l.length ≤ 60)) with
  | false =>
    clear hfw
    go_wp2_with fail
    go_ret
    exact ⟨rfl, hx01⟩
  | true =>
    have hl60 : l.length ≤ 60 := by
      rw [Bool.and_eq_true, decide_eq_true_iff] at hfw
      exact hfw.2
    clear hfw
    go_wp2_with fail
    refine (row_any w1 a l c (hr.ext hx01 (fun _ _ h => h)) (fun x hx => (Hg.out x hx).no hx01) hl60).mono ?_
    rintro e w2 ⟨g, ga, gc, rfl, hgo, hgm, hgg, hgap, hx2⟩
    have hxx := hx01.comp hx2
    have Hgm := Lib.hid hgm
    have hglen : g.length ≤ 60 := by
      have := congrArg List.length hgm
      rw [List.length_map, rowL_length, List.length_map] at this
      omega
    have hG : ∀ x ∈ g, Short x.o := by
      intro x hx
      have : x.o ∈ rowL z6 (l.map OpW.o) := by rw [← hgm]; exact List.mem_map_of_mem hx
      obtain ⟨o, _, m, e⟩ := row_mem _ _ _ this
      rw [e]
      exact row_short o m
    have hrun : Runs CollR.nil (g.map OpW.o) := by
      rw [hgm]
      refine rowL_runs (l.map OpW.o) z6 0 CollR.nil CollR.fine_nil rfl (fun j => ?_) (by rw [List.length_map]; omega) (fun j hj => ?_) (fun o ho => ?_)
      · have : z6.getD j 0 = 0 := by
          rcases Nat.lt_or_ge j 6 with h | h
          · rcases (show j = 0 ∨ j = 1 ∨ j = 2 ∨ j = 3 ∨ j = 4 ∨ j = 5 by omega) with rfl | rfl | rfl | rfl | rfl | rfl <;> rfl
          · rw [List.getD_eq_getElem?_getD, List.getElem?_eq_none (show z6.length ≤ j from h)]; rfl
        rw [this]; omega
      · have : z6.getD j 0 = 0 := by rcases (show j = 0 ∨ j = 1 ∨ j = 2 ∨ j = 3 ∨ j = 4 ∨ j = 5 by omega) with rfl | rfl | rfl | rfl | rfl | rfl <;> rfl
        rw [this]
        show (0 : Int) ≤ 0
        omega
      · obtain ⟨x, hx, rfl⟩ := List.mem_map.1 ho
        exact (Hg.out x hx).ok
    have HG := Lib.hid hG
    have Hrun := Lib.hid hrun
    have Hgg := Lib.hid hgg
    clear hgm hG hrun hgg hgap hx0 hx1 hx01 hx2
    go_upto_region 7 with fail
    have hY_ := Blk.lit w2 #[.slice none 0 0, .slice none 0 0, .slice none 0 0, .slice none 0 0, .slice none 0 0, .slice none 0 0] 47
    have hxa := Ext.alloc no w2 (.cells #[.slice none 0 0, .slice none 0 0, .slice none 0 0, .slice none 0 0, .slice none 0 0, .slice none 0 0] 47)
    generalize w2.alloc (.cells #[.slice none 0 0, .slice none 0 0, .slice none 0 0, .slice none 0 0, .slice none 0 0, .slice none 0 0] 47) = w3 at *
    have hz3 := hY_.lt (by simp)
    obtain ⟨gy, hgy⟩ : ∃ gy, gy = w2.heap.size := ⟨_, rfl⟩
    rw [← hgy] at hY_ hz3 ⊢
    have hgy2 : w2.heap.size ≤ gy := by omega
    have hgy3 : gy ≤ w2.heap.size := by omega
    clear hgy
    obtain ⟨B, hB⟩ : ∃ B, B = gy + 1 := ⟨_, rfl⟩
    have hB1 : B ≤ gy + 1 := by omega
    have hB2 : gy + 1 ≤ B := by omega
    clear hB
    have hgr := hgo.rd
    have hgac := hgo.nc
    clear hgo
    go_wp2_with fail
    go_loopw [7] (fun s7 wr => ∃ (i : Nat) (ba : Nat → Option Addr) (bl : Nat → List OpW) (bc : Nat → Nat), s7 = .int .i64 i ∧ i ≤ g.length ∧ (∀ d, d < 6 → bl d = devW d (g.take i)) ∧ Blk wr gy (byC ba (fun d => (bl d).length) bc) ∧ (∀ d, d < 6 → Own wr B (ba d) 11 (bl d).length (bc d) (rows OpW.cells (bl d))) ∧ (∀ d e, d < 6 → e < 6 → d ≠ e → Apart (ba d) (ba e)) ∧ Ext (upfrom gy) w2 wr ∧ B ≤ wr.heap.size) (fun s7 _ => g.length - (intOf s7).toNat)
    case atStart => exact ⟨0, fun _ => none, fun _ => [], fun _ => 0, rfl, Nat.zero_le _, (fun d _ => by simp [devW]), hY_, (fun d _ => Own.nil _ _ _), (fun d e _ _ _ x y hx _ => by cases hx), hxa.upN, by omega⟩
    case round =>
      obtain ⟨i, ba, bl, bc, rfl, hil, hbl, hY, hO, hAp, hx, hz⟩ := hrel
      have Hbl := Lib.hid hbl
      clear hbl
      by_cases hin : i < g.length
      · have d1 : decide (i < g.length) = true := decT hin
        obtain ⟨x, hxm⟩ : ∃ x, g[i]? = some x := ⟨_, List.getElem?_eq_getElem hin⟩
        have hxg := List.mem_of_getElem? hxm
        have hsh := HG.out x hxg
        obtain ⟨d, hd⟩ : ∃ d : Nat, x.o.dot.dev = d := ⟨x.o.dot.dev.toNat, by have := hsh.dev; omega⟩
        have hd6 : d < 6 := by have := hsh.dev; omega
        obtain ⟨b, off, rfl, hbw⟩ := rows_shape kOp (by omega) hgr (by omega)
        have hrr : Rd wr (some ⟨b, off, none⟩) (rows OpW.cells g) := hgr.ext hx (fun ad ha e => by cases ha; have e : gy ≤ b := e; omega)
        have q0 : wr.cell? ⟨b, off + i * 11, none⟩ = some (.int .i64 x.o.dot.dev) := rows_cell kOp hrr hxm 0 _ rfl
        have q1 : wr.cell? ⟨b, off + i * 11 + 1, none⟩ = some (.int .i64 x.o.dot.ep) := rows_cell kOp hrr hxm 1 _ rfl
        have q2 : wr.cell? ⟨b, off + i * 11 + 2, none⟩ = some (.int .i64 x.o.dot.seq) := rows_cell kOp hrr hxm 2 _ rfl
        have q3 : wr.cell? ⟨b, off + i * 11 + 3, none⟩ = some (.int .i64 x.o.coll) := rows_cell kOp hrr hxm 3 _ rfl
        have q4 : wr.cell? ⟨b, off + i * 11 + 4, none⟩ = some (.int .i64 x.o.ver) := rows_cell kOp hrr hxm 4 _ rfl
        have q5 : wr.cell? ⟨b, off + i * 11 + 5, none⟩ = some (.int .i64 x.o.kind) := rows_cell kOp hrr hxm 5 _ rfl
        have q6 : wr.cell? ⟨b, off + i * 11 + 6, none⟩ = some (.string (str x.o.key)) := rows_cell kOp hrr hxm 6 _ rfl
        have q7 : wr.cell? ⟨b, off + i * 11 + 7, none⟩ = some (.string (str x.o.text)) := rows_cell kOp hrr hxm 7 _ rfl
        have q8 : wr.cell? ⟨b, off + i * 11 + 8, none⟩ = some (.int .i64 x.o.n) := rows_cell kOp hrr hxm 8 _ rfl
        have q9 : wr.cell? ⟨b, off + i * 11 + 9, none⟩ = some (.int .i64 x.o.time) := rows_cell kOp hrr hxm 9 _ rfl
        have q10 : wr.cell? ⟨b, off + i * 11 + 10, none⟩ = some (.slice x.a x.o.dots.length x.c) := rows_cell kOp hrr hxm 10 _ rfl
        have qd : wr.cell? ⟨b, off + i * 11, none⟩ = some (.int .i64 (d : Int)) := by rw [← hd]; exact q0
        have y0 := hY.cell d _ (byC_get hd6)
        have Hd := Lib.hid hd
        have hsz : ∀ e, e < 6 → (bl e).length ≤ 60 := fun e he => by rw [Hbl.out e he]; have := List.length_filter_le (fun x : OpW => decide (x.o.dot.dev = e)) (g.take i); rw [List.length_take] at this; unfold devW; omega
        have hszd := hsz d hd6
        have hOd := hO d hd6
        have fyd := hY.fr d
        clear hd hrr
        go_upto_region 10 with fail
        refine wp_region_F [5, 11, 13, 17] (looks [(5, fun z => Ext (upfrom B) wr z), (11, fun z => Ext no wr z), (13, fun z => Ext no wr z), (17, fun z => Ext no wr z)]) (by kernel_rfl) ?_
        have hxd0 := Ext.drew no wr
        generalize wr.drew = wd0 at *
        have hT0 : ∀ k, looks [(5, fun z => Ext (upfrom B) wr z), (11, fun z => Ext no wr z), (13, fun z => Ext no wr z), (17, fun z => Ext no wr z)] k (wd0) := looks_all ⟨(hxd0).upN, hxd0, hxd0, hxd0, trivial⟩
        refine wpF_take 0 (v := ?_) rfl (by kernel_rfl) (by kernel_rfl) (by kernel_rfl) (fun _ _ _ h => h) hT0 (by rfl) ?_ ?_
        rotate_left
        · (intro wq; go_simp; try with_reducible rfl)
        simp only [Act.put, List.setIfInBounds_toArray, List.set_cons_zero, List.set_cons_succ]
        refine wpF_take 1 (v := ?_) rfl (by kernel_rfl) (by kernel_rfl) (by kernel_rfl) (fun _ _ _ h => h) hT0 (by rfl) ?_ ?_
        rotate_left
        · (intro wq; go_simp; try with_reducible rfl)
        simp only [Act.put, List.setIfInBounds_toArray, List.set_cons_zero, List.set_cons_succ]
        refine wpF_take 2 (v := .pointer (some ⟨b, off + i * 11, none⟩)) rfl (by kernel_rfl) (by kernel_rfl) (by kernel_rfl) (fun _ _ _ h => h) hT0 (by rfl) (by intro wq; go_simp) ?_
        simp only [Act.put, List.setIfInBounds_toArray, List.set_cons_zero, List.set_cons_succ]
        refine wpF_take 3 (v := ?_) rfl (by kernel_rfl) (by kernel_rfl) (by kernel_rfl) (fun _ _ _ h => h) hT0 (by rfl) ?_ ?_
        rotate_left
        · (intro wq; go_simp; try with_reducible rfl)
        simp only [Act.put, List.setIfInBounds_toArray, List.set_cons_zero, List.set_cons_succ]
        refine wpF_take 4 (v := ?_) rfl (by kernel_rfl) (by kernel_rfl) (by kernel_rfl) (fun _ _ _ h => h) hT0 (by rfl) ?_ ?_
        rotate_left
        · (intro wq; go_simp; try with_reducible rfl)
        simp only [Act.put, List.setIfInBounds_toArray, List.set_cons_zero, List.set_cons_succ]
        refine wpF_look 5 (v := .int .i64 (d : Int)) rfl rfl (by kernel_rfl) (by kernel_rfl) (by kernel_rfl) (by kernel_rfl) (fun _ _ _ h => h) hT0 (by rfl) (fun w hS => by have hS : Ext (upfrom B) wr w := hS; have q := hS.keeps qd (fun e => by have e : B ≤ b := e; omega); go_simp) ?_
        simp only [Act.put, List.setIfInBounds_toArray, List.set_cons_zero, List.set_cons_succ]
        refine wpF_take 6 (v := ?_) rfl (by kernel_rfl) (by kernel_rfl) (by kernel_rfl) (fun _ _ _ h => h) hT0 (by rfl) ?_ ?_
        rotate_left
        · (intro wq; go_simp; try with_reducible rfl)
        simp only [Act.put, List.setIfInBounds_toArray, List.set_cons_zero, List.set_cons_succ]
        refine wpF_take 7 (v := ?_) rfl (by kernel_rfl) (by kernel_rfl) (by kernel_rfl) (fun _ _ _ h => h) hT0 (by rfl) ?_ ?_
        rotate_left
        · (intro wq; go_simp; try with_reducible rfl)
        simp only [Act.put, List.setIfInBounds_toArray, List.set_cons_zero, List.set_cons_succ]
        refine wpF_take 8 (v := .pointer (some ⟨b, off + i * 11, none⟩)) rfl (by kernel_rfl) (by kernel_rfl) (by kernel_rfl) (fun _ _ _ h => h) hT0 (by rfl) (by intro wq; go_simp) ?_
        simp only [Act.put, List.setIfInBounds_toArray, List.set_cons_zero, List.set_cons_succ]
        refine wpF_take 9 (v := ?_) rfl (by kernel_rfl) (by kernel_rfl) (by kernel_rfl) (fun _ _ _ h => h) hT0 (by rfl) ?_ ?_
        rotate_left
        · (intro wq; go_simp; try with_reducible rfl)
        simp only [Act.put, List.setIfInBounds_toArray, List.set_cons_zero, List.set_cons_succ]
        refine wpF_take 10 (v := ?_) rfl (by kernel_rfl) (by kernel_rfl) (by kernel_rfl) (fun _ _ _ h => h) hT0 (by rfl) ?_ ?_
        rotate_left
        · (intro wq; go_simp; try with_reducible rfl)
        simp only [Act.put, List.setIfInBounds_toArray, List.set_cons_zero, List.set_cons_succ]
        refine wpF_look 11 (v := .int .i64 (d : Int)) rfl rfl (by kernel_rfl) (by kernel_rfl) (by kernel_rfl) (by kernel_rfl) (fun _ _ _ h => h) hT0 (by rfl) (fun w hS => by have hS : Ext no wr w := hS; have q0 := hS.keeps qd (fun h => h); go_simp) ?_
        simp only [Act.put, List.setIfInBounds_toArray, List.set_cons_zero, List.set_cons_succ]
        refine wpF_take 12 (v := .pointer (some ⟨gy, d, none⟩)) rfl (by kernel_rfl) (by kernel_rfl) (by kernel_rfl) (fun _ _ _ h => h) hT0 (by rfl) (by intro wq; go_simp; first | done | (intro hh; exfalso; omega)) ?_
        simp only [Act.put, List.setIfInBounds_toArray, List.set_cons_zero, List.set_cons_succ]
        refine wpF_look 13 (v := .slice (ba d) (bl d).length (bc d)) rfl rfl (by kernel_rfl) (by kernel_rfl) (by kernel_rfl) (by kernel_rfl) (fun _ _ _ h => h) hT0 (by rfl) (fun w hS => by have hS : Ext no wr w := hS; have q0 := hS.keeps y0 (fun h => h); go_simp) ?_
        simp only [Act.put, List.setIfInBounds_toArray, List.set_cons_zero, List.set_cons_succ]
        refine wpF_take 14 (v := ?_) rfl (by kernel_rfl) (by kernel_rfl) (by kernel_rfl) (fun _ _ _ h => h) hT0 (by rfl) ?_ ?_
        rotate_left
        · (intro wq; go_simp; try with_reducible rfl)
        simp only [Act.put, List.setIfInBounds_toArray, List.set_cons_zero, List.set_cons_succ]
        refine wpF_take 15 (v := ?_) rfl (by kernel_rfl) (by kernel_rfl) (by kernel_rfl) (fun _ _ _ h => h) hT0 (by rfl) ?_ ?_
        rotate_left
        · (intro wq; go_simp; try with_reducible rfl)
        simp only [Act.put, List.setIfInBounds_toArray, List.set_cons_zero, List.set_cons_succ]
        refine wpF_take 16 (v := .pointer (some ⟨b, off + i * 11, none⟩)) rfl (by kernel_rfl) (by kernel_rfl) (by kernel_rfl) (fun _ _ _ h => h) hT0 (by rfl) (by intro wq; go_simp) ?_
        simp only [Act.put, List.setIfInBounds_toArray, List.set_cons_zero, List.set_cons_succ]
        refine wpF_look 17 (v := .agg #[.int .i64 x.o.dot.dev, .int .i64 x.o.dot.ep, .int .i64 x.o.dot.seq, .int .i64 x.o.coll, .int .i64 x.o.ver, .int .i64 x.o.kind, .string (str x.o.key), .string (str x.o.text), .int .i64 x.o.n, .int .i64 x.o.time, .slice x.a x.o.dots.length x.c]) rfl rfl (by kernel_rfl) (by kernel_rfl) (by kernel_rfl) (by kernel_rfl) (fun _ _ _ h => h) hT0 (by rfl) (fun w hS => by have hS : Ext no wr w := hS; have q20 := hS.keeps q0 (fun h => h); have q21 := hS.keeps q1 (fun h => h); have q22 := hS.keeps q2 (fun h => h); have q23 := hS.keeps q3 (fun h => h); have q24 := hS.keeps q4 (fun h => h); have q25 := hS.keeps q5 (fun h => h); have q26 := hS.keeps q6 (fun h => h); have q27 := hS.keeps q7 (fun h => h); have q28 := hS.keeps q8 (fun h => h); have q29 := hS.keeps q9 (fun h => h); have q30 := hS.keeps q10 (fun h => h); go_simp) ?_
        simp only [Act.put, List.setIfInBounds_toArray, List.set_cons_zero, List.set_cons_succ]
        refine wpF_exec 18 rfl (by kernel_rfl) (by rfl) ?_
        intro K hK
        go_simp
        have hKr := Rd.lit wd0 #[.int .i64 x.o.dot.dev, .int .i64 x.o.dot.ep, .int .i64 x.o.dot.seq, .int .i64 x.o.coll, .int .i64 x.o.ver, .int .i64 x.o.kind, .string (str x.o.key), .string (str x.o.text), .int .i64 x.o.n, .int .i64 x.o.time, .slice x.a x.o.dots.length x.c] 41 (0, 0)
        have hxK := Ext.alloc no wd0 (.cells #[.int .i64 x.o.dot.dev, .int .i64 x.o.dot.ep, .int .i64 x.o.dot.seq, .int .i64 x.o.coll, .int .i64 x.o.ver, .int .i64 x.o.kind, .string (str x.o.key), .string (str x.o.text), .int .i64 x.o.n, .int .i64 x.o.time, .slice x.a x.o.dots.length x.c] 41)
        obtain ⟨sb, hsbe⟩ : ∃ sb, sb = wd0.heap.size := ⟨_, rfl⟩
        have hsbU : wd0.heap.size ≤ sb := by omega
        rw [← hsbe] at hKr ⊢
        generalize wd0.alloc (.cells #[.int .i64 x.o.dot.dev, .int .i64 x.o.dot.ep, .int .i64 x.o.dot.seq, .int .i64 x.o.coll, .int .i64 x.o.ver, .int .i64 x.o.kind, .string (str x.o.key), .string (str x.o.text), .int .i64 x.o.n, .int .i64 x.o.time, .slice x.a x.o.dots.length x.c] 41) = wA at *
        clear hsbe
        have hOA := (hOd.ext hxd0 (fun _ _ h => h)).ext hxK (fun _ _ h => h)
        have hT1 : ∀ k, looks [(5, fun z => Ext (upfrom B) wr z), (11, fun z => Ext no wr z), (13, fun z => Ext no wr z), (17, fun z => Ext no wr z)] k (wA) := looks_all ⟨(hxd0.comp hxK).upN, hxd0.comp hxK, hxd0.comp hxK, hxd0.comp hxK, trivial⟩
        refine hK _ _ (looks [(5, fun z => Ext (upfrom B) wr z), (11, fun z => Ext no wr z), (13, fun z => Ext no wr z), (17, fun z => Ext no wr z)]) ⟨.inr (.inr (fun x h => h)), .inr (.inr (fun x h => h)), .inr (.inr (fun x h => h)), .inr (.inl (by kernel_rfl)), trivial⟩ hT1 ?_
        clear hK K
        try simp only [Act.put, List.setIfInBounds_toArray, List.set_cons_zero, List.set_cons_succ]
        refine wpF_exec 19 rfl (by kernel_rfl) (by rfl) ?_
        intro K hK
        refine op_append (m := 1) (n := (bl d).length) TOps rfl rfl hOA rfl hKr rfl (oneOp x) (by unfold maxLen; omega) (by omega) (by have := hxd0.size; have := hxK.size; omega) ?_
        intro sa' c' w5 happ
        have hxe := happ.ext
        have hT2 : ∀ k, looks [(5, fun z => Ext (upfrom B) wr z), (11, fun z => True), (13, fun z => True), (17, fun z => True)] k (w5) := looks_all ⟨((hxd0.comp hxK).upN).comp (hxe.upO hOA), trivial, trivial, trivial, trivial⟩
        refine hK _ _ (looks [(5, fun z => Ext (upfrom B) wr z), (11, fun z => True), (13, fun z => True), (17, fun z => True)]) ⟨.inr (.inr (fun x h => h)), .inr (.inl (by kernel_rfl)), .inr (.inl (by kernel_rfl)), .inr (.inl (by kernel_rfl)), trivial⟩ hT2 ?_
        clear hK K
        try simp only [Act.put, List.setIfInBounds_toArray, List.set_cons_zero, List.set_cons_succ]
        refine wpF_take 20 (v := .pointer (some ⟨gy, d, none⟩)) rfl (by kernel_rfl) (by kernel_rfl) (by kernel_rfl) (fun _ _ _ h => h) hT2 (by rfl) (by intro wq; go_simp; first | done | (intro hh; exfalso; omega)) ?_
        simp only [Act.put, List.setIfInBounds_toArray, List.set_cons_zero, List.set_cons_succ]
        refine wpF_exec 21 rfl (by kernel_rfl) (by rfl) ?_
        intro K hK
        have hYA := (hY.ext byC_ne hxd0 (fun h => h)).ext byC_ne hxK (fun h => h)
        have hY5 := hYA.ext byC_ne hxe (by rintro ⟨ad, ha, e⟩; have := (hOA.base ad ha).1; omega)
        have z5 := hY5.cell d _ (byC_get hd6)
        have fz5 := hY5.fr d
        go_simp
        have hT3 : ∀ k, looks [(5, fun z => True), (11, fun z => True), (13, fun z => True), (17, fun z => True)] k (w5.setCell ⟨gy, d, none⟩ (.slice sa' ((bl d).length + 1) c')) := looks_all ⟨trivial, trivial, trivial, trivial, trivial⟩
        refine hK _ _ (looks [(5, fun z => True), (11, fun z => True), (13, fun z => True), (17, fun z => True)]) ⟨.inr (.inl (by kernel_rfl)), .inr (.inl (by kernel_rfl)), .inr (.inl (by kernel_rfl)), .inr (.inl (by kernel_rfl)), trivial⟩ hT3 ?_
        clear hK K
        try simp only [Act.put, List.setIfInBounds_toArray, List.set_cons_zero, List.set_cons_succ]
        refine wpF_done (by kernel_rfl) ?_ _
        have hxAK : Ext no wr wA := hxd0.comp hxK
        have hzAK := hxAK.size
        have hsto : Ext (just gy) w5 (w5.setCell ⟨gy, d, none⟩ (.slice sa' ((bl d).length + 1) c')) := Ext.setCell _ _ _ rfl
        have hY6 : Blk (w5.setCell ⟨gy, d, none⟩ (.slice sa' ((bl d).length + 1) c')) gy (byC (upd ba d sa') (fun e => (upd bl d (bl d ++ [x]) e).length) (upd bc d c')) := by
          have q := hY5.set d (.slice sa' ((bl d).length + 1) c') (by rw [byC_len]; exact hd6)
          rw [byC_set hd6] at q
          rw [show (fun e => (upd bl d (bl d ++ [x]) e).length) = upd (fun d => (bl d).length) d ((bl d).length + 1) by funext e; unfold upd; split; simp; rfl]
          exact q
        have hnb : ∀ e, e < 6 → e ≠ d → ∀ ad, ba e = some ad → ¬ blk (ba d) ad.block := by
          rintro e he hne ad ha ⟨bd, hb, e2⟩
          exact hAp e d he hd6 hne ad bd ha hb e2.symm
        have hO6 : ∀ e, e < 6 → Own (w5.setCell ⟨gy, d, none⟩ (.slice sa' ((bl d).length + 1) c')) B (upd ba d sa' e) 11 (upd bl d (bl d ++ [x]) e).length (upd bc d c' e) (rows OpW.cells (upd bl d (bl d ++ [x]) e)) := by
          intro e he
          by_cases hed : e = d
          · subst hed
            rw [upd_self, upd_self, upd_self, List.length_append, rows_append, rows_one]
            exact happ.own.ext hsto (fun ad ha e2 => by have e2 : ad.block = gy := e2; have := (happ.own.base ad ha).1; omega)
          · rw [upd_ne _ _ hed, upd_ne _ _ hed, upd_ne _ _ hed]
            exact (((hO e he).ext hxAK (fun _ _ h => h)).ext hxe (hnb e he hed)).ext hsto (fun ad ha e2 => by have e2 : ad.block = gy := e2; have := ((hO e he).base ad ha).1; omega)
        have hAp6 : ∀ e f, e < 6 → f < 6 → e ≠ f → Apart (upd ba d sa' e) (upd ba d sa' f) := by
          have key : ∀ f, f < 6 → f ≠ d → Apart sa' (ba f) := by
            intro f hf hfd ad bd ha hb
            rcases happ.loc with ⟨rfl, _⟩ | hfr
            · exact hAp d f hd6 hf (Ne.symm hfd) ad bd ha hb
            · have h1 := hfr ad ha
              have h2 := ((hO f hf).base bd hb).2.1
              omega
          intro e f he hf hef
          by_cases hed : e = d
          · subst hed
            rw [upd_self, upd_ne _ _ (Ne.symm hef)]
            exact key f hf (Ne.symm hef)
          · by_cases hfd : f = d
            · subst hfd
              rw [upd_self, upd_ne _ _ hed]
              exact (key e he hed).symm
            · rw [upd_ne _ _ hed, upd_ne _ _ hfd]
              exact hAp e f he hf hef
        have hbl6 : ∀ e, e < 6 → upd bl d (bl d ++ [x]) e = devW e (g.take (i + 1)) := by
          intro e he
          rw [show g.take (i + 1) = g.take i ++ [x] by rw [List.take_succ_eq_append_getElem hin, (List.getElem?_eq_some_iff.1 hxm).2], devW_snoc]
          have hdd := Hd.out
          by_cases hed : e = d
          · subst hed
            rw [upd_self, if_pos hdd, Hbl.out e he]
          · rw [upd_ne _ _ hed, if_neg (by rw [hdd]; omega), Hbl.out e he]
        have hx6 : Ext (upfrom gy) w2 (w5.setCell ⟨gy, d, none⟩ (.slice sa' ((bl d).length + 1) c')) := ((hx.comp hxAK.upN).comp (hxe.mono (fun k hk e2 => by obtain ⟨ad, ha, e3⟩ := e2; have := (hOA.base ad ha).1; show gy ≤ k; omega))).comp (hsto.upJ (Nat.le_refl _))
        have hz6 := hsto.size
        have hz5 := hxe.size
        clear q0 q1 q2 q3 q4 q5 q6 q7 q8 q9 q10 qd y0 z5 fz5 fyd
        generalize w5.setCell ⟨gy, d, none⟩ (.slice sa' ((bl d).length + 1) c') = w6 at *
        go_wp2_with fail
        go_roundw
        case rel => exact ⟨i + 1, upd ba d sa', upd bl d (bl d ++ [x]), upd bc d c', by go_num, by omega, hbl6, hY6, hO6, hAp6, hx6, by omega⟩
        case measure => simp [intOf]; omega
      · obtain rfl : i = g.length := by omega
        have d1 : decide (g.length < g.length) = false := decF (by omega)
        replace Hbl := Lib.hid (show ∀ d, d < 6 → bl d = devW d g by have := Hbl.out; rwa [List.take_length] at this)
        clear hin
        go_upto_region 12 with fail
        have h8_ := Blk.at wr #[.slice none 0 0, .slice none 0 0, .slice none 0 0, .slice none 0 0, .slice none 0 0, .slice none 0 0] 31 wr.heap.size rfl
        have hxb := Ext.alloc no wr (.cells #[.slice none 0 0, .slice none 0 0, .slice none 0 0, .slice none 0 0, .slice none 0 0, .slice none 0 0] 31)
        have h9 := Blk.at (wr.alloc (.cells #[.slice none 0 0, .slice none 0 0, .slice none 0 0, .slice none 0 0, .slice none 0 0, .slice none 0 0] 31)) #[.slice none 0 0, .slice none 0 0, .slice none 0 0, .slice none 0 0, .slice none 0 0, .slice none 0 0] 31 (wr.heap.size + 1) (by simp)
        have hxc := Ext.alloc no (wr.alloc (.cells #[.slice none 0 0, .slice none 0 0, .slice none 0 0, .slice none 0 0, .slice none 0 0, .slice none 0 0] 31)) (.cells #[.slice none 0 0, .slice none 0 0, .slice none 0 0, .slice none 0 0, .slice none 0 0, .slice none 0 0] 31)
        have h8 := h8_.ext (by simp) hxc (fun h => h)
        have hxbc := hxb.comp hxc
        have hY4 := hY.ext byC_ne hxbc (fun h => h)
        have hO4 : ∀ d, d < 6 → Rd _ (ba d) (rows OpW.cells (bl d)) := fun d hd => (hO d hd).rd.ext hxbc (fun _ _ h => h)
        have hbB : ∀ d, d < 6 → ∀ ad, ba d = some ad → B ≤ ad.block ∧ ad.block < wr.heap.size := fun d hd ad ha => ⟨((hO d hd).base ad ha).1, ((hO d hd).base ad ha).2.1⟩
        have hbn : ∀ d, d < 6 → (bl d).length ≤ bc d := fun d hd => (hO d hd).nc
        have hx4 := hx.comp (hxbc.upN)
        clear h8_ hxb hxc hxbc hY hO hx
        generalize (wr.alloc (.cells #[.slice none 0 0, .slice none 0 0, .slice none 0 0, .slice none 0 0, .slice none 0 0, .slice none 0 0] 31)).alloc (.cells #[.slice none 0 0, .slice none 0 0, .slice none 0 0, .slice none 0 0, .slice none 0 0, .slice none 0 0] 31) = w4 at *
        have hz9 := h9.lt (by simp)
        obtain ⟨g8, hg8⟩ : ∃ g8, g8 = wr.heap.size := ⟨_, rfl⟩
        rw [← hg8] at h8 h9 hbB hz hz9 ⊢
        clear hg8
        obtain ⟨g9, hg9⟩ : ∃ g9, g9 = g8 + 1 := ⟨_, rfl⟩
        rw [← hg9] at h9 hz9 ⊢
        have hg9a : g9 ≤ g8 + 1 := by omega
        have hg9b : g8 + 1 ≤ g9 := by omega
        clear hg9
        obtain ⟨B2, hB2'⟩ : ∃ B2, B2 = g9 + 1 := ⟨_, rfl⟩
        have hBa : B2 ≤ g9 + 1 := by omega
        have hBb : g9 + 1 ≤ B2 := by omega
        clear hB2'
        have hsix : sixDev (g.map OpW.o) := by
          intro o ho
          obtain ⟨x, hx, rfl⟩ := List.mem_map.1 ho
          exact (HG.out x hx).dev
        have hpk : Picked (g.map OpW.o) [] (fun d => (bl d).map OpW.o) := by
          have := Picked.begin hsix
          refine ⟨this.gd, this.ld, fun i hi => ?_⟩
          have h2 := this.eq i hi
          rw [Hbl.out i hi, devW_map]
          exact h2
        have hblg : ∀ d, d < 6 → ∀ x ∈ bl d, x ∈ g := fun d hd x hx => by rw [Hbl.out d hd] at hx; exact devW_mem hx
        have Hpk := Lib.hid hpk
        have Hblg := Lib.hid hblg
        clear hpk hblg hsix
        go_wp2_with fail
        go_loopw [10] (fun s10 wr => ∃ (i : Nat) (Lp : List OpR) (ba : Nat → Option Addr) (rem : Nat → List OpW) (bc : Nat → Nat) (ka kb : Six), s10 = .int .i64 i ∧ i ≤ g.length ∧ Lp.length = i ∧ Picked (g.map OpW.o) Lp (fun d => (rem d).map OpW.o) ∧ Blk wr gy (byC ba (fun d => (rem d).length) bc) ∧ (∀ d, d < 6 → Rd wr (ba d) (rows OpW.cells (rem d))) ∧ (∀ d, d < 6 → (rem d).length ≤ bc d) ∧ (∀ d, d < 6 → ∀ ad, ba d = some ad → B ≤ ad.block ∧ ad.block < g8) ∧ (∀ d, d < 6 → ∀ x ∈ rem d, x ∈ g) ∧ Mine (foldC CollR.nil ((g.map OpW.o).take i)) wr B2 ka ∧ Blk wr g8 [.slice ka.v (foldC CollR.nil ((g.map OpW.o).take i)).v.length ka.vc, .slice ka.r (foldC CollR.nil ((g.map OpW.o).take i)).regs.length ka.rc, .slice ka.e (foldC CollR.nil ((g.map OpW.o).take i)).elems.length ka.ec, .slice ka.g (foldC CollR.nil ((g.map OpW.o).take i)).gone.length ka.gc, .slice ka.s (foldC CollR.nil ((g.map OpW.o).take i)).sums.length ka.sc, .slice ka.b (foldC CollR.nil ((g.map OpW.o).take i)).binds.length ka.bc] ∧ Mine (foldC CollR.nil Lp) wr B2 kb ∧ Blk wr g9 [.slice kb.v (foldC CollR.nil Lp).v.length kb.vc, .slice kb.r (foldC CollR.nil Lp).regs.length kb.rc, .slice kb.e (foldC CollR.nil Lp).elems.length kb.ec, .slice kb.g (foldC CollR.nil Lp).gone.length kb.gc, .slice kb.s (foldC CollR.nil Lp).sums.length kb.sc, .slice kb.b (foldC CollR.nil Lp).binds.length kb.bc] ∧ Ext (fun k => k = gy ∨ g8 ≤ k) w4 wr ∧ B2 ≤ wr.heap.size) (fun s10 _ => g.length - (intOf s10).toNat)
        case atStart => exact ⟨0, [], ba, bl, bc, six0, six0, rfl, Nat.zero_le _, rfl, Hpk.out, hY4, hO4, hbn, hbB, Hblg.out, nil_mine _ _, h8, nil_mine _ _, h9, Ext.refl _ _, by omega⟩
        case round =>
          clear hY4 hO4 hbn hbB h8 h9 Hbl Hpk Hblg hAp
          obtain ⟨i, Lp, ba, rem, bc, ka, kb, rfl, hig, hLi, hpk, hY, hRr, hRn, hRb, hRg, hma, hA, hmb, hBx, hxl, hzl⟩ := hrel
          have HLi := Lib.hid hLi
          have HRg := Lib.hid hRg
          clear hLi hRg
          have hsa := foldC_small ((g.map OpW.o).take i) CollR.small_nil
          have hsb := foldC_small Lp CollR.small_nil
          have hta : ((g.map OpW.o).take i).length ≤ 60 := by rw [List.length_take, List.length_map]; omega
          have hSA := hsa.mono (show 0 + 8 * ((g.map OpW.o).take i).length ≤ 1099511627000 by omega)
          have hSB := hsb.mono (show 0 + 8 * Lp.length ≤ 1099511627000 by have := HLi.out; omega)
          have hfa := (foldC_fine CollR.fine_nil ((g.map OpW.o).take i)).ok
          have hfb := (foldC_fine CollR.fine_nil Lp).ok
          clear hsa hsb hta
          by_cases hin : i < g.length
          · have d1 : decide (i < g.length) = true := decT hin
            obtain ⟨x, hxm⟩ : ∃ x, g[i]? = some x := ⟨_, List.getElem?_eq_getElem hin⟩
            have hxg := List.mem_of_getElem? hxm
            have hsh := HG.out x hxg
            have hhe : Ext no w2 w2 := Ext.refl _ _
            have hgx : x.good wr := ((Hgg.out x hxg).up hx4 hgy2).upS hxl (Hgg.out x hxg).lt hgy2 (by omega)
            obtain ⟨b, off, rfl, hbw⟩ := rows_shape kOp (by omega) hgr (by omega)
            have hrr : Rd wr (some ⟨b, off, none⟩) (rows OpW.cells g) := (hgr.ext hx4 (fun ad ha e => by cases ha; have e : gy ≤ b := e; omega)).ext hxl (fun ad ha e => by cases ha; have e : b = gy ∨ g8 ≤ b := e; omega)
            have htk : (g.map OpW.o).take (i + 1) = (g.map OpW.o).take i ++ [x.o] := by
              rw [List.take_succ_eq_append_getElem (by simpa using hin)]
              congr 2
              rw [List.getElem_map, (List.getElem?_eq_some_iff.1 hxm).2]
            obtain ⟨CA, hCA⟩ : ∃ CA, CA = foldC CollR.nil ((g.map OpW.o).take i) := ⟨_, rfl⟩
            have herr : applyErr CA x.o = 0 := by
              rw [hCA]
              refine runs_last ?_
              rw [← htk]
              have h0 := Hrun.out
              rw [← List.take_append_drop (i + 1) (g.map OpW.o)] at h0
              exact (runs_append.1 h0).1
            obtain ⟨CA2, hCA2⟩ : ∃ CA2, CA2 = applyC CA x.o := ⟨_, rfl⟩
            have HCA2 := Lib.hid (show CA2 = foldC CollR.nil ((g.map OpW.o).take (i + 1)) by rw [htk, foldC_snoc, ← hCA, hCA2])
            have HC2 := Lib.hid hCA2.symm
            have Herr := Lib.hid herr
            rw [← hCA] at hma hA hSA hfa
            clear hCA hCA2 herr htk
            obtain ⟨CB, hCB⟩ : ∃ CB, CB = foldC CollR.nil Lp := ⟨_, rfl⟩
            rw [← hCB] at hmb hBx hSB hfb
            have HCB := Lib.hid hCB
            have Hpk := Lib.hid hpk
            clear hCB hpk
            have hkk := hsh.key
            have hkt := hsh.text
            have hkd := hsh.dots
            go_upto_region 15 with fail
            have q0 : wr.cell? ⟨b, off + i * 11, none⟩ = some (.int .i64 x.o.dot.dev) := rows_cell kOp hrr hxm 0 _ rfl
            have q1 : wr.cell? ⟨b, off + i * 11 + 1, none⟩ = some (.int .i64 x.o.dot.ep) := rows_cell kOp hrr hxm 1 _ rfl
            have q2 : wr.cell? ⟨b, off + i * 11 + 2, none⟩ = some (.int .i64 x.o.dot.seq) := rows_cell kOp hrr hxm 2 _ rfl
            have q3 : wr.cell? ⟨b, off + i * 11 + 3, none⟩ = some (.int .i64 x.o.coll) := rows_cell kOp hrr hxm 3 _ rfl
            have q4 : wr.cell? ⟨b, off + i * 11 + 4, none⟩ = some (.int .i64 x.o.ver) := rows_cell kOp hrr hxm 4 _ rfl
            have q5 : wr.cell? ⟨b, off + i * 11 + 5, none⟩ = some (.int .i64 x.o.kind) := rows_cell kOp hrr hxm 5 _ rfl
            have q6 : wr.cell? ⟨b, off + i * 11 + 6, none⟩ = some (.string (str x.o.key)) := rows_cell kOp hrr hxm 6 _ rfl
            have q7 : wr.cell? ⟨b, off + i * 11 + 7, none⟩ = some (.string (str x.o.text)) := rows_cell kOp hrr hxm 7 _ rfl
            have q8 : wr.cell? ⟨b, off + i * 11 + 8, none⟩ = some (.int .i64 x.o.n) := rows_cell kOp hrr hxm 8 _ rfl
            have q9 : wr.cell? ⟨b, off + i * 11 + 9, none⟩ = some (.int .i64 x.o.time) := rows_cell kOp hrr hxm 9 _ rfl
            have q10 : wr.cell? ⟨b, off + i * 11 + 10, none⟩ = some (.slice x.a x.o.dots.length x.c) := rows_cell kOp hrr hxm 10 _ rfl
            have c0 := hA.cell 0 _ rfl
            have c1 := hA.cell 1 _ rfl
            have c2 := hA.cell 2 _ rfl
            have c3 := hA.cell 3 _ rfl
            have c4 := hA.cell 4 _ rfl
            have c5 := hA.cell 5 _ rfl
            go_cut [11, 12] (fun s11 s12 wx => ∃ (xb : Nat) (k2 : Six), s11 = .pointer (some ⟨xb, 0, none⟩) ∧ s12 = .int .i64 0 ∧ Mine CA2 wx B2 k2 ∧ Blk wx xb [.slice k2.v CA2.v.length k2.vc, .slice k2.r CA2.regs.length k2.rc, .slice k2.e CA2.elems.length k2.ec, .slice k2.g CA2.gone.length k2.gc, .slice k2.s CA2.sums.length k2.sc, .slice k2.b CA2.binds.length k2.bc] ∧ Ext no wr wx ∧ wr.heap.size ≤ xb)
            case first =>
              refine wp_region_F [0, 4] (looks [(0, fun z => Ext no wr z), (4, fun z => Ext no wr z)]) (by kernel_rfl) ?_
              have hxd0 := Ext.drew no wr
              generalize wr.drew = wd at *
              have hT0 : ∀ k, looks [(0, fun z => Ext no wr z), (4, fun z => Ext no wr z)] k (wd) := looks_all ⟨hxd0, hxd0, trivial⟩
              refine wpF_look 0 (v := .agg #[.slice ka.v CA.v.length ka.vc, .slice ka.r CA.regs.length ka.rc, .slice ka.e CA.elems.length ka.ec, .slice ka.g CA.gone.length ka.gc, .slice ka.s CA.sums.length ka.sc, .slice ka.b CA.binds.length ka.bc]) rfl rfl (by kernel_rfl) (by kernel_rfl) (by kernel_rfl) (by kernel_rfl) (fun _ _ _ h => h) hT0 (by rfl) (fun w hS => by have hS : Ext no wr w := hS; have q0 := hS.keeps c0 (fun h => h); have q1 := hS.keeps c1 (fun h => h); have q2 := hS.keeps c2 (fun h => h); have q3 := hS.keeps c3 (fun h => h); have q4 := hS.keeps c4 (fun h => h); have q5 := hS.keeps c5 (fun h => h); go_simp) ?_
              simp only [Act.put, List.setIfInBounds_toArray, List.set_cons_zero, List.set_cons_succ]
              refine wpF_take 1 (v := ?_) rfl (by kernel_rfl) (by kernel_rfl) (by kernel_rfl) (fun _ _ _ h => h) hT0 (by rfl) ?_ ?_
              rotate_left
              · (intro wq; go_simp; try with_reducible rfl)
              simp only [Act.put, List.setIfInBounds_toArray, List.set_cons_zero, List.set_cons_succ]
              refine wpF_take 2 (v := ?_) rfl (by kernel_rfl) (by kernel_rfl) (by kernel_rfl) (fun _ _ _ h => h) hT0 (by rfl) ?_ ?_
              rotate_left
              · (intro wq; go_simp; try with_reducible rfl)
              simp only [Act.put, List.setIfInBounds_toArray, List.set_cons_zero, List.set_cons_succ]
              refine wpF_take 3 (v := .pointer (some ⟨b, off + i * 11, none⟩)) rfl (by kernel_rfl) (by kernel_rfl) (by kernel_rfl) (fun _ _ _ h => h) hT0 (by rfl) (by intro wq; go_simp) ?_
              simp only [Act.put, List.setIfInBounds_toArray, List.set_cons_zero, List.set_cons_succ]
              refine wpF_look 4 (v := .agg #[.int .i64 x.o.dot.dev, .int .i64 x.o.dot.ep, .int .i64 x.o.dot.seq, .int .i64 x.o.coll, .int .i64 x.o.ver, .int .i64 x.o.kind, .string (str x.o.key), .string (str x.o.text), .int .i64 x.o.n, .int .i64 x.o.time, .slice x.a x.o.dots.length x.c]) rfl rfl (by kernel_rfl) (by kernel_rfl) (by kernel_rfl) (by kernel_rfl) (fun _ _ _ h => h) hT0 (by rfl) (fun w hS => by have hS : Ext no wr w := hS; have q20 := hS.keeps q0 (fun h => h); have q21 := hS.keeps q1 (fun h => h); have q22 := hS.keeps q2 (fun h => h); have q23 := hS.keeps q3 (fun h => h); have q24 := hS.keeps q4 (fun h => h); have q25 := hS.keeps q5 (fun h => h); have q26 := hS.keeps q6 (fun h => h); have q27 := hS.keeps q7 (fun h => h); have q28 := hS.keeps q8 (fun h => h); have q29 := hS.keeps q9 (fun h => h); have q30 := hS.keeps q10 (fun h => h); go_simp) ?_
              simp only [Act.put, List.setIfInBounds_toArray, List.set_cons_zero, List.set_cons_succ]
              refine wpF_execs [5, 9] (by kernel_rfl) (by simp) ?_
              intro j hj
              simp only [List.mem_cons, List.not_mem_nil, or_false] at hj
              rcases hj with rfl | rfl
              · refine ⟨_, rfl, by rfl, ?_⟩
                intro K hK
                go_simp
                refine (apply_any (wd) CA ka (x.o) x.a x.c (hma.isIn.ext (hxd0)) hSA hfa (hgx.rd.ext (hxd0) (fun _ _ h => h)) (by omega) (by unfold maxLen; omega) (by unfold maxLen; omega)).mono ?_
                rintro e wB ⟨k2, rfl, hmB, hxB⟩
                rw [HC2.out] at hmB ⊢
                rw [Herr.out]
                unfold CollR.val
                have hzB := hxB.size
                have hzW := (show Ext no wr (wd) from hxd0).size
                have hT1 : ∀ k, looks [(0, fun z => Ext no wr z), (4, fun z => Ext no wr z)] k (wB) := looks_all ⟨(hxd0).comp hxB, (hxd0).comp hxB, trivial⟩
                refine hK _ _ (looks [(0, fun z => Ext no wr z), (4, fun z => Ext no wr z)]) ⟨.inr (.inl (by kernel_rfl)), .inr (.inl (by kernel_rfl)), trivial⟩ hT1 ?_
                clear hK K
                try simp only [Act.put, List.setIfInBounds_toArray, List.set_cons_zero, List.set_cons_succ]
                refine wpF_take 6 (v := ?_) rfl (by kernel_rfl) (by kernel_rfl) (by kernel_rfl) (fun _ _ _ h => h) hT1 (by rfl) ?_ ?_
                rotate_left
                · (intro wq; go_simp; try with_reducible rfl)
                simp only [Act.put, List.setIfInBounds_toArray, List.set_cons_zero, List.set_cons_succ]
                refine wpF_take 7 (v := ?_) rfl (by kernel_rfl) (by kernel_rfl) (by kernel_rfl) (fun _ _ _ h => h) hT1 (by rfl) ?_ ?_
                rotate_left
                · (intro wq; go_simp; try with_reducible rfl)
                simp only [Act.put, List.setIfInBounds_toArray, List.set_cons_zero, List.set_cons_succ]
                refine wpF_take 8 (v := ?_) rfl (by kernel_rfl) (by kernel_rfl) (by kernel_rfl) (fun _ _ _ h => h) hT1 (by rfl) ?_ ?_
                rotate_left
                · (intro wq; go_simp; try with_reducible rfl)
                simp only [Act.put, List.setIfInBounds_toArray, List.set_cons_zero, List.set_cons_succ]
                refine wpF_exec 9 rfl (by kernel_rfl) (by rfl) ?_
                intro K hK
                go_simp
                have hXb := Blk.at (wB) #[.slice none 0 0, .slice none 0 0, .slice none 0 0, .slice none 0 0, .slice none 0 0, .slice none 0 0] 31 (wB.heap.size) rfl
                have hxX := Ext.alloc no (wB) (.cells #[.slice none 0 0, .slice none 0 0, .slice none 0 0, .slice none 0 0, .slice none 0 0, .slice none 0 0] 31)
                obtain ⟨xb, hxbe⟩ : ∃ xb, xb = wB.heap.size := ⟨_, rfl⟩
                have hxL : wB.heap.size ≤ xb := by omega
                have hxU : xb ≤ wB.heap.size := by omega
                have hxW : wr.heap.size ≤ xb := by have := (show Ext no wr (wB) from (hxd0).comp hxB).size; have e : (wB).heap.size = wB.heap.size := rfl; omega
                rw [← hxbe] at hXb ⊢
                generalize (wB).alloc (.cells #[.slice none 0 0, .slice none 0 0, .slice none 0 0, .slice none 0 0, .slice none 0 0, .slice none 0 0] 31) = wX at *
                clear hxbe
                have hzX := hXb.lt (by simp)
                have hT2 : ∀ k, looks [(0, fun z => Ext no wr z), (4, fun z => Ext no wr z)] k (wX) := looks_all ⟨((hxd0).comp hxB).comp hxX, ((hxd0).comp hxB).comp hxX, trivial⟩
                refine hK _ _ (looks [(0, fun z => Ext no wr z), (4, fun z => Ext no wr z)]) ⟨.inr (.inr (fun x h => h)), .inr (.inr (fun x h => h)), trivial⟩ hT2 ?_
                clear hK K
                try simp only [Act.put, List.setIfInBounds_toArray, List.set_cons_zero, List.set_cons_succ]
                refine wpF_exec 10 rfl (by kernel_rfl) (by rfl) ?_
                intro K hK
                have z0 := hXb.cell 0 _ rfl
                have z1 := hXb.cell 1 _ rfl
                have z2 := hXb.cell 2 _ rfl
                have z3 := hXb.cell 3 _ rfl
                have z4 := hXb.cell 4 _ rfl
                have z5 := hXb.cell 5 _ rfl
                have f0 := hXb.fr 0
                have f1 := hXb.fr 1
                have f2 := hXb.fr 2
                have f3 := hXb.fr 3
                have f4 := hXb.fr 4
                have f5 := hXb.fr 5
                go_simp
                have hbE := ((((((hXb.set 0 (.slice k2.v CA2.v.length k2.vc) (by simp)).set 1 (.slice k2.r CA2.regs.length k2.rc) (by simp)).set 2 (.slice k2.e CA2.elems.length k2.ec) (by simp)).set 3 (.slice k2.g CA2.gone.length k2.gc) (by simp)).set 4 (.slice k2.s CA2.sums.length k2.sc) (by simp)).set 5 (.slice k2.b CA2.binds.length k2.bc) (by simp))
                have hxE := (((((Ext.setCell (S := just xb) (wX) ⟨xb, 0, none⟩ (.slice k2.v CA2.v.length k2.vc) rfl).comp (Ext.setCell _ ⟨xb, 1, none⟩ (.slice k2.r CA2.regs.length k2.rc) rfl)).comp (Ext.setCell _ ⟨xb, 2, none⟩ (.slice k2.e CA2.elems.length k2.ec) rfl)).comp (Ext.setCell _ ⟨xb, 3, none⟩ (.slice k2.g CA2.gone.length k2.gc) rfl)).comp (Ext.setCell _ ⟨xb, 4, none⟩ (.slice k2.s CA2.sums.length k2.sc) rfl)).comp (Ext.setCell _ ⟨xb, 5, none⟩ (.slice k2.b CA2.binds.length k2.bc) rfl)
                clear z0 f0 z1 f1 z2 f2 z3 f3 z4 f4 z5 f5
                generalize ((((((wX).setCell ⟨xb, 0, none⟩ (.slice k2.v CA2.v.length k2.vc)).setCell ⟨xb, 1, none⟩ (.slice k2.r CA2.regs.length k2.rc)).setCell ⟨xb, 2, none⟩ (.slice k2.e CA2.elems.length k2.ec)).setCell ⟨xb, 3, none⟩ (.slice k2.g CA2.gone.length k2.gc)).setCell ⟨xb, 4, none⟩ (.slice k2.s CA2.sums.length k2.sc)).setCell ⟨xb, 5, none⟩ (.slice k2.b CA2.binds.length k2.bc) = wE at *
                have hmE : Mine CA2 wE B2 k2 := ((hmB.no hxX).ext hxE (fun i ad hi e => by have e : ad.block = xb := e; have := hmB.base i ad hi; omega)).mono (by omega)
                have hxF : Ext no wr wE := (((hxd0).comp hxB).comp hxX).trans hxE (fun k hk e => by have e : k = xb := e; omega)
                have hT3 : ∀ k, looks [(0, fun z => True), (4, fun z => True)] k (wE) := looks_all ⟨trivial, trivial, trivial⟩
                refine hK _ _ (looks [(0, fun z => True), (4, fun z => True)]) ⟨.inr (.inl (by kernel_rfl)), .inr (.inl (by kernel_rfl)), trivial⟩ hT3 ?_
                clear hK K
                try simp only [Act.put, List.setIfInBounds_toArray, List.set_cons_zero, List.set_cons_succ]
                refine wpF_take 11 (v := ?_) rfl (by kernel_rfl) (by kernel_rfl) (by kernel_rfl) (fun _ _ _ h => h) hT3 (by rfl) ?_ ?_
                rotate_left
                · (intro wq; go_simp; try with_reducible rfl)
                simp only [Act.put, List.setIfInBounds_toArray, List.set_cons_zero, List.set_cons_succ]
                refine wpF_done (by kernel_rfl) ?_ _
                go_wp2_with fail
                go_meet
                exact ⟨xb, k2, rfl, rfl, hmE, hbE, hxF, hxW⟩
              · refine ⟨_, rfl, by rfl, ?_⟩
                intro K hK
                go_simp
                have hXb := Blk.at (wd) #[.slice none 0 0, .slice none 0 0, .slice none 0 0, .slice none 0 0, .slice none 0 0, .slice none 0 0] 31 (wd.heap.size) rfl
                have hxX := Ext.alloc no (wd) (.cells #[.slice none 0 0, .slice none 0 0, .slice none 0 0, .slice none 0 0, .slice none 0 0, .slice none 0 0] 31)
                obtain ⟨xb, hxbe⟩ : ∃ xb, xb = wd.heap.size := ⟨_, rfl⟩
                have hxL : wd.heap.size ≤ xb := by omega
                have hxU : xb ≤ wd.heap.size := by omega
                have hxW : wr.heap.size ≤ xb := by have := (show Ext no wr (wd) from hxd0).size; have e : (wd).heap.size = wd.heap.size := rfl; omega
                rw [← hxbe] at hXb ⊢
                generalize (wd).alloc (.cells #[.slice none 0 0, .slice none 0 0, .slice none 0 0, .slice none 0 0, .slice none 0 0, .slice none 0 0] 31) = wX at *
                clear hxbe
                have hzX := hXb.lt (by simp)
                have hT1 : ∀ k, looks [(0, fun z => Ext no wr z), (4, fun z => Ext no wr z)] k (wX) := looks_all ⟨(hxd0).comp hxX, (hxd0).comp hxX, trivial⟩
                refine hK _ _ (looks [(0, fun z => Ext no wr z), (4, fun z => Ext no wr z)]) ⟨.inr (.inr (fun x h => h)), .inr (.inr (fun x h => h)), trivial⟩ hT1 ?_
                clear hK K
                try simp only [Act.put, List.setIfInBounds_toArray, List.set_cons_zero, List.set_cons_succ]
                refine wpF_exec 5 rfl (by kernel_rfl) (by rfl) ?_
                intro K hK
                go_simp
                refine (apply_any (wX) CA ka (x.o) x.a x.c (hma.isIn.ext ((hxd0).comp hxX)) hSA hfa (hgx.rd.ext ((hxd0).comp hxX) (fun _ _ h => h)) (by omega) (by unfold maxLen; omega) (by unfold maxLen; omega)).mono ?_
                rintro e wB ⟨k2, rfl, hmB, hxB⟩
                rw [HC2.out] at hmB ⊢
                rw [Herr.out]
                unfold CollR.val
                have hzB := hxB.size
                have hzW := (show Ext no wr (wX) from (hxd0).comp hxX).size
                have hXc := hXb.ext (by simp) hxB (fun h => h)
                have hT2 : ∀ k, looks [(0, fun z => Ext no wr z), (4, fun z => Ext no wr z)] k (wB) := looks_all ⟨((hxd0).comp hxX).comp hxB, ((hxd0).comp hxX).comp hxB, trivial⟩
                refine hK _ _ (looks [(0, fun z => Ext no wr z), (4, fun z => Ext no wr z)]) ⟨.inr (.inl (by kernel_rfl)), .inr (.inl (by kernel_rfl)), trivial⟩ hT2 ?_
                clear hK K
                try simp only [Act.put, List.setIfInBounds_toArray, List.set_cons_zero, List.set_cons_succ]
                refine wpF_take 6 (v := ?_) rfl (by kernel_rfl) (by kernel_rfl) (by kernel_rfl) (fun _ _ _ h => h) hT2 (by rfl) ?_ ?_
                rotate_left
                · (intro wq; go_simp; try with_reducible rfl)
                simp only [Act.put, List.setIfInBounds_toArray, List.set_cons_zero, List.set_cons_succ]
                refine wpF_take 7 (v := ?_) rfl (by kernel_rfl) (by kernel_rfl) (by kernel_rfl) (fun _ _ _ h => h) hT2 (by rfl) ?_ ?_
                rotate_left
                · (intro wq; go_simp; try with_reducible rfl)
                simp only [Act.put, List.setIfInBounds_toArray, List.set_cons_zero, List.set_cons_succ]
                refine wpF_take 8 (v := ?_) rfl (by kernel_rfl) (by kernel_rfl) (by kernel_rfl) (fun _ _ _ h => h) hT2 (by rfl) ?_ ?_
                rotate_left
                · (intro wq; go_simp; try with_reducible rfl)
                simp only [Act.put, List.setIfInBounds_toArray, List.set_cons_zero, List.set_cons_succ]
                refine wpF_exec 10 rfl (by kernel_rfl) (by rfl) ?_
                intro K hK
                have z0 := hXc.cell 0 _ rfl
                have z1 := hXc.cell 1 _ rfl
                have z2 := hXc.cell 2 _ rfl
                have z3 := hXc.cell 3 _ rfl
                have z4 := hXc.cell 4 _ rfl
                have z5 := hXc.cell 5 _ rfl
                have f0 := hXc.fr 0
                have f1 := hXc.fr 1
                have f2 := hXc.fr 2
                have f3 := hXc.fr 3
                have f4 := hXc.fr 4
                have f5 := hXc.fr 5
                go_simp
                have hbE := ((((((hXc.set 0 (.slice k2.v CA2.v.length k2.vc) (by simp)).set 1 (.slice k2.r CA2.regs.length k2.rc) (by simp)).set 2 (.slice k2.e CA2.elems.length k2.ec) (by simp)).set 3 (.slice k2.g CA2.gone.length k2.gc) (by simp)).set 4 (.slice k2.s CA2.sums.length k2.sc) (by simp)).set 5 (.slice k2.b CA2.binds.length k2.bc) (by simp))
                have hxE := (((((Ext.setCell (S := just xb) (wB) ⟨xb, 0, none⟩ (.slice k2.v CA2.v.length k2.vc) rfl).comp (Ext.setCell _ ⟨xb, 1, none⟩ (.slice k2.r CA2.regs.length k2.rc) rfl)).comp (Ext.setCell _ ⟨xb, 2, none⟩ (.slice k2.e CA2.elems.length k2.ec) rfl)).comp (Ext.setCell _ ⟨xb, 3, none⟩ (.slice k2.g CA2.gone.length k2.gc) rfl)).comp (Ext.setCell _ ⟨xb, 4, none⟩ (.slice k2.s CA2.sums.length k2.sc) rfl)).comp (Ext.setCell _ ⟨xb, 5, none⟩ (.slice k2.b CA2.binds.length k2.bc) rfl)
                clear z0 f0 z1 f1 z2 f2 z3 f3 z4 f4 z5 f5
                generalize ((((((wB).setCell ⟨xb, 0, none⟩ (.slice k2.v CA2.v.length k2.vc)).setCell ⟨xb, 1, none⟩ (.slice k2.r CA2.regs.length k2.rc)).setCell ⟨xb, 2, none⟩ (.slice k2.e CA2.elems.length k2.ec)).setCell ⟨xb, 3, none⟩ (.slice k2.g CA2.gone.length k2.gc)).setCell ⟨xb, 4, none⟩ (.slice k2.s CA2.sums.length k2.sc)).setCell ⟨xb, 5, none⟩ (.slice k2.b CA2.binds.length k2.bc) = wE at *
                have hmE : Mine CA2 wE B2 k2 := (hmB.ext hxE (fun i ad hi e => by have e : ad.block = xb := e; have := hmB.base i ad hi; omega)).mono (by omega)
                have hxF : Ext no wr wE := (((hxd0).comp hxX).comp hxB).trans hxE (fun k hk e => by have e : k = xb := e; omega)
                have hT3 : ∀ k, looks [(0, fun z => True), (4, fun z => True)] k (wE) := looks_all ⟨trivial, trivial, trivial⟩
                refine hK _ _ (looks [(0, fun z => True), (4, fun z => True)]) ⟨.inr (.inl (by kernel_rfl)), .inr (.inl (by kernel_rfl)), trivial⟩ hT3 ?_
                clear hK K
                try simp only [Act.put, List.setIfInBounds_toArray, List.set_cons_zero, List.set_cons_succ]
                refine wpF_take 11 (v := ?_) rfl (by kernel_rfl) (by kernel_rfl) (by kernel_rfl) (fun _ _ _ h => h) hT3 (by rfl) ?_ ?_
                rotate_left
                · (intro wq; go_simp; try with_reducible rfl)
                simp only [Act.put, List.setIfInBounds_toArray, List.set_cons_zero, List.set_cons_succ]
                refine wpF_done (by kernel_rfl) ?_ _
                go_wp2_with fail
                go_meet
                exact ⟨xb, k2, rfl, rfl, hmE, hbE, hxF, hxW⟩
            case rest =>
              obtain ⟨xb, k2, rfl, rfl, hm5, hX5, hx5, hxbw⟩ := hcut
              clear q0 q1 q2 q3 q4 q5 q6 q7 q8 q9 q10 c0 c1 c2 c3 c4 c5
              have hA5 := hA.ext (by simp) hx5 (fun h => h)
              have hB5 := hBx.ext (by simp) hx5 (fun h => h)
              have hY5 := hY.ext byC_ne hx5 (fun h => h)
              have hmb5 := hmb.no hx5
              have hRr5 : ∀ d, d < 6 → Rd wc (ba d) (rows OpW.cells (rem d)) := fun d hd => (hRr d hd).ext hx5 (fun _ _ h => h)
              have hxl5 := hxl.comp (hx5.mono (fun _ _ h => absurd h (fun h => h)))
              have hz5 := hx5.size
              clear hA hBx hY hmb hRr hxl hx5 hma hrr hgx Herr HC2 hkk hkt hkd
              have x0 := hX5.cell 0 _ rfl
              have x1 := hX5.cell 1 _ rfl
              have x2 := hX5.cell 2 _ rfl
              have x3 := hX5.cell 3 _ rfl
              have x4 := hX5.cell 4 _ rfl
              have x5 := hX5.cell 5 _ rfl
              have c0 := hA5.cell 0 _ rfl
              have c1 := hA5.cell 1 _ rfl
              have c2 := hA5.cell 2 _ rfl
              have c3 := hA5.cell 3 _ rfl
              have c4 := hA5.cell 4 _ rfl
              have c5 := hA5.cell 5 _ rfl
              have f0 := hA5.fr 0
              have f1 := hA5.fr 1
              have f2 := hA5.fr 2
              have f3 := hA5.fr 3
              have f4 := hA5.fr 4
              have f5 := hA5.fr 5
              go_upto_region 19 with fail
              have hA6 := ((((((hA5.set 0 (.slice k2.v CA2.v.length k2.vc) (by simp)).set 1 (.slice k2.r CA2.regs.length k2.rc) (by simp)).set 2 (.slice k2.e CA2.elems.length k2.ec) (by simp)).set 3 (.slice k2.g CA2.gone.length k2.gc) (by simp)).set 4 (.slice k2.s CA2.sums.length k2.sc) (by simp)).set 5 (.slice k2.b CA2.binds.length k2.bc) (by simp))
              have hxs := (((((Ext.setCell (S := just g8) wc ⟨g8, 0, none⟩ (.slice k2.v CA2.v.length k2.vc) rfl).comp (Ext.setCell _ ⟨g8, 1, none⟩ (.slice k2.r CA2.regs.length k2.rc) rfl)).comp (Ext.setCell _ ⟨g8, 2, none⟩ (.slice k2.e CA2.elems.length k2.ec) rfl)).comp (Ext.setCell _ ⟨g8, 3, none⟩ (.slice k2.g CA2.gone.length k2.gc) rfl)).comp (Ext.setCell _ ⟨g8, 4, none⟩ (.slice k2.s CA2.sums.length k2.sc) rfl)).comp (Ext.setCell _ ⟨g8, 5, none⟩ (.slice k2.b CA2.binds.length k2.bc) rfl)
              have hY6 := hY5.ext (byC_ne) hxs (fun e => by have e : gy = g8 := e; omega)
              have hB6 := hB5.ext (by simp) hxs (fun e => by have e : g9 = g8 := e; omega)
              have hma6 := hm5.ext hxs (fun i ad hi e => by have e : ad.block = g8 := e; have := hm5.base i ad hi; omega)
              have hxl6 := hxl5.comp (hxs.mono (fun k hk e => by have e : k = g8 := e; exact .inr (by omega)))
              have hz6 := hxs.size
              have hmb6 := hmb5.ext hxs (fun i ad hi e => by have e : ad.block = g8 := e; have := hmb5.base i ad hi; omega)
              have hRr6 : ∀ d, d < 6 → Rd _ (ba d) (rows OpW.cells (rem d)) := fun d hd => (hRr5 d hd).ext hxs (fun ad ha e => by have e : ad.block = g8 := e; have := hRb d hd ad ha; omega)
              clear hxs hA5 hm5 hX5 hxl5 x0 c0 f0 x1 c1 f1 x2 c2 f2 x3 c3 f3 x4 c4 f4 x5 c5 f5
              generalize (((((wc.setCell ⟨g8, 0, none⟩ (.slice k2.v CA2.v.length k2.vc)).setCell ⟨g8, 1, none⟩ (.slice k2.r CA2.regs.length k2.rc)).setCell ⟨g8, 2, none⟩ (.slice k2.e CA2.elems.length k2.ec)).setCell ⟨g8, 3, none⟩ (.slice k2.g CA2.gone.length k2.gc)).setCell ⟨g8, 4, none⟩ (.slice k2.s CA2.sums.length k2.sc)).setCell ⟨g8, 5, none⟩ (.slice k2.b CA2.binds.length k2.bc) = w6 at *
              clear hY5 hB5 hmb5 hRr5
              go_upto_if 74 with fail
              go_cut [13] (fun s13 wx => ∃ k0 : Nat, s13 = .int .i64 k0 ∧ k0 ≤ 60 ∧ wx = w6)
              case first =>
                by_cases hip : i < ps.length
                · have e1 : decide (i < ps.length) = true := decT hip
                  obtain ⟨v, hv⟩ : ∃ v, ps[i]? = some v := ⟨_, List.getElem?_eq_getElem hip⟩
                  have hvok := Hpok.out v (List.mem_of_getElem? hv)
                  obtain ⟨pad, rfl, hpw⟩ := hpr.ne (by simp; omega)
                  have hszw := hxx.size
                  have hkv : w6.cell? (pad.add i) = some (.int .i64 v) := hxl6.keeps (hx4.keeps (hxx.keeps (hpr.get (j := i) (v := .int .i64 v) (by simp [is, I64, hv])) (fun h => h)) (fun e => by have e : gy ≤ (pad.add i).block := e; rw [add_block] at e; omega)) (fun e => by have e : (pad.add i).block = gy ∨ g8 ≤ (pad.add i).block := e; rw [add_block] at e; omega)
                  clear hv
                  go_wp2_with fail
                  refine (cowithin_any v 6 w6 (by omega) (by omega) hvok).mono ?_
                  rintro e wz ⟨rfl, rfl⟩
                  obtain ⟨k0, hk0⟩ : ∃ k0 : Nat, v % 6 = k0 := ⟨(v % 6).toNat, by omega⟩
                  have hk6 : k0 ≤ 60 := by omega
                  rw [hk0]
                  clear hk0
                  go_wp2_with fail
                  go_meet
                  exact ⟨k0, rfl, hk6, rfl⟩
                · have e1 : decide (i < ps.length) = false := decF hip
                  go_wp2_with fail
                  go_meet
                  exact ⟨i, rfl, by omega, rfl⟩
              case rest =>
                obtain ⟨k0, rfl, hk0, rfl⟩ := hcut
                obtain ⟨j, hj1, hj2, hj3⟩ := Hpk.out.some (by rw [List.length_map, HLi.out]; exact hin) k0
                have hrj : rem (j % 6) ≠ [] := fun e => hj3 (by rw [e]; rfl)
                have Hrj := Lib.hid hrj
                clear hj3 hrj
                go_wp2_with fail
                go_loopw [13] (fun s13 wr => ∃ kk : Nat, s13 = .int .i64 kk ∧ kk ≤ j ∧ wr = wc) (fun s13 _ => j - (intOf s13).toNat)
                case atStart => exact ⟨k0, rfl, hj1, rfl⟩
                case round =>
                  obtain ⟨kk, rfl, hkj, rfl⟩ := hrel
                  obtain ⟨d, hd⟩ : ∃ d, d = kk % 6 := ⟨_, rfl⟩
                  have hd6 : d < 6 := by omega
                  have htm : (kk : Int).tmod 6 = d := by rw [hd, Int.tmod_eq_emod_of_nonneg (by omega)]; omega
                  have y0 := hY6.cell d _ (byC_get hd6)
                  by_cases hre : rem d = []
                  · have hl0 : (rem d).length = 0 := by rw [hre]; rfl
                    have hne : kk ≠ j := fun e => Hrj.out (by rw [← e, ← hd]; exact hre)
                    have t0 : (((rem d).length : Int) == 0) = true := by rw [beq_iff_eq]; omega
                    clear hd hre hl0
                    go_wp2_with fail
                    go_roundw
                    case rel => exact ⟨kk + 1, by go_num, by omega, by first | rfl | trivial⟩
                    case measure => simp [intOf]; omega
                  · obtain ⟨y, R, hyR⟩ : ∃ y R, rem d = y :: R := List.exists_cons_of_ne_nil hre
                    have hl1 : 0 < (rem d).length := by rw [hyR]; simp
                    have HlR := Lib.hid (show (rem d).length - 1 = R.length by rw [hyR]; simp)
                    have hld : (rem d).length ≤ bc d := hRn d hd6
                    have t0 : (((rem d).length : Int) == 0) = false := by rw [beq_eq_false_iff_ne]; omega
                    obtain ⟨rb, ro, hba, _⟩ := rows_shape kOp (by omega) (hRr6 d hd6) hl1
                    have hry := hRr6 d hd6
                    rw [hba] at hry y0
                    have hyg := HRg.out d hd6 y (by rw [hyR]; simp)
                    have hshy := HG.out y hyg
                    have hgyy : y.good wr := ((Hgg.out y hyg).up hx4 hgy2).upS hxl6 (Hgg.out y hyg).lt hgy2 (by omega)
                    have hpick := Hpk.out.pick hd6 (x := y.o) (R := R.map OpW.o) (by show (rem d).map OpW.o = _; rw [hyR]; rfl)
                    have herr := Hpk.out.next Hrun.out hd6 (x := y.o) (R := R.map OpW.o) (by show (rem d).map OpW.o = _; rw [hyR]; rfl)
                    rw [← HCB.out] at herr
                    obtain ⟨CB2, hCB2⟩ : ∃ CB2, CB2 = applyC CB y.o := ⟨_, rfl⟩
                    have HCB2 := Lib.hid (show CB2 = foldC CollR.nil (Lp ++ [y.o]) by rw [foldC_snoc, ← HCB.out, hCB2])
                    have HC2 := Lib.hid hCB2.symm
                    have Herr := Lib.hid herr
                    have Hpick := Lib.hid hpick
                    have HyR := Lib.hid hyR
                    have Hba := Lib.hid hba
                    have hky := hshy.key
                    have hty := hshy.text
                    have hdy := hshy.dots
                    have p0 : wr.cell? ⟨rb, ro, none⟩ = some (.int .i64 y.o.dot.dev) := by have := rows_cell kOp hry (n := 0) (x := y) (by rw [hyR]; rfl) 0 _ rfl; rw [Nat.zero_mul, Nat.add_zero] at this; exact this
                    have p1 : wr.cell? ⟨rb, ro + 1, none⟩ = some (.int .i64 y.o.dot.ep) := by have := rows_cell kOp hry (n := 0) (x := y) (by rw [hyR]; rfl) 1 _ rfl; rw [Nat.zero_mul, Nat.add_zero] at this; exact this
                    have p2 : wr.cell? ⟨rb, ro + 2, none⟩ = some (.int .i64 y.o.dot.seq) := by have := rows_cell kOp hry (n := 0) (x := y) (by rw [hyR]; rfl) 2 _ rfl; rw [Nat.zero_mul, Nat.add_zero] at this; exact this
                    have p3 : wr.cell? ⟨rb, ro + 3, none⟩ = some (.int .i64 y.o.coll) := by have := rows_cell kOp hry (n := 0) (x := y) (by rw [hyR]; rfl) 3 _ rfl; rw [Nat.zero_mul, Nat.add_zero] at this; exact this
                    have p4 : wr.cell? ⟨rb, ro + 4, none⟩ = some (.int .i64 y.o.ver) := by have := rows_cell kOp hry (n := 0) (x := y) (by rw [hyR]; rfl) 4 _ rfl; rw [Nat.zero_mul, Nat.add_zero] at this; exact this
                    have p5 : wr.cell? ⟨rb, ro + 5, none⟩ = some (.int .i64 y.o.kind) := by have := rows_cell kOp hry (n := 0) (x := y) (by rw [hyR]; rfl) 5 _ rfl; rw [Nat.zero_mul, Nat.add_zero] at this; exact this
                    have p6 : wr.cell? ⟨rb, ro + 6, none⟩ = some (.string (str y.o.key)) := by have := rows_cell kOp hry (n := 0) (x := y) (by rw [hyR]; rfl) 6 _ rfl; rw [Nat.zero_mul, Nat.add_zero] at this; exact this
                    have p7 : wr.cell? ⟨rb, ro + 7, none⟩ = some (.string (str y.o.text)) := by have := rows_cell kOp hry (n := 0) (x := y) (by rw [hyR]; rfl) 7 _ rfl; rw [Nat.zero_mul, Nat.add_zero] at this; exact this
                    have p8 : wr.cell? ⟨rb, ro + 8, none⟩ = some (.int .i64 y.o.n) := by have := rows_cell kOp hry (n := 0) (x := y) (by rw [hyR]; rfl) 8 _ rfl; rw [Nat.zero_mul, Nat.add_zero] at this; exact this
                    have p9 : wr.cell? ⟨rb, ro + 9, none⟩ = some (.int .i64 y.o.time) := by have := rows_cell kOp hry (n := 0) (x := y) (by rw [hyR]; rfl) 9 _ rfl; rw [Nat.zero_mul, Nat.add_zero] at this; exact this
                    have p10 : wr.cell? ⟨rb, ro + 10, none⟩ = some (.slice y.a y.o.dots.length y.c) := by have := rows_cell kOp hry (n := 0) (x := y) (by rw [hyR]; rfl) 10 _ rfl; rw [Nat.zero_mul, Nat.add_zero] at this; exact this
                    have e0 := hB6.cell 0 _ rfl
                    have e1 := hB6.cell 1 _ rfl
                    have e2 := hB6.cell 2 _ rfl
                    have e3 := hB6.cell 3 _ rfl
                    have e4 := hB6.cell 4 _ rfl
                    have e5 := hB6.cell 5 _ rfl
                    clear hd hre hpick herr hCB2 hyR hba
                    go_upto_region 24 with fail
                    go_cut [14, 15] (fun s14 s15 wx => ∃ (xb : Nat) (k2 : Six), s14 = .pointer (some ⟨xb, 0, none⟩) ∧ s15 = .int .i64 0 ∧ Mine CB2 wx B2 k2 ∧ Blk wx xb [.slice k2.v CB2.v.length k2.vc, .slice k2.r CB2.regs.length k2.rc, .slice k2.e CB2.elems.length k2.ec, .slice k2.g CB2.gone.length k2.gc, .slice k2.s CB2.sums.length k2.sc, .slice k2.b CB2.binds.length k2.bc] ∧ Ext no wr wx ∧ wr.heap.size ≤ xb)
                    case first =>
                      refine wp_region_F [0, 4, 6] (looks [(0, fun z => Ext no wr z), (4, fun z => Ext no wr z), (6, fun z => Ext no wr z)]) (by kernel_rfl) ?_
                      have hxd0 := Ext.drew no wr
                      generalize wr.drew = wd at *
                      have hT0 : ∀ k, looks [(0, fun z => Ext no wr z), (4, fun z => Ext no wr z), (6, fun z => Ext no wr z)] k (wd) := looks_all ⟨hxd0, hxd0, hxd0, trivial⟩
                      refine wpF_look 0 (v := .agg #[.slice kb.v CB.v.length kb.vc, .slice kb.r CB.regs.length kb.rc, .slice kb.e CB.elems.length kb.ec, .slice kb.g CB.gone.length kb.gc, .slice kb.s CB.sums.length kb.sc, .slice kb.b CB.binds.length kb.bc]) rfl rfl (by kernel_rfl) (by kernel_rfl) (by kernel_rfl) (by kernel_rfl) (fun _ _ _ h => h) hT0 (by rfl) (fun w hS => by have hS : Ext no wr w := hS; have q0 := hS.keeps e0 (fun h => h); have q1 := hS.keeps e1 (fun h => h); have q2 := hS.keeps e2 (fun h => h); have q3 := hS.keeps e3 (fun h => h); have q4 := hS.keeps e4 (fun h => h); have q5 := hS.keeps e5 (fun h => h); go_simp) ?_
                      simp only [Act.put, List.setIfInBounds_toArray, List.set_cons_zero, List.set_cons_succ]
                      refine wpF_take 1 (v := ?_) rfl (by kernel_rfl) (by kernel_rfl) (by kernel_rfl) (fun _ _ _ h => h) hT0 (by rfl) ?_ ?_
                      rotate_left
                      · (intro wq; go_simp; try with_reducible rfl)
                      simp only [Act.put, List.setIfInBounds_toArray, List.set_cons_zero, List.set_cons_succ]
                      refine wpF_take 2 (v := .int .i64 (d : Int)) rfl (by kernel_rfl) (by kernel_rfl) (by kernel_rfl) (fun _ _ _ h => h) hT0 (by rfl) (by intro wq; go_simp; first | done | rfl | rw [htm]) ?_
                      simp only [Act.put, List.setIfInBounds_toArray, List.set_cons_zero, List.set_cons_succ]
                      refine wpF_take 3 (v := .pointer (some ⟨gy, d, none⟩)) rfl (by kernel_rfl) (by kernel_rfl) (by kernel_rfl) (fun _ _ _ h => h) hT0 (by rfl) (by intro wq; go_simp; first | done | (intro hh; exfalso; omega)) ?_
                      simp only [Act.put, List.setIfInBounds_toArray, List.set_cons_zero, List.set_cons_succ]
                      refine wpF_look 4 (v := .slice (some ⟨rb, ro, none⟩) (rem d).length (bc d)) rfl rfl (by kernel_rfl) (by kernel_rfl) (by kernel_rfl) (by kernel_rfl) (fun _ _ _ h => h) hT0 (by rfl) (fun w hS => by have hS : Ext no wr w := hS; have q0 := hS.keeps y0 (fun h => h); go_simp) ?_
                      simp only [Act.put, List.setIfInBounds_toArray, List.set_cons_zero, List.set_cons_succ]
                      refine wpF_take 5 (v := .pointer (some ⟨rb, ro, none⟩)) rfl (by kernel_rfl) (by kernel_rfl) (by kernel_rfl) (fun _ _ _ h => h) hT0 (by rfl) (by intro wq; go_simp; first | done | (intro hh; exfalso; omega)) ?_
                      simp only [Act.put, List.setIfInBounds_toArray, List.set_cons_zero, List.set_cons_succ]
                      refine wpF_look 6 (v := .agg #[.int .i64 y.o.dot.dev, .int .i64 y.o.dot.ep, .int .i64 y.o.dot.seq, .int .i64 y.o.coll, .int .i64 y.o.ver, .int .i64 y.o.kind, .string (str y.o.key), .string (str y.o.text), .int .i64 y.o.n, .int .i64 y.o.time, .slice y.a y.o.dots.length y.c]) rfl rfl (by kernel_rfl) (by kernel_rfl) (by kernel_rfl) (by kernel_rfl) (fun _ _ _ h => h) hT0 (by rfl) (fun w hS => by have hS : Ext no wr w := hS; have q20 := hS.keeps p0 (fun h => h); have q21 := hS.keeps p1 (fun h => h); have q22 := hS.keeps p2 (fun h => h); have q23 := hS.keeps p3 (fun h => h); have q24 := hS.keeps p4 (fun h => h); have q25 := hS.keeps p5 (fun h => h); have q26 := hS.keeps p6 (fun h => h); have q27 := hS.keeps p7 (fun h => h); have q28 := hS.keeps p8 (fun h => h); have q29 := hS.keeps p9 (fun h => h); have q30 := hS.keeps p10 (fun h => h); go_simp) ?_
                      simp only [Act.put, List.setIfInBounds_toArray, List.set_cons_zero, List.set_cons_succ]
                      refine wpF_execs [7, 11] (by kernel_rfl) (by simp) ?_
                      intro j hj
                      simp only [List.mem_cons, List.not_mem_nil, or_false] at hj
                      rcases hj with rfl | rfl
                      · refine ⟨_, rfl, by rfl, ?_⟩
                        intro K hK
                        go_simp
                        refine (apply_any (wd) CB kb (y.o) y.a y.c (hmb6.isIn.ext (hxd0)) hSB hfb (hgyy.rd.ext (hxd0) (fun _ _ h => h)) (by omega) (by unfold maxLen; omega) (by unfold maxLen; omega)).mono ?_
                        rintro e wB ⟨k2, rfl, hmB, hxB⟩
                        rw [HC2.out] at hmB ⊢
                        rw [Herr.out]
                        unfold CollR.val
                        have hzB := hxB.size
                        have hzW := (show Ext no wr (wd) from hxd0).size
                        have hT1 : ∀ k, looks [(0, fun z => Ext no wr z), (4, fun z => Ext no wr z), (6, fun z => Ext no wr z)] k (wB) := looks_all ⟨(hxd0).comp hxB, (hxd0).comp hxB, (hxd0).comp hxB, trivial⟩
                        refine hK _ _ (looks [(0, fun z => Ext no wr z), (4, fun z => Ext no wr z), (6, fun z => Ext no wr z)]) ⟨.inr (.inl (by kernel_rfl)), .inr (.inl (by kernel_rfl)), .inr (.inl (by kernel_rfl)), trivial⟩ hT1 ?_
                        clear hK K
                        try simp only [Act.put, List.setIfInBounds_toArray, List.set_cons_zero, List.set_cons_succ]
                        refine wpF_take 8 (v := ?_) rfl (by kernel_rfl) (by kernel_rfl) (by kernel_rfl) (fun _ _ _ h => h) hT1 (by rfl) ?_ ?_
                        rotate_left
                        · (intro wq; go_simp; try with_reducible rfl)
                        simp only [Act.put, List.setIfInBounds_toArray, List.set_cons_zero, List.set_cons_succ]
                        refine wpF_take 9 (v := ?_) rfl (by kernel_rfl) (by kernel_rfl) (by kernel_rfl) (fun _ _ _ h => h) hT1 (by rfl) ?_ ?_
                        rotate_left
                        · (intro wq; go_simp; try with_reducible rfl)
                        simp only [Act.put, List.setIfInBounds_toArray, List.set_cons_zero, List.set_cons_succ]
                        refine wpF_take 10 (v := ?_) rfl (by kernel_rfl) (by kernel_rfl) (by kernel_rfl) (fun _ _ _ h => h) hT1 (by rfl) ?_ ?_
                        rotate_left
                        · (intro wq; go_simp; try with_reducible rfl)
                        simp only [Act.put, List.setIfInBounds_toArray, List.set_cons_zero, List.set_cons_succ]
                        refine wpF_exec 11 rfl (by kernel_rfl) (by rfl) ?_
                        intro K hK
                        go_simp
                        have hXb := Blk.at (wB) #[.slice none 0 0, .slice none 0 0, .slice none 0 0, .slice none 0 0, .slice none 0 0, .slice none 0 0] 31 (wB.heap.size) rfl
                        have hxX := Ext.alloc no (wB) (.cells #[.slice none 0 0, .slice none 0 0, .slice none 0 0, .slice none 0 0, .slice none 0 0, .slice none 0 0] 31)
                        obtain ⟨xb, hxbe⟩ : ∃ xb, xb = wB.heap.size := ⟨_, rfl⟩
                        have hxL : wB.heap.size ≤ xb := by omega
                        have hxU : xb ≤ wB.heap.size := by omega
                        have hxW : wr.heap.size ≤ xb := by have := (show Ext no wr (wB) from (hxd0).comp hxB).size; have e : (wB).heap.size = wB.heap.size := rfl; omega
                        rw [← hxbe] at hXb ⊢
                        generalize (wB).alloc (.cells #[.slice none 0 0, .slice none 0 0, .slice none 0 0, .slice none 0 0, .slice none 0 0, .slice none 0 0] 31) = wX at *
                        clear hxbe
                        have hzX := hXb.lt (by simp)
                        have hT2 : ∀ k, looks [(0, fun z => Ext no wr z), (4, fun z => Ext no wr z), (6, fun z => Ext no wr z)] k (wX) := looks_all ⟨((hxd0).comp hxB).comp hxX, ((hxd0).comp hxB).comp hxX, ((hxd0).comp hxB).comp hxX, trivial⟩
                        refine hK _ _ (looks [(0, fun z => Ext no wr z), (4, fun z => Ext no wr z), (6, fun z => Ext no wr z)]) ⟨.inr (.inr (fun x h => h)), .inr (.inr (fun x h => h)), .inr (.inr (fun x h => h)), trivial⟩ hT2 ?_
                        clear hK K
                        try simp only [Act.put, List.setIfInBounds_toArray, List.set_cons_zero, List.set_cons_succ]
                        refine wpF_exec 12 rfl (by kernel_rfl) (by rfl) ?_
                        intro K hK
                        have z0 := hXb.cell 0 _ rfl
                        have z1 := hXb.cell 1 _ rfl
                        have z2 := hXb.cell 2 _ rfl
                        have z3 := hXb.cell 3 _ rfl
                        have z4 := hXb.cell 4 _ rfl
                        have z5 := hXb.cell 5 _ rfl
                        have f0 := hXb.fr 0
                        have f1 := hXb.fr 1
                        have f2 := hXb.fr 2
                        have f3 := hXb.fr 3
                        have f4 := hXb.fr 4
                        have f5 := hXb.fr 5
                        go_simp
                        have hbE := ((((((hXb.set 0 (.slice k2.v CB2.v.length k2.vc) (by simp)).set 1 (.slice k2.r CB2.regs.length k2.rc) (by simp)).set 2 (.slice k2.e CB2.elems.length k2.ec) (by simp)).set 3 (.slice k2.g CB2.gone.length k2.gc) (by simp)).set 4 (.slice k2.s CB2.sums.length k2.sc) (by simp)).set 5 (.slice k2.b CB2.binds.length k2.bc) (by simp))
                        have hxE := (((((Ext.setCell (S := just xb) (wX) ⟨xb, 0, none⟩ (.slice k2.v CB2.v.length k2.vc) rfl).comp (Ext.setCell _ ⟨xb, 1, none⟩ (.slice k2.r CB2.regs.length k2.rc) rfl)).comp (Ext.setCell _ ⟨xb, 2, none⟩ (.slice k2.e CB2.elems.length k2.ec) rfl)).comp (Ext.setCell _ ⟨xb, 3, none⟩ (.slice k2.g CB2.gone.length k2.gc) rfl)).comp (Ext.setCell _ ⟨xb, 4, none⟩ (.slice k2.s CB2.sums.length k2.sc) rfl)).comp (Ext.setCell _ ⟨xb, 5, none⟩ (.slice k2.b CB2.binds.length k2.bc) rfl)
                        clear z0 f0 z1 f1 z2 f2 z3 f3 z4 f4 z5 f5
                        generalize ((((((wX).setCell ⟨xb, 0, none⟩ (.slice k2.v CB2.v.length k2.vc)).setCell ⟨xb, 1, none⟩ (.slice k2.r CB2.regs.length k2.rc)).setCell ⟨xb, 2, none⟩ (.slice k2.e CB2.elems.length k2.ec)).setCell ⟨xb, 3, none⟩ (.slice k2.g CB2.gone.length k2.gc)).setCell ⟨xb, 4, none⟩ (.slice k2.s CB2.sums.length k2.sc)).setCell ⟨xb, 5, none⟩ (.slice k2.b CB2.binds.length k2.bc) = wE at *
                        have hmE : Mine CB2 wE B2 k2 := ((hmB.no hxX).ext hxE (fun i ad hi e => by have e : ad.block = xb := e; have := hmB.base i ad hi; omega)).mono (by omega)
                        have hxF : Ext no wr wE := (((hxd0).comp hxB).comp hxX).trans hxE (fun k hk e => by have e : k = xb := e; omega)
                        have hT3 : ∀ k, looks [(0, fun z => True), (4, fun z => True), (6, fun z => True)] k (wE) := looks_all ⟨trivial, trivial, trivial, trivial⟩
                        refine hK _ _ (looks [(0, fun z => True), (4, fun z => True), (6, fun z => True)]) ⟨.inr (.inl (by kernel_rfl)), .inr (.inl (by kernel_rfl)), .inr (.inl (by kernel_rfl)), trivial⟩ hT3 ?_
                        clear hK K
                        try simp only [Act.put, List.setIfInBounds_toArray, List.set_cons_zero, List.set_cons_succ]
                        refine wpF_take 13 (v := ?_) rfl (by kernel_rfl) (by kernel_rfl) (by kernel_rfl) (fun _ _ _ h => h) hT3 (by rfl) ?_ ?_
                        rotate_left
                        · (intro wq; go_simp; try with_reducible rfl)
                        simp only [Act.put, List.setIfInBounds_toArray, List.set_cons_zero, List.set_cons_succ]
                        refine wpF_done (by kernel_rfl) ?_ _
                        go_wp2_with fail
                        go_meet
                        exact ⟨xb, k2, rfl, rfl, hmE, hbE, hxF, hxW⟩
                      · refine ⟨_, rfl, by rfl, ?_⟩
                        intro K hK
                        go_simp
                        have hXb := Blk.at (wd) #[.slice none 0 0, .slice none 0 0, .slice none 0 0, .slice none 0 0, .slice none 0 0, .slice none 0 0] 31 (wd.heap.size) rfl
                        have hxX := Ext.alloc no (wd) (.cells #[.slice none 0 0, .slice none 0 0, .slice none 0 0, .slice none 0 0, .slice none 0 0, .slice none 0 0] 31)
                        obtain ⟨xb, hxbe⟩ : ∃ xb, xb = wd.heap.size := ⟨_, rfl⟩
                        have hxL : wd.heap.size ≤ xb := by omega
                        have hxU : xb ≤ wd.heap.size := by omega
                        have hxW : wr.heap.size ≤ xb := by have := (show Ext no wr (wd) from hxd0).size; have e : (wd).heap.size = wd.heap.size := rfl; omega
                        rw [← hxbe] at hXb ⊢
                        generalize (wd).alloc (.cells #[.slice none 0 0, .slice none 0 0, .slice none 0 0, .slice none 0 0, .slice none 0 0, .slice none 0 0] 31) = wX at *
                        clear hxbe
                        have hzX := hXb.lt (by simp)
                        have hT1 : ∀ k, looks [(0, fun z => Ext no wr z), (4, fun z => Ext no wr z), (6, fun z => Ext no wr z)] k (wX) := looks_all ⟨(hxd0).comp hxX, (hxd0).comp hxX, (hxd0).comp hxX, trivial⟩
                        refine hK _ _ (looks [(0, fun z => Ext no wr z), (4, fun z => Ext no wr z), (6, fun z => Ext no wr z)]) ⟨.inr (.inr (fun x h => h)), .inr (.inr (fun x h => h)), .inr (.inr (fun x h => h)), trivial⟩ hT1 ?_
                        clear hK K
                        try simp only [Act.put, List.setIfInBounds_toArray, List.set_cons_zero, List.set_cons_succ]
                        refine wpF_exec 7 rfl (by kernel_rfl) (by rfl) ?_
                        intro K hK
                        go_simp
                        refine (apply_any (wX) CB kb (y.o) y.a y.c (hmb6.isIn.ext ((hxd0).comp hxX)) hSB hfb (hgyy.rd.ext ((hxd0).comp hxX) (fun _ _ h => h)) (by omega) (by unfold maxLen; omega) (by unfold maxLen; omega)).mono ?_
                        rintro e wB ⟨k2, rfl, hmB, hxB⟩
                        rw [HC2.out] at hmB ⊢
                        rw [Herr.out]
                        unfold CollR.val
                        have hzB := hxB.size
                        have hzW := (show Ext no wr (wX) from (hxd0).comp hxX).size
                        have hXc := hXb.ext (by simp) hxB (fun h => h)
                        have hT2 : ∀ k, looks [(0, fun z => Ext no wr z), (4, fun z => Ext no wr z), (6, fun z => Ext no wr z)] k (wB) := looks_all ⟨((hxd0).comp hxX).comp hxB, ((hxd0).comp hxX).comp hxB, ((hxd0).comp hxX).comp hxB, trivial⟩
                        refine hK _ _ (looks [(0, fun z => Ext no wr z), (4, fun z => Ext no wr z), (6, fun z => Ext no wr z)]) ⟨.inr (.inl (by kernel_rfl)), .inr (.inl (by kernel_rfl)), .inr (.inl (by kernel_rfl)), trivial⟩ hT2 ?_
                        clear hK K
                        try simp only [Act.put, List.setIfInBounds_toArray, List.set_cons_zero, List.set_cons_succ]
                        refine wpF_take 8 (v := ?_) rfl (by kernel_rfl) (by kernel_rfl) (by kernel_rfl) (fun _ _ _ h => h) hT2 (by rfl) ?_ ?_
                        rotate_left
                        · (intro wq; go_simp; try with_reducible rfl)
                        simp only [Act.put, List.setIfInBounds_toArray, List.set_cons_zero, List.set_cons_succ]
                        refine wpF_take 9 (v := ?_) rfl (by kernel_rfl) (by kernel_rfl) (by kernel_rfl) (fun _ _ _ h => h) hT2 (by rfl) ?_ ?_
                        rotate_left
                        · (intro wq; go_simp; try with_reducible rfl)
                        simp only [Act.put, List.setIfInBounds_toArray, List.set_cons_zero, List.set_cons_succ]
                        refine wpF_take 10 (v := ?_) rfl (by kernel_rfl) (by kernel_rfl) (by kernel_rfl) (fun _ _ _ h => h) hT2 (by rfl) ?_ ?_
                        rotate_left
                        · (intro wq; go_simp; try with_reducible rfl)
                        simp only [Act.put, List.setIfInBounds_toArray, List.set_cons_zero, List.set_cons_succ]
                        refine wpF_exec 12 rfl (by kernel_rfl) (by rfl) ?_
                        intro K hK
                        have z0 := hXc.cell 0 _ rfl
                        have z1 := hXc.cell 1 _ rfl
                        have z2 := hXc.cell 2 _ rfl
                        have z3 := hXc.cell 3 _ rfl
                        have z4 := hXc.cell 4 _ rfl
                        have z5 := hXc.cell 5 _ rfl
                        have f0 := hXc.fr 0
                        have f1 := hXc.fr 1
                        have f2 := hXc.fr 2
                        have f3 := hXc.fr 3
                        have f4 := hXc.fr 4
                        have f5 := hXc.fr 5
                        go_simp
                        have hbE := ((((((hXc.set 0 (.slice k2.v CB2.v.length k2.vc) (by simp)).set 1 (.slice k2.r CB2.regs.length k2.rc) (by simp)).set 2 (.slice k2.e CB2.elems.length k2.ec) (by simp)).set 3 (.slice k2.g CB2.gone.length k2.gc) (by simp)).set 4 (.slice k2.s CB2.sums.length k2.sc) (by simp)).set 5 (.slice k2.b CB2.binds.length k2.bc) (by simp))
                        have hxE := (((((Ext.setCell (S := just xb) (wB) ⟨xb, 0, none⟩ (.slice k2.v CB2.v.length k2.vc) rfl).comp (Ext.setCell _ ⟨xb, 1, none⟩ (.slice k2.r CB2.regs.length k2.rc) rfl)).comp (Ext.setCell _ ⟨xb, 2, none⟩ (.slice k2.e CB2.elems.length k2.ec) rfl)).comp (Ext.setCell _ ⟨xb, 3, none⟩ (.slice k2.g CB2.gone.length k2.gc) rfl)).comp (Ext.setCell _ ⟨xb, 4, none⟩ (.slice k2.s CB2.sums.length k2.sc) rfl)).comp (Ext.setCell _ ⟨xb, 5, none⟩ (.slice k2.b CB2.binds.length k2.bc) rfl)
                        clear z0 f0 z1 f1 z2 f2 z3 f3 z4 f4 z5 f5
                        generalize ((((((wB).setCell ⟨xb, 0, none⟩ (.slice k2.v CB2.v.length k2.vc)).setCell ⟨xb, 1, none⟩ (.slice k2.r CB2.regs.length k2.rc)).setCell ⟨xb, 2, none⟩ (.slice k2.e CB2.elems.length k2.ec)).setCell ⟨xb, 3, none⟩ (.slice k2.g CB2.gone.length k2.gc)).setCell ⟨xb, 4, none⟩ (.slice k2.s CB2.sums.length k2.sc)).setCell ⟨xb, 5, none⟩ (.slice k2.b CB2.binds.length k2.bc) = wE at *
                        have hmE : Mine CB2 wE B2 k2 := (hmB.ext hxE (fun i ad hi e => by have e : ad.block = xb := e; have := hmB.base i ad hi; omega)).mono (by omega)
                        have hxF : Ext no wr wE := (((hxd0).comp hxX).comp hxB).trans hxE (fun k hk e => by have e : k = xb := e; omega)
                        have hT3 : ∀ k, looks [(0, fun z => True), (4, fun z => True), (6, fun z => True)] k (wE) := looks_all ⟨trivial, trivial, trivial, trivial⟩
                        refine hK _ _ (looks [(0, fun z => True), (4, fun z => True), (6, fun z => True)]) ⟨.inr (.inl (by kernel_rfl)), .inr (.inl (by kernel_rfl)), .inr (.inl (by kernel_rfl)), trivial⟩ hT3 ?_
                        clear hK K
                        try simp only [Act.put, List.setIfInBounds_toArray, List.set_cons_zero, List.set_cons_succ]
                        refine wpF_take 13 (v := ?_) rfl (by kernel_rfl) (by kernel_rfl) (by kernel_rfl) (fun _ _ _ h => h) hT3 (by rfl) ?_ ?_
                        rotate_left
                        · (intro wq; go_simp; try with_reducible rfl)
                        simp only [Act.put, List.setIfInBounds_toArray, List.set_cons_zero, List.set_cons_succ]
                        refine wpF_done (by kernel_rfl) ?_ _
                        go_wp2_with fail
                        go_meet
                        exact ⟨xb, k2, rfl, rfl, hmE, hbE, hxF, hxW⟩
                    case rest =>
                      obtain ⟨xb2, kb2, rfl, rfl, hm7, hX7, hx7, hxbw2⟩ := hcut
                      clear p0 p1 p2 p3 p4 p5 p6 p7 p8 p9 p10 e0 e1 e2 e3 e4 e5 y0
                      have hA7 := hA6.ext (by simp) hx7 (fun h => h)
                      have hB7 := hB6.ext (by simp) hx7 (fun h => h)
                      have hY7 := hY6.ext byC_ne hx7 (fun h => h)
                      have hma7 := hma6.no hx7
                      have hRr7 : ∀ d, d < 6 → Rd wc (ba d) (rows OpW.cells (rem d)) := fun d hd => (hRr6 d hd).ext hx7 (fun _ _ h => h)
                      have hxl7 := hxl6.comp (hx7.mono (fun _ _ h => absurd h (fun h => h)))
                      have hz7 := hx7.size
                      have hry7 := hry.ext hx7 (fun _ _ h => h)
                      clear hA6 hB6 hY6 hma6 hRr6 hxl6 hx7 hgyy Herr HC2 hmb6 hry
                      have y0 := hY7.cell d _ (byC_get hd6)
                      rw [Hba.out] at y0
                      have fy := hY7.fr d
                      have hcut1 : ∀ w, (Instr.sliceAt 44 (.slice (some ⟨rb, ro, none⟩) (rem d).length (bc d)) (some (.int .i64 1)) none none).run Try.prog w = .ok (.slice (cutAt (some ⟨rb, ro, none⟩) (bc d) 1 11) ((rem d).length - 1) (bc d - 1)) w := fun w => run_cut_l TOps w _ _ _ .i64 1 (by omega)
                      go_upto_region 28 with fail
                      have hsto : Ext (just gy) wc (wc.setCell ⟨gy, d, none⟩ (.slice (cutAt (some ⟨rb, ro, none⟩) (bc d) 1 11) ((rem d).length - 1) (bc d - 1))) := Ext.setCell _ _ _ rfl
                      have hY8 : Blk (wc.setCell ⟨gy, d, none⟩ (.slice (cutAt (some ⟨rb, ro, none⟩) (bc d) 1 11) ((rem d).length - 1) (bc d - 1))) gy (byC (upd ba d (cutAt (some ⟨rb, ro, none⟩) (bc d) 1 11)) (fun e => (upd rem d R e).length) (upd bc d (bc d - 1))) := by
                        have q := hY7.set d (.slice (cutAt (some ⟨rb, ro, none⟩) (bc d) 1 11) ((rem d).length - 1) (bc d - 1)) (by rw [byC_len]; exact hd6)
                        rw [byC_set hd6] at q
                        rw [show (fun e => (upd rem d R e).length) = upd (fun d => (rem d).length) d ((rem d).length - 1) by funext e; unfold upd; split; exact HlR.out.symm; rfl]
                        exact q
                      have hX8 := hX7.ext (by simp) hsto (fun e => by have e : xb2 = gy := e; omega)
                      have hA8 := hA7.ext (by simp) hsto (fun e => by have e : g8 = gy := e; omega)
                      have hB8 := hB7.ext (by simp) hsto (fun e => by have e : g9 = gy := e; omega)
                      have hma8 := hma7.ext hsto (fun i ad hi e => by have e : ad.block = gy := e; have := hma7.base i ad hi; omega)
                      have hm8 := hm7.ext hsto (fun i ad hi e => by have e : ad.block = gy := e; have := hm7.base i ad hi; omega)
                      have hxl8 := hxl7.comp (hsto.mono (fun k hk e => by have e : k = gy := e; exact .inl e))
                      have hRd8 : Rd (wc.setCell ⟨gy, d, none⟩ (.slice (cutAt (some ⟨rb, ro, none⟩) (bc d) 1 11) ((rem d).length - 1) (bc d - 1))) (cutAt (some ⟨rb, ro, none⟩) (bc d) 1 11) (rows OpW.cells R) := by
                        have q1 : Rd (wc.setCell ⟨gy, d, none⟩ (.slice (cutAt (some ⟨rb, ro, none⟩) (bc d) 1 11) ((rem d).length - 1) (bc d - 1))) (some ⟨rb, ro, none⟩) (rows OpW.cells (rem d)) := hry7.ext hsto (fun ad ha e2 => by cases ha; have e2 : rb = gy := e2; have := (hRb d hd6 ⟨rb, ro, none⟩ Hba.out).1; simp only at this; omega)
                        have q2 := q1.cutAt (bc d) 1 11 (fun e => by rw [rows_length kOp]; exact Nat.mul_le_mul_right _ (by omega))
                        rw [rows_drop kOp] at q2
                        have e3 : (rem d).drop 1 = R := by rw [HyR.out]; rfl
                        rw [e3] at q2
                        exact q2
                      have hRr8 : ∀ e, e < 6 → Rd (wc.setCell ⟨gy, d, none⟩ (.slice (cutAt (some ⟨rb, ro, none⟩) (bc d) 1 11) ((rem d).length - 1) (bc d - 1))) (upd ba d (cutAt (some ⟨rb, ro, none⟩) (bc d) 1 11) e) (rows OpW.cells (upd rem d R e)) := by
                        intro e he
                        by_cases hed : e = d
                        · rw [hed, upd_self, upd_self]
                          exact hRd8
                        · rw [upd_ne _ _ hed, upd_ne _ _ hed]
                          exact (hRr7 e he).ext hsto (fun ad ha e2 => by have e2 : ad.block = gy := e2; have := (hRb e he ad ha).1; omega)
                      have hRb8 : ∀ e, e < 6 → ∀ ad, upd ba d (cutAt (some ⟨rb, ro, none⟩) (bc d) 1 11) e = some ad → B ≤ ad.block ∧ ad.block < g8 := by
                        intro e he ad ha
                        by_cases hed : e = d
                        · subst hed
                          rw [upd_self] at ha
                          obtain ⟨ad', h1, h2⟩ := cutAt_some' ⟨rb, ro, none⟩ (bc e) 1 11
                          rw [h1] at ha
                          cases ha
                          rw [h2]
                          exact hRb e he ⟨rb, ro, none⟩ Hba.out
                        · rw [upd_ne _ _ hed] at ha
                          exact hRb e he ad ha
                      have hRn8 : ∀ e, e < 6 → (upd rem d R e).length ≤ upd bc d (bc d - 1) e := by
                        intro e he
                        by_cases hed : e = d
                        · subst hed; rw [upd_self, upd_self]; have := HlR.out; omega
                        · rw [upd_ne _ _ hed, upd_ne _ _ hed]; exact hRn e he
                      have HRg8 := Lib.hid (show ∀ e, e < 6 → ∀ x ∈ upd rem d R e, x ∈ g by
                        intro e he x hx
                        by_cases hed : e = d
                        · subst hed; rw [upd_self] at hx; exact HRg.out e he x (by rw [HyR.out]; simp [hx])
                        · rw [upd_ne _ _ hed] at hx; exact HRg.out e he x hx)
                      have Hpick8 := Lib.hid (show Picked (g.map OpW.o) (Lp ++ [y.o]) (fun e => (upd rem d R e).map OpW.o) by
                        have q := Hpick.out
                        rw [show less (fun d => (rem d).map OpW.o) d (R.map OpW.o) = (fun e => (upd rem d R e).map OpW.o) by funext e; unfold less upd; split <;> rfl] at q
                        exact q)
                      have hz8 := hsto.size
                      clear y0 fy hcut1 hsto hRd8 hY7 hX7 hA7 hB7 hma7 hm7 hxl7 hRr7 hry7
                      generalize wc.setCell ⟨gy, d, none⟩ (.slice (cutAt (some ⟨rb, ro, none⟩) (bc d) 1 11) ((rem d).length - 1) (bc d - 1)) = w8 at *
                      have x0 := hX8.cell 0 _ rfl
                      have x1 := hX8.cell 1 _ rfl
                      have x2 := hX8.cell 2 _ rfl
                      have x3 := hX8.cell 3 _ rfl
                      have x4 := hX8.cell 4 _ rfl
                      have x5 := hX8.cell 5 _ rfl
                      have c0 := hB8.cell 0 _ rfl
                      have c1 := hB8.cell 1 _ rfl
                      have c2 := hB8.cell 2 _ rfl
                      have c3 := hB8.cell 3 _ rfl
                      have c4 := hB8.cell 4 _ rfl
                      have c5 := hB8.cell 5 _ rfl
                      have f0 := hB8.fr 0
                      have f1 := hB8.fr 1
                      have f2 := hB8.fr 2
                      have f3 := hB8.fr 3
                      have f4 := hB8.fr 4
                      have f5 := hB8.fr 5
                      go_upto_region 14 with fail
                      have hB9 := ((((((hB8.set 0 (.slice kb2.v CB2.v.length kb2.vc) (by simp)).set 1 (.slice kb2.r CB2.regs.length kb2.rc) (by simp)).set 2 (.slice kb2.e CB2.elems.length kb2.ec) (by simp)).set 3 (.slice kb2.g CB2.gone.length kb2.gc) (by simp)).set 4 (.slice kb2.s CB2.sums.length kb2.sc) (by simp)).set 5 (.slice kb2.b CB2.binds.length kb2.bc) (by simp))
                      have hxs := (((((Ext.setCell (S := just g9) w8 ⟨g9, 0, none⟩ (.slice kb2.v CB2.v.length kb2.vc) rfl).comp (Ext.setCell _ ⟨g9, 1, none⟩ (.slice kb2.r CB2.regs.length kb2.rc) rfl)).comp (Ext.setCell _ ⟨g9, 2, none⟩ (.slice kb2.e CB2.elems.length kb2.ec) rfl)).comp (Ext.setCell _ ⟨g9, 3, none⟩ (.slice kb2.g CB2.gone.length kb2.gc) rfl)).comp (Ext.setCell _ ⟨g9, 4, none⟩ (.slice kb2.s CB2.sums.length kb2.sc) rfl)).comp (Ext.setCell _ ⟨g9, 5, none⟩ (.slice kb2.b CB2.binds.length kb2.bc) rfl)
                      have hY9 := hY8.ext (byC_ne) hxs (fun e => by have e : gy = g9 := e; omega)
                      have hA9 := hA8.ext (by simp) hxs (fun e => by have e : g8 = g9 := e; omega)
                      have hmb9 := hm8.ext hxs (fun i ad hi e => by have e : ad.block = g9 := e; have := hm8.base i ad hi; omega)
                      have hxl9 := hxl8.comp (hxs.mono (fun k hk e => by have e : k = g9 := e; exact .inr (by omega)))
                      have hz9x := hxs.size
                      have hma9 := hma8.ext hxs (fun i ad hi e => by have e : ad.block = g9 := e; have := hma8.base i ad hi; omega)
                      have hRr9 : ∀ e, e < 6 → Rd _ (upd ba d (cutAt (some ⟨rb, ro, none⟩) (bc d) 1 11) e) (rows OpW.cells (upd rem d R e)) := fun e he => (hRr8 e he).ext hxs (fun ad ha e2 => by have e2 : ad.block = g9 := e2; have := hRb8 e he ad ha; omega)
                      clear hxs hB8 hm8 hX8 hxl8 x0 c0 f0 x1 c1 f1 x2 c2 f2 x3 c3 f3 x4 c4 f4 x5 c5 f5
                      generalize (((((w8.setCell ⟨g9, 0, none⟩ (.slice kb2.v CB2.v.length kb2.vc)).setCell ⟨g9, 1, none⟩ (.slice kb2.r CB2.regs.length kb2.rc)).setCell ⟨g9, 2, none⟩ (.slice kb2.e CB2.elems.length kb2.ec)).setCell ⟨g9, 3, none⟩ (.slice kb2.g CB2.gone.length kb2.gc)).setCell ⟨g9, 4, none⟩ (.slice kb2.s CB2.sums.length kb2.sc)).setCell ⟨g9, 5, none⟩ (.slice kb2.b CB2.binds.length kb2.bc) = w9 at *
                      go_wp2_with fail
                      go_roundw
                      case rel => exact ⟨i + 1, Lp ++ [y.o], upd ba d (cutAt (some ⟨rb, ro, none⟩) (bc d) 1 11), upd rem d R, upd bc d (bc d - 1), k2, kb2, by go_num, by omega, by rw [List.length_append, HLi.out]; rfl, Hpick8.out, hY9, hRr9, hRn8, hRb8, HRg8.out, by rw [← HCA2.out]; exact hma9, by rw [← HCA2.out]; exact hA9, by rw [← HCB2.out]; exact hmb9, by rw [← HCB2.out]; exact hB9, hxl9, by omega⟩
                      case measure => simp [intOf]; omega
          · obtain rfl : i = g.length := by omega
            have d1 : decide (g.length < g.length) = false := decF (by omega)
            have hDn := hpk.done Hrun.out (by rw [HLi.out, List.length_map])
            have hTk : (g.map OpW.o).take g.length = g.map OpW.o := List.take_of_length_le (by simp)
            rw [hTk] at hma hA hSA hfa
            rw [hDn] at hmb hBx hSB hfb
            generalize foldC CollR.nil (g.map OpW.o) = CZ at *
            clear hDn hTk hpk hin hY hRr hRn hRb
            have c0 := hA.cell 0 _ rfl
            have c1 := hA.cell 1 _ rfl
            have c2 := hA.cell 2 _ rfl
            have c3 := hA.cell 3 _ rfl
            have c4 := hA.cell 4 _ rfl
            have c5 := hA.cell 5 _ rfl
            have e0 := hBx.cell 0 _ rfl
            have e1 := hBx.cell 1 _ rfl
            have e2 := hBx.cell 2 _ rfl
            have e3 := hBx.cell 3 _ rfl
            have e4 := hBx.cell 4 _ rfl
            have e5 := hBx.cell 5 _ rfl
            go_wp2_with fail
            refine (same_any wr CZ CZ ka kb hma.isIn hmb.isIn (hSA.mono (by omega)) (hSB.mono (by omega))).mono ?_
            rintro e w5 ⟨r, rfl, hrr, hx5⟩
            obtain rfl : r = true := hrr.2 rfl
            have hA5 := hA.ext (by simp) hx5 (fun h => h)
            have hB5 := hBx.ext (by simp) hx5 (fun h => h)
            have hma5 := hma.no hx5
            have hmb5 := hmb.no hx5
            clear c0 c1 c2 c3 c4 c5 e0 e1 e2 e3 e4 e5 hrr
            have c0 := hA5.cell 0 _ rfl
            have c1 := hA5.cell 1 _ rfl
            have c2 := hA5.cell 2 _ rfl
            have c3 := hA5.cell 3 _ rfl
            have c4 := hA5.cell 4 _ rfl
            have c5 := hA5.cell 5 _ rfl
            have e0 := hB5.cell 0 _ rfl
            have e1 := hB5.cell 1 _ rfl
            have e2 := hB5.cell 2 _ rfl
            have e3 := hB5.cell 3 _ rfl
            have e4 := hB5.cell 4 _ rfl
            have e5 := hB5.cell 5 _ rfl
            go_wp2_with fail
            refine (refsame_eq w5 CZ ka kb hma5.isIn hmb5.isIn (hSA.mono (by omega))).mono ?_
            rintro e w6 ⟨rfl, hx6⟩
            have hszw := hxx.size
            have hfin : Ext no w w6 := (((hxx.trans hx4 (fun k hk e => by have e : gy ≤ k := e; omega)).trans hxl (fun k hk e => by have e : k = gy ∨ g8 ≤ k := e; omega)).comp hx5).comp hx6
            go_wp2_with fail
            go_ret
            exact ⟨rfl, hfin⟩
end Go.Proofs.Ytejmmkjpncpedaa
