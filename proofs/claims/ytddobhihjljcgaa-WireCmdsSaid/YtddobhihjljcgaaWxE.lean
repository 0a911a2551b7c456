/- Commands, read and written by wire. -/
import Derived.Test.YtddobhihjljcgaaWxD
namespace Go.Proofs.Ytddobhihjljcgaa
open Go.RowKit Go.Esc
set_option linter.unusedVariables false
set_option linter.unusedSimpArgs false

set_option maxRecDepth 100000 in
set_option maxHeartbeats 4000000 in
theorem wparseCmd_any (w : World) (a : Option Addr) (c : Nat) (l : List UInt8) (hrd : Rd w a (bs l)) (hll : l.length ≤ 70368744177664) :
    Calls Try.prog 17 #[.slice a l.length c] w (PcEnd w l) := by
  go_enter Try.func17, Try.ntmps17
  go_upto_region 1 with fail
  have hZ : Blk (w.alloc (.cells #[.int .i64 0, .int .i64 0, .int .i64 0, .int .i64 0, .int .i64 0, .slice none 0 0, .slice none 0 0] 27)) w.heap.size (CmdR.zero.cells CmdA.zero) := Blk.lit w #[.int .i64 0, .int .i64 0, .int .i64 0, .int .i64 0, .int .i64 0, .slice none 0 0, .slice none 0 0] 27
  have hxa := Ext.alloc no w (.cells #[.int .i64 0, .int .i64 0, .int .i64 0, .int .i64 0, .int .i64 0, .slice none 0 0, .slice none 0 0] 27)
  have hrd := hrd.ext hxa (fun _ _ h => h)
  generalize w.alloc (.cells #[.int .i64 0, .int .i64 0, .int .i64 0, .int .i64 0, .int .i64 0, .slice none 0 0, .slice none 0 0] 27) = w1 at *
  obtain ⟨q, hq⟩ : ∃ q, q = w.heap.size := ⟨_, rfl⟩
  rw [← hq] at hZ ⊢
  have hwq : w.heap.size ≤ q := by omega
  have hqw := hZ.lt (cmd_ne _ _)
  have hx := hxa
  clear hq hxa
  go_wp2_with fail
  refine (new_any w1 a c l hrd hll).mono ?_
  rintro e w2 ⟨g, d, rfl, hr, hgg, hdd, hy⟩
  have hZ := hZ.ext (cmd_ne _ _) hy (fun h => h)
  have hs1 := hx.size
  replace hx := hx.comp hy
  clear hy
  go_upto_region 2 with fail
  have hB := Blk.lit w2 #[.pointer (some ⟨g, 0, none⟩), .int .i64 0] 80
  have hxb := Ext.alloc no w2 (.cells #[.pointer (some ⟨g, 0, none⟩), .int .i64 0] 80)
  have hgl := hr.lt
  have hdl : ∀ i, d = some i → i < w2.heap.size := fun i hi => (hr.sep i hi).2
  have hr := hr.no hxb
  have hqb := hZ.lt (cmd_ne _ _)
  have hZ := hZ.ext (cmd_ne _ _) hxb (fun h => h)
  have hs2 := hx.size
  replace hx := hx.comp hxb
  clear hxb
  generalize w2.alloc (.cells #[.pointer (some ⟨g, 0, none⟩), .int .i64 0] 80) = w3 at *
  obtain ⟨R, hR⟩ : ∃ R, R = w2.heap.size := ⟨_, rfl⟩
  rw [← hR] at hB ⊢
  have hwR : w.heap.size ≤ R := by omega
  have hwg : w.heap.size ≤ g := by omega
  have hqR : q < R := by omega
  have hqg : q < g := by omega
  have h : WR w3 R g d ⟨l, 0⟩ 0 := ⟨hr, hB.cell 0 _ rfl, hB.cell 1 _ rfl, hB.fr 1, by omega, fun i hi => by have := hdl i hi; omega⟩
  clear hr hB hR hgl hdl hgg hdd hs1 hs2 hrd
  go_wp2_with fail
  refine (rcmd_any w3 R g ⟨l, 0⟩ 0 h).mono ?_
  rintro e w4 ⟨k, rfl, hKp, h, hy⟩
  have hqb : q < w3.heap.size := hZ.lt (cmd_ne _ _)
  have hZ := hZ.ext (cmd_ne _ _) hy (fun e => by rcases e with e | e <;> omega)
  have hwb : w.heap.size ≤ w3.heap.size := hx.size
  replace hx : Ext no w w4 := hx.trans hy (fun k hk e => by rcases e with e | e <;> omega)
  obtain ⟨C, hC⟩ : ∃ C, C = (wCmd ⟨l, 0⟩).1 := ⟨_, rfl⟩
  obtain ⟨s, hs⟩ : ∃ s, s = (wCmd ⟨l, 0⟩).2 := ⟨_, rfl⟩
  have HCE := Lib.hid (show cmdErr l = if rEnd s ≠ 0 then rEnd s else (opsErr C.ops : Int) by unfold cmdErr; rw [← hC, ← hs])
  rw [← hs, ← hC, foldErr_zero] at h
  rw [← hC] at hKp ⊢
  have HC := Lib.hid hC.symm
  clear hC hs hy
  have hRl := h.lt
  have hgl := h.glt
  have hdl := h.dlt
  rename_i hK
  dsimp only
  refine hK _ _ ?_
  clear hK
  refine wpList_plain rfl fun K hK => op_alloc_row (vs := (CmdR.zero.cells CmdA.zero).toArray) rfl (fun w => by kernel_rfl) fun hV => hK _ _ ?_
  simp only [Act.put, List.setIfInBounds_toArray, List.set_cons_zero, List.set_cons_succ]
  clear hK
  have hxb := Ext.alloc no w4 (.cells (CmdR.zero.cells CmdA.zero).toArray 27)
  obtain ⟨p, hp⟩ : ∃ p, p = w4.heap.size := ⟨_, rfl⟩
  rw [← hp] at hV ⊢
  have hqp : q < p := by have := hZ.lt (cmd_ne _ _); omega
  have hZ := hZ.ext (cmd_ne _ _) hxb (fun h => h)
  have h := h.no hxb
  have hgp : R < p ∧ g < p := ⟨by omega, by omega⟩
  have hdp : ∀ i, d = some i → i ≠ p := fun i hi => by have := hdl i hi; omega
  refine wpList_plain rfl fun K hK => op_store_row (vs := (C.cells k).toArray) rfl (by rfl) (by rfl) hV rfl (by kernel_rfl) (cmd_one _ _) fun hV hxs => hK _ _ ?_
  simp only [Act.put, List.setIfInBounds_toArray, List.set_cons_zero, List.set_cons_succ]
  clear hK
  have hZ := hZ.ext (cmd_ne _ _) hxs (fun e => by have e : q = p := e; omega)
  have hKx : Ext (fun k => k < w3.heap.size ∨ w4.heap.size ≤ k) w4 (((w4.alloc (.cells (CmdR.zero.cells CmdA.zero).toArray 27)).setCells p 0 (C.cells k).toArray.toList)) := (hxb.mono (fun _ _ h => h.elim)).comp (hxs.mono (fun k _ e => .inr (by have e : k = p := e; omega)))
  have hxp := hx.comp hxb
  have hwp : w.heap.size ≤ p := by have := hx.size; omega
  have hx := hxp.fresh hxs hwp
  have h := h.new hxs ⟨by omega, by omega⟩ hdp
  clear hp hxb hxp
  
  generalize (w4.alloc (.cells (CmdR.zero.cells CmdA.zero).toArray 27)).setCells p 0 (C.cells k).toArray.toList = wv at *
  clear hRl hgl hdl
  have hp0 := h.p
  have hpe := h.e
  go_wp2_with fail
  refine (end_any wv g s h.rd).mono ?_
  rintro e u1 ⟨rfl, rfl⟩
  obtain ⟨E0, hE0⟩ : ∃ E, E = rEnd s := ⟨_, rfl⟩
  rw [← hE0]
  have HCE2 := Lib.hid (show cmdErr l = if E0 ≠ 0 then E0 else (opsErr C.ops : Int) by rw [HCE.out, hE0])
  clear hE0 HCE
  by_cases c0 : E0 = 0
  · have d0 : (E0 == 0) = true := by rw [beq_iff_eq]; exact c0
    obtain ⟨E, hE⟩ : ∃ E : Int, E = (opsErr C.ops : Nat) := ⟨_, rfl⟩
    have HE := Lib.hid (show cmdErr l = E by rw [HCE2.out, if_neg (fun e => e c0), hE])
    rw [← hE] at hpe
    clear hE c0
    by_cases c1 : E = 0
    · subst c1
      go_upto_region 8 with fail
      refine wp_region_lit ?_
      refine wpList_load_mid rfl 27 (.tmp 5) rfl p 0 (by rfl) (C.cells k) _ hV.range Try.underlying27 rfl (by kernel_rfl) ?_
      simp only [Act.put, List.setIfInBounds_toArray, List.set_cons_zero, List.set_cons_succ]
      refine wpList_plain rfl fun K hK => op_store_row (vs := (C.cells k).toArray) rfl (by rfl) (by rfl) hZ rfl (by kernel_rfl) (cmd_one _ _) fun hF hxF => hK _ _ ?_
      simp only [Act.put, List.setIfInBounds_toArray, List.set_cons_zero, List.set_cons_succ]
      clear hK
      have hx4 := hx.fresh hxF hwq
      have hKy := hKx.comp (hxF.mono (fun k _ e => .inl (by have e : k = q := e; omega)))
      generalize wv.setCells q 0 (C.cells k).toArray.toList = wz at *
      go_wp2_with fail
      refine bodyPost_ret (v := .tuple #[C.val k, .int .i64 0]) ?_ rfl (pcEnd_good HE.out HC.out (hKp.wrap hKy hwb) hx4)
      exact cmd_results2 rfl _ _ (by rfl) (by rfl) hF
    · have d1 : (E != 0) = true := by rw [bne_iff_ne]; exact c1
      have HE0 := Lib.hid c1
      clear c1
      go_upto_region 7 with fail
      refine wp_region_lit ?_
      refine wp_val (by rfl) (CmdR.zero.val CmdA.zero) (by kernel_rfl) ?_
      simp only [Act.put, List.setIfInBounds_toArray, List.set_cons_zero, List.set_cons_succ]
      refine wp_move (.int .i64 E) rfl rfl (by rfl) ?_
      simp only [Act.put, List.setIfInBounds_toArray, List.set_cons_zero, List.set_cons_succ]
      refine wpList_plain rfl fun K hK => op_store_row (vs := (CmdR.zero.cells CmdA.zero).toArray) rfl (by rfl) (by rfl) hZ rfl (by kernel_rfl) (cmd_one _ _) fun hF hxF => hK _ _ ?_
      simp only [Act.put, List.setIfInBounds_toArray, List.set_cons_zero, List.set_cons_succ]
      clear hK
      have hx4 := hx.fresh hxF hwq
      generalize wv.setCells q 0 (CmdR.zero.cells CmdA.zero).toArray.toList = wz at *
      go_wp2_with fail
      refine bodyPost_ret (v := .tuple #[CmdR.zero.val CmdA.zero, .int .i64 E]) ?_ rfl (pcEnd_bad HE.out HE0.out hx4)
      exact cmd_results2 rfl _ _ (by rfl) (by rfl) hF
  · have d0 : (E0 == 0) = false := by rw [beq_eq_false_iff_ne]; exact c0
    obtain ⟨E, hE⟩ : ∃ E, E = E0 := ⟨_, rfl⟩
    rw [← hE] at HCE2 d0 c0 ⊢
    clear hE
    have d1 : (E != 0) = true := by rw [bne_iff_ne]; exact c0
    have HE0 := Lib.hid c0
    have HE := Lib.hid (show cmdErr l = E by rw [HCE2.out, if_pos c0])
    clear c0
    go_upto_region 7 with fail
    refine wp_region_lit ?_
    refine wp_val (by rfl) (CmdR.zero.val CmdA.zero) (by kernel_rfl) ?_
    simp only [Act.put, List.setIfInBounds_toArray, List.set_cons_zero, List.set_cons_succ]
    refine wp_move (.int .i64 E) rfl rfl (by rfl) ?_
    simp only [Act.put, List.setIfInBounds_toArray, List.set_cons_zero, List.set_cons_succ]
    refine wpList_plain rfl fun K hK => op_store_row (vs := (CmdR.zero.cells CmdA.zero).toArray) rfl (by rfl) (by rfl) hZ rfl (by kernel_rfl) (cmd_one _ _) fun hF hxF => hK _ _ ?_
    simp only [Act.put, List.setIfInBounds_toArray, List.set_cons_zero, List.set_cons_succ]
    clear hK
    have hx4 := hx.fresh hxF hwq
    generalize wv.setCells q 0 (CmdR.zero.cells CmdA.zero).toArray.toList = wz at *
    go_wp2_with fail
    refine bodyPost_ret (v := .tuple #[CmdR.zero.val CmdA.zero, .int .i64 E]) ?_ rfl (pcEnd_bad HE.out HE0.out hx4)
    exact cmd_results2 rfl _ _ (by rfl) (by rfl) hF

end Go.Proofs.Ytddobhihjljcgaa
