/- Commands, read by wire and by the reference. -/
import Derived.Test.YtddobhihjljcgaaWxC
namespace Go.Proofs.Ytddobhihjljcgaa
open Go.RowKit Go.Esc
set_option linter.unusedVariables false
set_option linter.unusedSimpArgs false
theorem cmd_results2 {fn : Func} {p u : Tmp} (hf : fn.results = #[.cell p 27, .tmp u]) (tmps : Array Value) (w : World) {q : Nat} {c : CmdR} {k : CmdA} {v : Value} (h1 : tmps.getD p undef = .pointer (some ⟨q, 0, none⟩)) (h2 : tmps.getD u undef = v) (hC : Blk w q (c.cells k)) :
    (results fn tmps).run Try.prog w = .ok (.tuple #[c.val k, v]) w := by
  rw [results_cell_tmp hf, h1, h2]
  have := run_loadVar_mid (P := Try.prog) w q 0 27 (c.cells k) _ hC.range Try.underlying27 rfl (by kernel_rfl)
  simp only [asAddr, Sem.run_pure, Result.andThen_ok, this]
  rfl
theorem cmd_one (c : CmdR) (k : CmdA) : (c.cells k).toArray.all (·.oneCell') = true := all_oneCell_toArray (by
  intro v hv
  unfold CmdR.cells at hv
  simp only [List.mem_cons, List.not_mem_nil, or_false] at hv
  rcases hv with rfl | rfl | rfl | rfl | rfl | rfl | rfl <;> rfl)
theorem cmd_ne (c : CmdR) (k : CmdA) : c.cells k ≠ [] := by unfold CmdR.cells; simp
theorem Kept.wrap {w w4 w5 w' : World} {P : World → Prop} (h : Kept w4 w5 P) (hx : Ext (fun k => k < w4.heap.size ∨ w5.heap.size ≤ k) w5 w') (hw : w.heap.size ≤ w4.heap.size) : Kept w w' P :=
  fun S wz hz hS => h _ wz (hx.comp (hz.mono (fun k _ hk => by have := hS k hk; have := hx.size; omega))) (fun k hk => hk)
def PcEnd (w : World) (l : List UInt8) (e : Ending) (w' : World) : Prop := ∃ k : CmdA, e = .returned (.tuple #[(parseCmd l).val k, .int .i64 (cmdErr l)]) ∧ Kept w w' (fun wz => (parseCmd l).In wz k) ∧ Ext no w w'
theorem pcEnd_bad {w w' : World} {l : List UInt8} {E : Int} (h : cmdErr l = E) (h0 : E ≠ 0) (hx : Ext no w w') : PcEnd w l (.returned (.tuple #[CmdR.zero.val CmdA.zero, .int .i64 E])) w' := by
  have hp : parseCmd l = CmdR.zero := by unfold parseCmd; rw [if_neg (by rw [h]; exact h0)]
  exact ⟨CmdA.zero, by rw [hp, h], by rw [hp]; exact fun _ _ _ _ => CmdR.In.zero _, hx⟩
theorem pcEnd_good {w w' : World} {l : List UInt8} {C : CmdR} {k : CmdA} (h : cmdErr l = 0) (hC : (wCmd ⟨l, 0⟩).1 = C) (hk : Kept w w' (fun wz => C.In wz k)) (hx : Ext no w w') : PcEnd w l (.returned (.tuple #[C.val k, .int .i64 0])) w' := by
  have hp : parseCmd l = C := by unfold parseCmd; rw [if_pos h, hC]
  exact ⟨k, by rw [hp, h], by rw [hp]; exact hk, hx⟩
theorem foldErr_ne {x : Int} (h : x ≠ 0) : ∀ l, opsErr2 x l = x
  | [] => rfl
  | o :: l => by
    show opsErr2 (opErr x o) l = x
    have e : opErr x o = x := by unfold opErr; rw [if_neg h]
    rw [e]
    exact foldErr_ne h l
theorem foldErr_zero : ∀ l, opsErr2 0 l = (opsErr l : Int)
  | [] => rfl
  | o :: l => by
    show opsErr2 (opErr 0 o) l = _
    unfold opsErr
    by_cases h : checkOp o = 0
    · rw [if_neg (fun e => e h)]
      have e : opErr 0 o = 0 := by unfold opErr; rw [if_pos rfl, h]; rfl
      rw [e]
      exact foldErr_zero l
    · rw [if_pos h]
      have e : opErr 0 o = (checkOp o : Int) := by unfold opErr; rw [if_pos rfl]
      rw [e]
      exact foldErr_ne (by omega) l
theorem xRow_all {α : Type} {f : RS → α × RS} {P : α → Prop} (hf : ∀ s, P (f s).1) : ∀ n s, ∀ x ∈ (xRow f n s).1, P x
  | 0, s, x, h => by cases h
  | n + 1, s, x, h => by
    unfold xRow at h
    split at h
    · cases h
    · rcases List.mem_cons.1 h with h | h
      · rw [h]; exact hf s
      · exact xRow_all hf n _ x h
theorem xRow_len {α : Type} {f : RS → α × RS} : ∀ n s, (xRow f n s).1.length ≤ n
  | 0, s => Nat.le_refl _
  | n + 1, s => by
    unfold xRow
    split
    · simp
    · rw [List.length_cons]; have := xRow_len (f := f) n (f s).2; omega
def FineO (o : OpR) : Prop := o.dots.length ≤ 1099511627776 ∧ o.key.length ≤ maxLen ∧ o.text.length ≤ maxLen
theorem pRead_fineO (s : RS) : FineO (pRead s).1 := by
  obtain ⟨_, h1, h2, h3⟩ := pRead_fine s
  exact ⟨by omega, by unfold maxLen; omega, by unfold maxLen; omega⟩
theorem xOps_fine (s : RS) : (xOps s).1.length ≤ 1000000 ∧ ∀ o ∈ (xOps s).1, o.dots.length ≤ 1099511627776 ∧ o.key.length ≤ maxLen ∧ o.text.length ≤ maxLen := by
  refine ⟨?_, ?_⟩
  · have h1 := xRow_len (f := pRead) (pSize 20 s).1 (pSize 20 s).2
    have h2 := pSize_le (m := 20) (by omega) s
    show (xRow pRead (pSize 20 s).1 (pSize 20 s).2).1.length ≤ _
    omega
  · intro o ho
    unfold xOps at ho
    generalize (pSize 20 s).1 = n at ho
    generalize (pSize 20 s).2 = t at ho
    have q := xRow_all (P := FineO) pRead_fineO n t o ho
    unfold FineO at q
    exact q
theorem xCmd_ops (s : RS) : (xCmd s).1.ops = (xOps (xRow pWant (pSize 20 (rInt (rInt (rInt (rInt (rInt s).2).2).2).2).2).1 (pSize 20 (rInt (rInt (rInt (rInt (rInt s).2).2).2).2).2).2).2).1 := by
  unfold xCmd
  rfl

set_option maxRecDepth 100000 in
set_option maxHeartbeats 4000000 in
theorem xparseCmd_any (w : World) (a : Option Addr) (c : Nat) (l : List UInt8) (hrd : Rd w a (bs l)) (hlc : l.length ≤ c) (hcm : c ≤ maxLen) :
    Calls Try.prog 18 #[.slice a l.length c] w (PcEnd w l) := by
  go_enter Try.func18, Try.ntmps18
  go_upto_region 1 with fail
  have hZ : Blk (w.alloc (.cells #[.int .i64 0, .int .i64 0, .int .i64 0, .int .i64 0, .int .i64 0, .slice none 0 0, .slice none 0 0] 27)) w.heap.size (CmdR.zero.cells CmdA.zero) := Blk.lit w #[.int .i64 0, .int .i64 0, .int .i64 0, .int .i64 0, .int .i64 0, .slice none 0 0, .slice none 0 0] 27
  have hxa := Ext.alloc no w (.cells #[.int .i64 0, .int .i64 0, .int .i64 0, .int .i64 0, .int .i64 0, .slice none 0 0, .slice none 0 0] 27)
  have hrd := hrd.ext hxa (fun _ _ h => h)
  generalize w.alloc (.cells #[.int .i64 0, .int .i64 0, .int .i64 0, .int .i64 0, .int .i64 0, .slice none 0 0, .slice none 0 0] 27) = w1 at *
  obtain ⟨q, hq⟩ : ∃ q, q = w.heap.size := ⟨_, rfl⟩
  rw [← hq] at hZ ⊢
  have hwq : w.heap.size ≤ q := by omega
  have hqw := hZ.lt (cmd_ne _ _)
  have hx := hxa
  clear hq hxa
  go_wp2_with fail
  refine (xnew_any w1 a c l hrd hlc hcm).mono ?_
  rintro e w2 ⟨rfl, h, hy⟩
  obtain ⟨g, hg⟩ : ∃ g, g = w1.heap.size := ⟨_, rfl⟩
  rw [← hg] at h ⊢
  have hqg : q < g := by omega
  have hwg : w.heap.size ≤ g := by omega
  have hZ := hZ.ext (cmd_ne _ _) hy (fun h => h)
  replace hx := hx.comp hy
  clear hg hy
  go_wp2_with fail
  refine (xreadCmd_any w2 g ⟨l, 0⟩ h).mono ?_
  rintro e w3 ⟨k, rfl, hKp, h, hy⟩
  have hqb : q < w2.heap.size := hZ.lt (cmd_ne _ _)
  have hZ := hZ.ext (cmd_ne _ _) hy (fun e => by have e : q = g := e; omega)
  have hwb : w.heap.size ≤ w2.heap.size := hx.size
  replace hx := hx.fresh hy hwg
  have hgl := h.lt
  have hst := xCmd_state ⟨l, 0⟩
  have hvl := xCmd_val ⟨l, 0⟩
  have hfn := xOps_fine (xRow pWant (pSize 20 (rInt (rInt (rInt (rInt (rInt (⟨l, 0⟩ : RS)).2).2).2).2).2).1 (pSize 20 (rInt (rInt (rInt (rInt (rInt (⟨l, 0⟩ : RS)).2).2).2).2).2).2).2
  rw [← xCmd_ops] at hfn
  obtain ⟨C, hC⟩ : ∃ C, C = (xCmd ⟨l, 0⟩).1 := ⟨_, rfl⟩
  obtain ⟨s, hs⟩ : ∃ s, s = (xCmd ⟨l, 0⟩).2 := ⟨_, rfl⟩
  rw [← hs] at h hst
  rw [← hC] at hKp hvl hfn ⊢
  have hCE := Lib.hid (show cmdErr l = if rEnd s ≠ 0 then rEnd s else (opsErr (wCmd ⟨l, 0⟩).1.ops : Int) by unfold cmdErr; rw [← hst])
  have hCV := Lib.hid (show s.e = 0 → (wCmd ⟨l, 0⟩).1 = C by intro h0; rw [hst] at h0; exact (hvl h0).symm)
  have hin := hKp
  clear hC hs hst hvl hy
  rename_i hK
  dsimp only
  refine hK _ _ ?_
  clear hK
  refine wpList_plain rfl fun K hK => op_alloc_row (vs := (CmdR.zero.cells CmdA.zero).toArray) rfl (fun w => by kernel_rfl) fun hV => hK _ _ ?_
  simp only [Act.put, List.setIfInBounds_toArray, List.set_cons_zero, List.set_cons_succ]
  clear hK
  have h0 := h
  have hxb := Ext.alloc no w3 (.cells (CmdR.zero.cells CmdA.zero).toArray 27)
  obtain ⟨p, hp⟩ : ∃ p, p = w3.heap.size := ⟨_, rfl⟩
  rw [← hp] at hV ⊢
  have hqp : q < p := by have := hZ.lt (cmd_ne _ _); omega
  have hZ := hZ.ext (cmd_ne _ _) hxb (fun h => h)
  have h := h.no hxb
  have hgp : g < p := by omega
  refine wpList_plain rfl fun K hK => op_store_row (vs := (C.cells k).toArray) rfl (by rfl) (by rfl) hV rfl (by kernel_rfl) (cmd_one _ _) fun hV hxs => hK _ _ ?_
  simp only [Act.put, List.setIfInBounds_toArray, List.set_cons_zero, List.set_cons_succ]
  clear hK
  have hZ := hZ.ext (cmd_ne _ _) hxs (fun e => by have e : q = p := e; omega)
  have hKx : Ext (fun k => k < w2.heap.size ∨ w3.heap.size ≤ k) w3 (((w3.alloc (.cells (CmdR.zero.cells CmdA.zero).toArray 27)).setCells p 0 (C.cells k).toArray.toList)) := (hxb.mono (fun _ _ h => h.elim)).comp (hxs.mono (fun k _ e => .inr (by have e : k = p := e; omega)))
  have hxp := hx.comp hxb
  have hwp : w.heap.size ≤ p := by have := hx.size; omega
  have hx := hxp.fresh hxs hwp
  have h := h.ext hxs (by simp only [Esc.just]; omega) (fun hb ad ha e => by have := xrdr_low h0 hb ad ha; have e : ad.block = p := e; omega)
  clear hp hxb hxp
  
  generalize (w3.alloc (.cells (CmdR.zero.cells CmdA.zero).toArray 27)).setCells p 0 (C.cells k).toArray.toList = wv at *
  clear h0
  go_wp2_with fail
  refine (xend_any wv g s h).mono ?_
  rintro e w4 ⟨rfl, hy⟩
  have hZ := hZ.ext (cmd_ne _ _) hy (fun h => h)
  have hV := hV.ext (cmd_ne _ _) hy (fun h => h)
  have hKx := hKx.comp (hy.mono (fun _ _ h => h.elim))
  replace hx := hx.comp hy
  clear hy
  obtain ⟨E0, hE0⟩ : ∃ E, E = rEnd s := ⟨_, rfl⟩
  have hse : E0 = 0 → s.e = 0 := by
    intro e0
    rw [e0] at hE0
    unfold rEnd at hE0
    split at hE0
    · omega
    · exact hE0.symm
  have HSE := Lib.hid hse
  have HCE := Lib.hid (show cmdErr l = if E0 ≠ 0 then E0 else (opsErr (wCmd ⟨l, 0⟩).1.ops : Int) by rw [hCE.out, hE0])
  rw [← hE0]
  clear hE0 hse hCE
  by_cases c0 : E0 = 0
  · have d0 : (E0 == 0) = true := by rw [beq_iff_eq]; exact c0
    have HC := Lib.hid (hCV.out (HSE.out c0))
    have HG := Lib.hid (show cmdErr l = (opsErr C.ops : Int) by rw [HCE.out, if_neg (fun e => e c0), HC.out])
    clear c0
    have c6 := hV.cell 6 _ rfl
    go_wp2_with fail
    refine (xgood_any w4 k.o k.oc C.ops (hKp _ w4 hKx (fun k hk => hk)).o hfn.1 hfn.2).mono ?_
    rintro e w5 ⟨rfl, hy⟩
    have hZ := hZ.ext (cmd_ne _ _) hy (fun h => h)
    have hV := hV.ext (cmd_ne _ _) hy (fun h => h)
    have hKx := hKx.comp (hy.mono (fun _ _ h => h.elim))
    replace hx := hx.comp hy
    clear hy c6
    obtain ⟨E, hE⟩ : ∃ E : Int, E = (opsErr C.ops : Nat) := ⟨_, rfl⟩
    have HE := Lib.hid (show cmdErr l = E by rw [HG.out, hE])
    rw [← hE]
    clear hE
    by_cases c1 : E = 0
    · subst c1
      go_upto_region 8 with fail
      refine wp_region_lit ?_
      refine wpList_load_mid rfl 27 (.tmp 5) rfl p 0 (by rfl) (C.cells k) _ hV.range Try.underlying27 rfl (by kernel_rfl) ?_
      simp only [Act.put, List.setIfInBounds_toArray, List.set_cons_zero, List.set_cons_succ]
      refine wpList_plain rfl fun K hK => op_store_row (vs := (C.cells k).toArray) rfl (by rfl) (by rfl) hZ rfl (by kernel_rfl) (cmd_one _ _) fun hF hxF => hK _ _ ?_
      simp only [Act.put, List.setIfInBounds_toArray, List.set_cons_zero, List.set_cons_succ]
      clear hK
      have hx4 := hx.fresh hxF hwq
      have hKy := hKx.comp (hxF.mono (fun k _ e => .inl (by have e : k = q := e; omega)))
      generalize w5.setCells q 0 (C.cells k).toArray.toList = wz at *
      go_wp2_with fail
      refine bodyPost_ret (v := .tuple #[C.val k, .int .i64 0]) ?_ rfl (pcEnd_good HE.out HC.out (hKp.wrap hKy hwb) hx4)
      exact cmd_results2 rfl _ _ (by rfl) (by rfl) hF
    · have d1 : (E != 0) = true := by rw [bne_iff_ne]; exact c1
      have HE0 := Lib.hid c1
      clear c1
      go_upto_region 7 with fail
      refine wp_region_lit ?_
      refine wp_val (by rfl) (CmdR.zero.val CmdA.zero) (by kernel_rfl) ?_
      simp only [Act.put, List.setIfInBounds_toArray, List.set_cons_zero, List.set_cons_succ]
      refine wp_move (.int .i64 E) rfl rfl (by rfl) ?_
      simp only [Act.put, List.setIfInBounds_toArray, List.set_cons_zero, List.set_cons_succ]
      refine wpList_plain rfl fun K hK => op_store_row (vs := (CmdR.zero.cells CmdA.zero).toArray) rfl (by rfl) (by rfl) hZ rfl (by kernel_rfl) (cmd_one _ _) fun hF hxF => hK _ _ ?_
      simp only [Act.put, List.setIfInBounds_toArray, List.set_cons_zero, List.set_cons_succ]
      clear hK
      have hx4 := hx.fresh hxF hwq
      generalize w5.setCells q 0 (CmdR.zero.cells CmdA.zero).toArray.toList = wz at *
      go_wp2_with fail
      refine bodyPost_ret (v := .tuple #[CmdR.zero.val CmdA.zero, .int .i64 E]) ?_ rfl (pcEnd_bad HE.out HE0.out hx4)
      exact cmd_results2 rfl _ _ (by rfl) (by rfl) hF
  · have d0 : (E0 == 0) = false := by rw [beq_eq_false_iff_ne]; exact c0
    obtain ⟨E, hE⟩ : ∃ E, E = E0 := ⟨_, rfl⟩
    rw [← hE] at HCE d0 c0 ⊢
    clear hE
    have d1 : (E != 0) = true := by rw [bne_iff_ne]; exact c0
    have HE0 := Lib.hid c0
    have HE := Lib.hid (show cmdErr l = E by rw [HCE.out, if_pos c0])
    clear c0
    go_upto_region 7 with fail
    refine wp_region_lit ?_
    refine wp_val (by rfl) (CmdR.zero.val CmdA.zero) (by kernel_rfl) ?_
    simp only [Act.put, List.setIfInBounds_toArray, List.set_cons_zero, List.set_cons_succ]
    refine wp_move (.int .i64 E) rfl rfl (by rfl) ?_
    simp only [Act.put, List.setIfInBounds_toArray, List.set_cons_zero, List.set_cons_succ]
    refine wpList_plain rfl fun K hK => op_store_row (vs := (CmdR.zero.cells CmdA.zero).toArray) rfl (by rfl) (by rfl) hZ rfl (by kernel_rfl) (cmd_one _ _) fun hF hxF => hK _ _ ?_
    simp only [Act.put, List.setIfInBounds_toArray, List.set_cons_zero, List.set_cons_succ]
    clear hK
    have hx4 := hx.fresh hxF hwq
    generalize w4.setCells q 0 (CmdR.zero.cells CmdA.zero).toArray.toList = wz at *
    go_wp2_with fail
    refine bodyPost_ret (v := .tuple #[CmdR.zero.val CmdA.zero, .int .i64 E]) ?_ rfl (pcEnd_bad HE.out HE0.out hx4)
    exact cmd_results2 rfl _ _ (by rfl) (by rfl) hF

end Go.Proofs.Ytddobhihjljcgaa
