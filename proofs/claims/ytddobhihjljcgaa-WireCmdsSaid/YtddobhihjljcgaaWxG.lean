/- Commands as one value; the reference's Cmd. -/
import Derived.Test.YtddobhihjljcgaaWxA
import Derived.Test.YtddobhihjljcgaaWxD
import Derived.Test.YtddobhihjljcgaaWiP
namespace Go.Proofs.Ytddobhihjljcgaa
open Go.RowKit Go.Esc
set_option linter.unusedVariables false
set_option linter.unusedSimpArgs false
section
variable {ops : Array Oper} {rest : List Oper} {op : Oper} {a : Act} {w : World} {Q : Exit → Act → World → Prop} {x y : Operand} {m : CmdR} {h : CmdA} {g : Nat}
theorem wp_box_cmd (hgd : op.guard = none) (ho : op.op = .box 27 x) (hx : a.eval x = m.val h)
    (hk : Blk (w.alloc (.cells (m.cells h).toArray 27)) w.heap.size (m.cells h) → wpList Try.prog ops Q rest (a.put op.dst (.pointer (some ⟨w.heap.size, 0, none⟩))) (w.alloc (.cells (m.cells h).toArray 27))) : wpList Try.prog ops Q (op :: rest) a w :=
  wp_box_val hgd ho hx rfl (hk (Blk.lit w (m.cells h).toArray _))
theorem wp_load_cmd {o : Nat} (hgd : op.guard = none) (ho : op.op = .load 27 x) (hx : a.eval x = .pointer (some ⟨g, o, none⟩)) (hC : w.rangeAt g o (m.cells h))
    (hk : wpList Try.prog ops Q rest (a.put op.dst (m.val h)) w) : wpList Try.prog ops Q (op :: rest) a w :=
  wpList_load_mid hgd 27 x ho g o hx (m.cells h) _ hC Try.underlying27 rfl (by kernel_rfl) hk
theorem run_load_cmd (ho : op.op = .load 27 x) (hx : a.eval x = .pointer (some ⟨g, 0, none⟩)) (hC : Blk w g (m.cells h)) : (execOp a.eval op).run Try.prog w = .ok (.value (m.val h)) w := by
  unfold execOp
  simp only [ho, hx, run_loadAt_mid (P := Try.prog) w g 0 27 (m.cells h) _ hC.range Try.underlying27 rfl (by kernel_rfl), Sem.run_bind, Sem.run_pure, Result.andThen_ok]
  rfl
theorem wp_alloc_cmd (hgd : op.guard = none) (ho : op.op = .alloc 27)
    (hk : Blk (w.alloc (.cells (CmdR.zero.cells CmdA.zero).toArray 27)) w.heap.size (CmdR.zero.cells CmdA.zero) → wpList Try.prog ops Q rest (a.put op.dst (.pointer (some ⟨w.heap.size, 0, none⟩))) (w.alloc (.cells (CmdR.zero.cells CmdA.zero).toArray 27))) : wpList Try.prog ops Q (op :: rest) a w :=
  wpList_plain hgd fun K hK => op_alloc_row (vs := (CmdR.zero.cells CmdA.zero).toArray) ho (fun w => by kernel_rfl) fun hV => hK _ _ (hk hV)
theorem wp_store_cmd {cs : List Value} (hgd : op.guard = none) (ho : op.op = .store 27 x y) (hx : a.eval x = .pointer (some ⟨g, 0, none⟩)) (hy : a.eval y = m.val h) (hC : Blk w g cs) (hl : cs.length = 7)
    (hk : Blk (w.setCells g 0 (m.cells h)) g (m.cells h) → Ext (just g) w (w.setCells g 0 (m.cells h)) → wpList Try.prog ops Q rest (a.put op.dst undef) (w.setCells g 0 (m.cells h))) : wpList Try.prog ops Q (op :: rest) a w :=
  wpList_plain hgd fun K hK => op_store_row (vs := (m.cells h).toArray) ho hx hy hC (by rw [hl]; rfl) (by kernel_rfl) (cmd_one _ _) fun h1 h2 => hK _ _ (hk h1 h2)
/-- Bytes as a string. -/
theorem run_str {sa : Option Addr} {n c : Nat} {l : List UInt8} (ho : op.op = .convert 40 9 x) (hx : a.eval x = .slice sa n c) (hn : n = l.length) (hr : Rd w sa (bs l)) : (execOp a.eval op).run Try.prog w = .ok (.value (.string (str l))) w := by
  unfold execOp
  simp only [ho, hx, convStr w sa n c l hn hr, Sem.run_bind, Sem.run_pure, Result.andThen_ok]
end
set_option maxRecDepth 100000 in
set_option maxHeartbeats 4000000 in
theorem refcmd_any (w : World) (C : CmdR) (h : CmdA) (hin : C.In w h) (hok : C.ok) (hf : C.few) :
    Calls Try.prog 16 #[C.val h] w fun e w' => ∃ a c, e = .returned (.slice a (cmdEnc C).length c) ∧ Own w' w.heap.size a 1 (cmdEnc C).length c (bs (cmdEnc C)) ∧ Ext no w w' := by
  go_enter Try.func16, Try.ntmps16
  go_upto_region 0 with fail
  refine wp_region_lit ?_
  refine wp_box_cmd rfl rfl (by rfl) (fun hC => ?_)
  simp only [Act.put, List.setIfInBounds_toArray, List.set_cons_zero, List.set_cons_succ]
  have hxa := Ext.alloc no w (.cells (C.cells h).toArray 27)
  generalize w.alloc (.cells (C.cells h).toArray 27) = w1 at *
  go_upto_region 1 with fail
  refine wp_region_lit ?_
  refine wp_load_cmd (m := C) (h := h) rfl rfl (by rfl) hC.range ?_
  simp only [Act.put, List.setIfInBounds_toArray, List.set_cons_zero, List.set_cons_succ]
  go_wp2_with fail
  refine (xcmd_any w1 w1 w1.heap.size none 0 0 [] C h (Own.nil _ _ _) (Nat.le_refl _) (by omega) (hin.no hxa) (Nat.le_refl _) (Ext.refl _ _) hok hf).mono ?_
  rintro e w2 ⟨a2, c2, rfl, hA⟩
  have hown := hA.own
  rw [Nat.zero_add, List.nil_append] at hown
  have hx : Ext no w w2 := hxa.comp (hA.ext.mono (fun k _ hk => by obtain ⟨ad, h, _⟩ := hk; cases h))
  rw [Nat.zero_add]
  have hown := hown.mono hxa.size
  clear hA
  go_wp2_with fail
  go_ret
  exact ⟨a2, c2, rfl, hown, hx⟩
end Go.Proofs.Ytddobhihjljcgaa
