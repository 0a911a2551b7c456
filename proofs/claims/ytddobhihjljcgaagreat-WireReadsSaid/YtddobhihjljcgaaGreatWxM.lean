/- The reference's messages as one value. -/
import Derived.Test.YtddobhihjljcgaaGreatWiP
import Derived.Test.YtddobhihjljcgaaGreatWiRd2
namespace Go.Proofs.YtddobhihjljcgaaGreat
open Go.RowKit Go.Esc
set_option linter.unusedVariables false
set_option linter.unusedSimpArgs false
section
variable {ops : Array Oper} {rest : List Oper} {op : Oper} {a : Act} {w : World} {Q : Exit → Act → World → Prop} {x y : Operand} {m : MsgR} {h : MsgA} {g : Nat}
theorem wp_box_rmsg (hgd : op.guard = none) (ho : op.op = .box 42 x) (hx : a.eval x = m.val h)
  (hk : Blk (w.alloc (.cells (m.cells h).toArray 42)) w.heap.size (m.cells h) → wpList Tryz.prog ops Q rest (a.put op.dst (.pointer (some ⟨w.heap.size, 0, none⟩))) (w.alloc (.cells (m.cells h).toArray 42))) : wpList Tryz.prog ops Q (op :: rest) a w :=
 wp_box_val hgd ho hx rfl (hk (Blk.lit w (m.cells h).toArray _))
theorem wp_load_rmsg (hgd : op.guard = none) (ho : op.op = .load 42 x) (hx : a.eval x = .pointer (some ⟨g, 0, none⟩)) (hC : Blk w g (m.cells h))
  (hk : wpList Tryz.prog ops Q rest (a.put op.dst (m.val h)) w) : wpList Tryz.prog ops Q (op :: rest) a w :=
 wpList_load_mid hgd 42 x ho g 0 hx (m.cells h) _ hC.range Tryz.underlying42 rfl (by kernel_rfl) hk
theorem wp_store_rmsg {cs : List Value} (hgd : op.guard = none) (ho : op.op = .store 42 x y) (hx : a.eval x = .pointer (some ⟨g, 0, none⟩)) (hy : a.eval y = m.val h) (hC : Blk w g cs) (hl : cs.length = 25)
  (hk : Blk (w.setCells g 0 (m.cells h)) g (m.cells h) → Ext (just g) w (w.setCells g 0 (m.cells h)) → wpList Tryz.prog ops Q rest (a.put op.dst undef) (w.setCells g 0 (m.cells h))) : wpList Tryz.prog ops Q (op :: rest) a w :=
 wpList_store_mid hgd 42 x y ho g 0 (m.cells h).toArray hx hy (hC.there (by rw [hl]; rfl)) (by kernel_rfl) (msg_one m h) (hk (hC.all (by rw [hl]; rfl)) (Ext.setCells _ _ _ _ rfl))
theorem zeroRMsg (w : World) : (zeroValue 42).run Tryz.prog w = .ok (MsgR.zero.val MsgA.zero) w := by kernel_rfl
theorem wp_alloc_rmsg (hgd : op.guard = none) (ho : op.op = .alloc 42)
  (hk : Blk (w.alloc (.cells (MsgR.zero.cells MsgA.zero).toArray 42)) w.heap.size (MsgR.zero.cells MsgA.zero) → wpList Tryz.prog ops Q rest (a.put op.dst (.pointer (some ⟨w.heap.size, 0, none⟩))) (w.alloc (.cells (MsgR.zero.cells MsgA.zero).toArray 42))) : wpList Tryz.prog ops Q (op :: rest) a w := by
 refine wpList_plain hgd fun K hK => ?_
 have hrun : (Instr.alloc 42 true (.tuple #[])).run Tryz.prog w = .ok (.pointer (some ⟨w.heap.size, 0, none⟩)) (w.alloc (.cells (MsgR.zero.cells MsgA.zero).toArray 42)) := by
  unfold Instr.alloc
  simp only [Sem.run_bind, zeroRMsg, Result.andThen_ok]
  simp [go_sem]
  rfl
 unfold Oper.wp execOp
 simp only [ho, hrun, Sem.run_bind, Sem.run_pure, Result.andThen_ok]
 exact hK _ _ (hk (Blk.lit w (MsgR.zero.cells MsgA.zero).toArray _))
end
section
variable {ops : Array Oper} {rest : List Oper} {op : Oper} {a : Act} {w : World} {Q : Exit → Act → World → Prop} {x : Operand} {m : MsgR} {h : MsgA} {g : Nat}
theorem load_rmsg (hC : Blk w g (m.cells h)) : (loadVar 42 ⟨g, 0, none⟩).run Tryz.prog w = .ok (m.val h) w :=
 run_loadVar_mid w g 0 42 (m.cells h) _ hC.range Tryz.underlying42 rfl (by kernel_rfl)
theorem rmsg_result {fn : Func} {p : Tmp} (hf : fn.results = #[.cell p 42]) (tmps : Array Value) (w : World) {g : Nat} {m : MsgR} {h : MsgA} (h1 : tmps.getD p undef = .pointer (some ⟨g, 0, none⟩)) (hC : Blk w g (m.cells h)) :
  (results fn tmps).run Tryz.prog w = .ok (m.val h) w := by
 rw [results_cell1 hf, h1]
 simp only [asAddr, Sem.run_pure, Result.andThen_ok, load_rmsg hC]
theorem rparse_results {fn : Func} {p u : Tmp} (hf : fn.results = #[.cell p 42, .tmp u]) (tmps : Array Value) (w : World) {g : Nat} {m : MsgR} {h : MsgA} {v : Value} (h1 : tmps.getD p undef = .pointer (some ⟨g, 0, none⟩)) (h2 : tmps.getD u undef = v) (hC : Blk w g (m.cells h)) :
  (results fn tmps).run Tryz.prog w = .ok (.tuple #[m.val h, v]) w := by
 rw [results_cell_tmp hf, h1, h2]
 simp only [asAddr, Sem.run_pure, Result.andThen_ok, load_rmsg hC]
theorem rbuild1 (n : Int) (w : World) : (Instr.build 42 (List.toArray [(0, .int .i64 n)])).run Tryz.prog w = .ok ((kindM n).val MsgA.zero) w := by kernel_rfl
theorem wp_rbuild1 (n : Int) (hgd : op.guard = none) (ho : op.op = .build 42 #[(0, x)]) (hx : a.eval x = .int .i64 n)
  (hk : wpList Tryz.prog ops Q rest (a.put op.dst ((kindM n).val MsgA.zero)) w) : wpList Tryz.prog ops Q (op :: rest) a w := by
 refine wpList_plain hgd fun K hK => ?_
 unfold Oper.wp execOp
 simp only [ho, List.map_toArray, List.map_cons, List.map_nil, hx, Sem.run_bind, Sem.run_pure]
 rw [show (Instr.build 42 (List.toArray [(0, .int .i64 n)])).run Tryz.prog w = .ok ((kindM n).val MsgA.zero) w from rbuild1 n w]
 exact hK _ _ hk
end
end Go.Proofs.YtddobhihjljcgaaGreat
