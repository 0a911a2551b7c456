/- Operations on structs as one value, in a region that draws its order. -/
import Derived.Test.YtddobhihjljcgaaWiL
import Derived.Test.YtddobhihjljcgaaWiE
import Derived.Test.YtddobhihjljcgaaMA
namespace Go.Proofs.Ytddobhihjljcgaa
open Go.RowKit Go.Esc
set_option linter.unusedVariables false
set_option linter.unusedSimpArgs false
section
variable {K : Act → World → Prop} {Q : Exit → Act → World → Prop} {op : Oper} {a : Act} {w : World} {x y : Operand} {g : Nat} {T : TypeId}
theorem op_store_row {cs : List Value} {vs : Array Value} (ho : op.op = .store T x y) (hx : a.eval x = .pointer (some ⟨g, 0, none⟩)) (hy : a.eval y = .agg vs) (hC : Blk w g cs) (hl : vs.size = cs.length)
    (hi : (Try.prog.info? T).map (·.size) = some vs.size) (h1 : vs.all (·.oneCell') = true)
    (h : Blk (w.setCells g 0 vs.toList) g vs.toList → Ext (just g) w (w.setCells g 0 vs.toList) → K (a.put op.dst undef) (w.setCells g 0 vs.toList)) : op.wp Try.prog a w K Q :=
  wp_store_mid T x y ho g 0 vs hx hy (hC.there hl) hi h1 (h (hC.all (by simpa using hl)) (Ext.setCells _ _ _ _ rfl))
theorem op_store_msg {cs : List Value} {m : MsgR} {h : MsgA} (ho : op.op = .store 36 x y) (hx : a.eval x = .pointer (some ⟨g, 0, none⟩)) (hy : a.eval y = m.val h) (hC : Blk w g cs) (hl : cs.length = 25)
    (hk : Blk (w.setCells g 0 (m.cells h)) g (m.cells h) → Ext (just g) w (w.setCells g 0 (m.cells h)) → K (a.put op.dst undef) (w.setCells g 0 (m.cells h))) : op.wp Try.prog a w K Q :=
  op_store_row ho hx (vs := (m.cells h).toArray) hy hC (by rw [hl]; rfl) (by kernel_rfl) (msg_one m h) hk
theorem op_alloc_row {vs : Array Value} (ho : op.op = .alloc T) (hz : ∀ w, (zeroValue T).run Try.prog w = .ok (.agg vs) w)
    (hk : Blk (w.alloc (.cells vs T)) w.heap.size vs.toList → K (a.put op.dst (.pointer (some ⟨w.heap.size, 0, none⟩))) (w.alloc (.cells vs T))) : op.wp Try.prog a w K Q := by
  have hrun : (Instr.alloc T true (.tuple #[])).run Try.prog w = .ok (.pointer (some ⟨w.heap.size, 0, none⟩)) (w.alloc (.cells vs T)) := by
    unfold Instr.alloc
    simp only [Sem.run_bind, hz, Result.andThen_ok]
    try (simp [go_sem]; try rfl)
  unfold Oper.wp execOp
  simp only [ho, hrun, Sem.run_bind, Sem.run_pure, Result.andThen_ok]
  exact hk (Blk.lit w vs _)
theorem op_alloc_msg (ho : op.op = .alloc 36)
    (hk : Blk (w.alloc (.cells (MsgR.zero.cells MsgA.zero).toArray 36)) w.heap.size (MsgR.zero.cells MsgA.zero) → K (a.put op.dst (.pointer (some ⟨w.heap.size, 0, none⟩))) (w.alloc (.cells (MsgR.zero.cells MsgA.zero).toArray 36))) : op.wp Try.prog a w K Q :=
  op_alloc_row (vs := (MsgR.zero.cells MsgA.zero).toArray) ho (fun w => zeroMsg w) hk
theorem run_load_msg {op : Oper} {x : Operand} {m : MsgR} {h : MsgA} (ho : op.op = .load 36 x) (hx : a.eval x = .pointer (some ⟨g, 0, none⟩)) (hC : Blk w g (m.cells h)) :
    (execOp a.eval op).run Try.prog w = .ok (.value (m.val h)) w := by
  have h1 : (Instr.sureAddr (.pointer (some ⟨g, 0, none⟩))).run Try.prog w = .ok ⟨g, 0, none⟩ w := rfl
  unfold execOp
  simp only [ho, hx, Instr.loadAt, h1, Sem.run_bind, Sem.run_pure, load_msg hC, Result.andThen_ok]
/-- An operation that hands back a value and leaves the world as it is. -/
theorem wp_val {ops : Array Oper} {rest : List Oper} {Q : Exit → Act → World → Prop} (hw : Region.wanted op (yielded ops a.tmps) = true) (v : Value) (hr : (execOp a.eval op).run Try.prog w = .ok (.value v) w) (hk : wpList Try.prog ops Q rest (a.put op.dst v) w) :
    wpList Try.prog ops Q (op :: rest) a w := by
  refine wpList_step fun K hK => ?_
  simp only [hw, if_true]
  unfold Oper.wp
  simp only [hr]
  exact hK _ _ hk
/-- A lease's zero. -/
def lz : Array Value := #[.int .i64 0, .int .i64 0, .int .i64 0, .int .i64 0, .slice none 0 0, .slice none 0 0, .slice none 0 0]
theorem zeroLease (w : World) : (zeroValue 32).run Try.prog w = .ok (.agg lz) w := by kernel_rfl
theorem op_alloc_lease (ho : op.op = .alloc 32)
    (hk : Blk (w.alloc (.cells lz 32)) w.heap.size lz.toList → K (a.put op.dst (.pointer (some ⟨w.heap.size, 0, none⟩))) (w.alloc (.cells lz 32))) : op.wp Try.prog a w K Q :=
  op_alloc_row (vs := lz) ho (fun w => zeroLease w) hk
end
end Go.Proofs.Ytddobhihjljcgaa
