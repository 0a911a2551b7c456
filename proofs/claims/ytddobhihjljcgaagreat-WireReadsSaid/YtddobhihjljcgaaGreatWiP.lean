/- Operations on structs as one value, in a region that draws its order. -/
import Derived.Test.YtddobhihjljcgaaGreatWiCL
import Derived.Test.YtddobhihjljcgaaGreatWiE
import Derived.Test.YtddobhihjljcgaaGreatMA
namespace Go.Proofs.YtddobhihjljcgaaGreat
open Go.RowKit Go.Esc
set_option linter.unusedVariables false
set_option linter.unusedSimpArgs false
section
variable {K : Act → World → Prop} {Q : Exit → Act → World → Prop} {op : Oper} {a : Act} {w : World} {x y : Operand} {g : Nat} {T : TypeId}
theorem op_store_row {cs : List Value} {vs : Array Value} (ho : op.op = .store T x y) (hx : a.eval x = .pointer (some ⟨g, 0, none⟩)) (hy : a.eval y = .agg vs) (hC : Blk w g cs) (hl : vs.size = cs.length)
  (hi : (Tryz.prog.info? T).map (·.size) = some vs.size) (h1 : vs.all (·.oneCell') = true)
  (h : Blk (w.setCells g 0 vs.toList) g vs.toList → Ext (just g) w (w.setCells g 0 vs.toList) → K (a.put op.dst undef) (w.setCells g 0 vs.toList)) : op.wp Tryz.prog a w K Q :=
 wp_store_mid T x y ho g 0 vs hx hy (hC.there hl) hi h1 (h (hC.all (by simpa using hl)) (Ext.setCells _ _ _ _ rfl))
theorem op_store_msg {cs : List Value} {m : MsgR} {h : MsgA} (ho : op.op = .store 36 x y) (hx : a.eval x = .pointer (some ⟨g, 0, none⟩)) (hy : a.eval y = m.val h) (hC : Blk w g cs) (hl : cs.length = 25)
  (hk : Blk (w.setCells g 0 (m.cells h)) g (m.cells h) → Ext (just g) w (w.setCells g 0 (m.cells h)) → K (a.put op.dst undef) (w.setCells g 0 (m.cells h))) : op.wp Tryz.prog a w K Q :=
 op_store_row ho hx (vs := (m.cells h).toArray) hy hC (by rw [hl]; rfl) (by kernel_rfl) (msg_one m h) hk
theorem run_load_msg {op : Oper} {x : Operand} {m : MsgR} {h : MsgA} (ho : op.op = .load 36 x) (hx : a.eval x = .pointer (some ⟨g, 0, none⟩)) (hC : Blk w g (m.cells h)) :
  (execOp a.eval op).run Tryz.prog w = .ok (.value (m.val h)) w := by
 have h1 : (Instr.sureAddr (.pointer (some ⟨g, 0, none⟩))).run Tryz.prog w = .ok ⟨g, 0, none⟩ w := rfl
 unfold execOp
 simp only [ho, hx, Instr.loadAt, h1, Sem.run_bind, Sem.run_pure, load_msg hC, Result.andThen_ok]
/-- An operation that hands back a value and leaves the world as it is. -/
theorem wp_val {ops : Array Oper} {rest : List Oper} {Q : Exit → Act → World → Prop} (hw : Region.wanted op (yielded ops a.tmps) = true) (v : Value) (hr : (execOp a.eval op).run Tryz.prog w = .ok (.value v) w) (hk : wpList Tryz.prog ops Q rest (a.put op.dst v) w) :
  wpList Tryz.prog ops Q (op :: rest) a w := by
 refine wpList_step fun K hK => ?_
 simp only [hw, if_true]
 unfold Oper.wp
 simp only [hr]
 exact hK _ _ hk
end
end Go.Proofs.YtddobhihjljcgaaGreat
