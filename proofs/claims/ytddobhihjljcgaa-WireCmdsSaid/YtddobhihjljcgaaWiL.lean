/- A message as one value: put into a box, read, written, as one operation. -/
import Derived.Test.YtddobhihjljcgaaWiC
import Derived.Deep.MidRow
namespace Go.Esc
open Go.RowKit
variable {P : Program}
theorem run_box (w : World) (T : TypeId) (v : Value) : (Instr.box T v).run P w = .ok (.pointer (some ⟨w.heap.size, 0, none⟩)) (w.alloc (.cells v.cells T)) := by
  unfold Instr.box
  simp [go_sem]
/-- A value goes into a new box. -/
theorem wp_box_val {ops : Array Oper} {rest : List Oper} {op : Oper} {a : Act} {w : World} {Q : Exit → Act → World → Prop} {x : Operand} {T : TypeId} {v : Value} {cs : Array Value} (hgd : op.guard = none) (ho : op.op = .box T x) (hx : a.eval x = v) (hv : v.cells = cs)
    (hk : wpList P ops Q rest (a.put op.dst (.pointer (some ⟨w.heap.size, 0, none⟩))) (w.alloc (.cells cs T))) : wpList P ops Q (op :: rest) a w := by
  subst hv
  refine wpList_plain hgd fun K hK => ?_
  unfold Oper.wp execOp
  simp only [ho, hx, run_box, Sem.run_bind, Sem.run_pure, Result.andThen_ok]
  exact hK _ _ hk
theorem Blk.range {w : World} {g : Nat} {cs : List Value} (h : Blk w g cs) : w.rangeAt g 0 cs := fun j v hv => by rw [Nat.zero_add]; exact h.cell j v hv
theorem Blk.there {w : World} {g : Nat} {cs : List Value} (h : Blk w g cs) {n : Nat} (hn : n = cs.length) : w.there g 0 n := fun j hj => by
  rw [Nat.zero_add]
  exact ⟨by rw [h.cell j _ (List.getElem?_eq_getElem (by omega))]; rfl, h.fr j⟩
/-- All cells of a block are written. -/
theorem Blk.all {w : World} {g : Nat} {cs ds : List Value} (h : Blk w g cs) (hl : ds.length = cs.length) : Blk (w.setCells g 0 ds) g ds := by
  refine ⟨fun k v hv => ?_, fun k => ?_⟩
  · have := World.rangeAt_setCells_same w g 0 ds (h.there hl) k v hv
    rwa [Nat.zero_add] at this
  · rw [World.frozen?_setCells]; exact h.fr k
end Go.Esc
namespace Go.Proofs.Ytddobhihjljcgaa
open Go.RowKit Go.Esc
set_option linter.unusedVariables false
set_option linter.unusedSimpArgs false
section
variable {ops : Array Oper} {rest : List Oper} {op : Oper} {a : Act} {w : World} {Q : Exit → Act → World → Prop} {x y : Operand} {m : MsgR} {h : MsgA} {g : Nat}
theorem wp_box_msg (hgd : op.guard = none) (ho : op.op = .box 36 x) (hx : a.eval x = m.val h)
    (hk : Blk (w.alloc (.cells (m.cells h).toArray 36)) w.heap.size (m.cells h) → wpList Try.prog ops Q rest (a.put op.dst (.pointer (some ⟨w.heap.size, 0, none⟩))) (w.alloc (.cells (m.cells h).toArray 36))) : wpList Try.prog ops Q (op :: rest) a w :=
  wp_box_val hgd ho hx rfl (hk (Blk.lit w (m.cells h).toArray _))
theorem wp_load_msg (hgd : op.guard = none) (ho : op.op = .load 36 x) (hx : a.eval x = .pointer (some ⟨g, 0, none⟩)) (hC : Blk w g (m.cells h))
    (hk : wpList Try.prog ops Q rest (a.put op.dst (m.val h)) w) : wpList Try.prog ops Q (op :: rest) a w :=
  wpList_load_mid hgd 36 x ho g 0 hx (m.cells h) _ hC.range Try.underlying36 rfl (by kernel_rfl) hk
theorem msg_ne (m : MsgR) (h : MsgA) : m.cells h ≠ [] := by unfold MsgR.cells; simp
theorem msg_one (m : MsgR) (h : MsgA) : (m.cells h).toArray.all (·.oneCell') = true := all_oneCell_toArray (by
  intro v hv
  unfold MsgR.cells at hv
  simp only [List.mem_cons, List.not_mem_nil, or_false] at hv
  rcases hv with rfl | rfl | rfl | rfl | rfl | rfl | rfl | rfl | rfl | rfl | rfl | rfl | rfl | rfl | rfl | rfl | rfl | rfl | rfl | rfl | rfl | rfl | rfl | rfl | rfl <;> rfl)
theorem wp_store_msg {cs : List Value} (hgd : op.guard = none) (ho : op.op = .store 36 x y) (hx : a.eval x = .pointer (some ⟨g, 0, none⟩)) (hy : a.eval y = m.val h) (hC : Blk w g cs) (hl : cs.length = 25)
    (hk : Blk (w.setCells g 0 (m.cells h)) g (m.cells h) → Ext (just g) w (w.setCells g 0 (m.cells h)) → wpList Try.prog ops Q rest (a.put op.dst undef) (w.setCells g 0 (m.cells h))) : wpList Try.prog ops Q (op :: rest) a w :=
  wpList_store_mid hgd 36 x y ho g 0 (m.cells h).toArray hx hy (hC.there (by rw [hl]; rfl)) (by kernel_rfl) (msg_one m h) (hk (hC.all (by rw [hl]; rfl)) (Ext.setCells _ _ _ _ rfl))
theorem zeroMsg (w : World) : (zeroValue 36).run Try.prog w = .ok (MsgR.zero.val MsgA.zero) w := by kernel_rfl
theorem wp_alloc_msg (hgd : op.guard = none) (ho : op.op = .alloc 36)
    (hk : Blk (w.alloc (.cells (MsgR.zero.cells MsgA.zero).toArray 36)) w.heap.size (MsgR.zero.cells MsgA.zero) → wpList Try.prog ops Q rest (a.put op.dst (.pointer (some ⟨w.heap.size, 0, none⟩))) (w.alloc (.cells (MsgR.zero.cells MsgA.zero).toArray 36))) : wpList Try.prog ops Q (op :: rest) a w := by
  refine wpList_plain hgd fun K hK => ?_
  have hrun : (Instr.alloc 36 true (.tuple #[])).run Try.prog w = .ok (.pointer (some ⟨w.heap.size, 0, none⟩)) (w.alloc (.cells (MsgR.zero.cells MsgA.zero).toArray 36)) := by
    unfold Instr.alloc
    simp only [Sem.run_bind, zeroMsg, Result.andThen_ok]
    simp [go_sem]
    rfl
  unfold Oper.wp execOp
  simp only [ho, hrun, Sem.run_bind, Sem.run_pure, Result.andThen_ok]
  exact hK _ _ (hk (Blk.lit w (MsgR.zero.cells MsgA.zero).toArray _))
end
end Go.Proofs.Ytddobhihjljcgaa
