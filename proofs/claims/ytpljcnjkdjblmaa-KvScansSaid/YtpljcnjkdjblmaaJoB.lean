/- The walk of journal.Open, first part: its closure, its results. -/
import Derived.Test.YtpljcnjkdjblmaaJoA
import Derived.Recover
namespace Go.Esc
open Go.RowKit
theorem Ext.setNew {S : Nat → Prop} {w0 w : World} {b : Nat} (hx : Ext S w0 w) (hb : w0.heap.size ≤ b) (k : Nat) (v : Value) : Ext S w0 (w.setCell ⟨b, k, none⟩ v) :=
  hx.trans (Ext.setCell (S := just b) w ⟨b, k, none⟩ v rfl) (fun i hi h => by simp only [Esc.just] at h; omega)
end Go.Esc
namespace Go.Proofs.Ytpljcnjkdjblmaa
open Go.RowKit Go.Esc
set_option linter.unusedVariables false

theorem results_cell4 {P : Program} {fn : Func} {p1 p2 p3 p4 : Tmp} {t1 t2 t3 t4 : TypeId} (h : fn.results = #[.cell p1 t1, .cell p2 t2, .cell p3 t3, .cell p4 t4]) (tmps : Array Value) (w : World) {a1 a2 a3 a4 : Addr} {v1 v2 v3 v4 : Value}
    (e1 : tmps.getD p1 undef = .pointer (some a1)) (e2 : tmps.getD p2 undef = .pointer (some a2)) (e3 : tmps.getD p3 undef = .pointer (some a3)) (e4 : tmps.getD p4 undef = .pointer (some a4))
    (l1 : (loadVar t1 a1).run P w = .ok v1 w) (l2 : (loadVar t2 a2).run P w = .ok v2 w) (l3 : (loadVar t3 a3).run P w = .ok v3 w) (l4 : (loadVar t4 a4).run P w = .ok v4 w) :
    (results fn tmps).run P w = .ok (.tuple #[v1, v2, v3, v4]) w := by
  rw [Array.getD_eq_getD_getElem?] at e1 e2 e3 e4
  simp only [results, h]
  simp [Sem.run_bind, Result.andThen, asAddr, e1, e2, e3, e4, l1, l2, l3, l4]

theorem ld_j (w : World) (g : Nat) (v : Value) (h : Blk w g [v]) : (loadVar 74 ⟨g, 0, none⟩).run Try.prog w = .ok v w := by
  have c := h.cell 0 _ rfl
  go_simp
theorem ld_b (w : World) (g : Nat) (v : Value) (h : Blk w g [v]) : (loadVar 37 ⟨g, 0, none⟩).run Try.prog w = .ok v w := by
  have c := h.cell 0 _ rfl
  go_simp
theorem ld_l (w : World) (g : Nat) (v : Value) (h : Blk w g [v]) : (loadVar 75 ⟨g, 0, none⟩).run Try.prog w = .ok v w := by
  have c := h.cell 0 _ rfl
  go_simp
theorem ld_e (w : World) (g : Nat) (v : Value) (h : Blk w g [v]) : (loadVar 25 ⟨g, 0, none⟩).run Try.prog w = .ok v w := by
  have c := h.cell 0 _ rfl
  go_simp

/-- The deferred closure, where there was no error. -/
theorem open1_ok (w : World) (b2 b3 b4 b5 : Nat) (h5 : Blk w b5 [.int .i64 0]) :
    CallsD Try.prog 42 #[.pointer (some ⟨b5, 0, none⟩), .pointer (some ⟨b2, 0, none⟩), .pointer (some ⟨b3, 0, none⟩), .pointer (some ⟨b4, 0, none⟩)] .returning w fun e u' w' => u' = .returning ∧ e = .returned (.tuple #[]) ∧ w' = w := by
  have c5 := h5.cell 0 _ rfl
  go_enter_d Try.func42, Try.ntmps42
  go_wp2_with fail
  go_end0
  exact ⟨rfl, rfl⟩
/-- .. where there was one: all is made nothing. -/
theorem open1_err (w : World) (b2 b3 b4 b5 : Nat) (k : Nat) (hk : k ≠ 0) (v2 v3 v4 : Value) (h5 : Blk w b5 [.int .i64 k]) (h2 : Blk w b2 [v2]) (h3 : Blk w b3 [v3]) (h4 : Blk w b4 [v4]) (n23 : b2 ≠ b3) (n24 : b2 ≠ b4) (n34 : b3 ≠ b4) :
    CallsD Try.prog 42 #[.pointer (some ⟨b5, 0, none⟩), .pointer (some ⟨b2, 0, none⟩), .pointer (some ⟨b3, 0, none⟩), .pointer (some ⟨b4, 0, none⟩)] .returning w fun e u' w' => u' = .returning ∧ e = .returned (.tuple #[]) ∧
      w' = ((w.setCell ⟨b2, 0, none⟩ (.pointer none)).setCell ⟨b3, 0, none⟩ (.slice none 0 0)).setCell ⟨b4, 0, none⟩ (.slice none 0 0) := by
  have c5 := h5.cell 0 _ rfl
  have c2 := h2.cell 0 _ rfl
  have c3 := h3.cell 0 _ rfl
  have c4 := h4.cell 0 _ rfl
  have f2 := h2.fr 0
  have f3 := h3.fr 0
  have f4 := h4.fr 0
  have hkb : ((k : Int) != 0) = true := by simp; omega
  go_enter_d Try.func42, Try.ntmps42
  go_wp2_with fail
  go_end0
  exact ⟨rfl, rfl⟩
end Go.Proofs.Ytpljcnjkdjblmaa
