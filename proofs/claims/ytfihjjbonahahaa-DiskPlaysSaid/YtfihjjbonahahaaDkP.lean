/- What the law DiskPlays is handed. -/
import Derived.Test.YtfihjjbonahahaaOpenT
import Derived.Test.YtfihjjbonahahaaDkL
namespace Go.Esc
open Go.RowKit Go.ChangeShapes Go.WideShapes Go.ChangeAt

/-- One call: which, a number, bytes. -/
structure CallR where
  kind : Int
  n : Int
  a : Option Addr
  b : List UInt8
  c : Nat
def CallR.cells (r : CallR) : List Value := [.int .i64 r.kind, .int .i64 r.n, .slice r.a r.b.length r.c]
def CallR.good (W : World) (r : CallR) : Prop := I64ok r.kind ∧ I64ok r.n ∧ Rd W r.a (bs r.b) ∧ r.b.length ≤ r.c ∧ r.c ≤ maxLen
end Go.Esc
namespace Go.Proofs.Ytfihjjbonahahaa
open Go.RowKit Go.Esc

theorem open_calls {H : Type} {enc : TypeId × Value → H} {W : World} {v : Value} {d : DataW H} {p : List MemPlace} {base : Nat}
    (hv : Value.okWide Try.prog W .any base 62 v) (h : DataW.Trod enc Try.prog W 0 (fun _ => true) true 62 v d p) :
    ∃ (a : Option Addr) (l : List CallR) (c : Nat), v = .slice a l.length c ∧ Rd W a (l.flatMap CallR.cells) ∧ (∀ r ∈ l, r.good W) ∧ l.length ≤ c ∧ c ≤ maxLen := by
  refine open_rows_of Try.underlying62 (by kernel_rfl : Try.prog.cellsOf 67 = 3) (fun _ => rfl) ?_ hv h
  intro fuel cs x hf
  have hl := trod_cells Try.underlying67 hf
  rw [show Try.prog.cellsOf 67 = 3 by kernel_rfl] at hl
  obtain ⟨v0, v1, v2, rfl⟩ : ∃ v0 v1 v2, cs = [v0, v1, v2] := by
    match cs, hl with
    | [v0, v1, v2], _ => exact ⟨v0, v1, v2, rfl⟩
  obtain ⟨m0, y0, g0⟩ := trod_field Try.underlying67 hf 0 3 0 1 rfl rfl rfl (by kernel_rfl)
  obtain ⟨m1, y1, g1⟩ := trod_field Try.underlying67 hf 1 3 1 1 rfl rfl rfl (by kernel_rfl)
  obtain ⟨m2, y2, g2⟩ := trod_field Try.underlying67 hf 2 23 2 1 rfl rfl rfl (by kernel_rfl)
  obtain ⟨n0, e0, k0⟩ := trod_num Try.underlying3 g0
  obtain ⟨n1, e1, k1⟩ := trod_num Try.underlying3 g1
  obtain ⟨a, l, c, e2, k2, k3, k4⟩ := trod_bytes Try.underlying23 Try.underlying5 (by kernel_rfl) g2
  simp at e0 e1 e2
  subst e0 e1 e2
  exact ⟨⟨n0, n1, a, l, c⟩, rfl, k0, k1, k2, k3, k4⟩
end Go.Proofs.Ytfihjjbonahahaa
