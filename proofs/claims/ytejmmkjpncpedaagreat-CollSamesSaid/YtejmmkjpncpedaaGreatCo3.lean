/- Rows of operations, as an argument holds them. -/
import Derived.Test.YtejmmkjpncpedaaGreatOpenT
import Derived.Test.YtejmmkjpncpedaaGreatCoX
import Derived.Test.YtejmmkjpncpedaaGreatRows
namespace Go.Proofs.YtejmmkjpncpedaaGreat
open Go.RowKit Go.Esc Go.ChangeShapes Go.WideShapes Go.ChangeAt
theorem trod_dot {H : Type} {enc : TypeId × Value → H} {W : World} {fuel : Nat} {cs : List Value} {x : DataW H × List MemPlace}
    (hf : DataW.trod enc Tryz.prog W 0 (fun _ => true) true fuel 39 cs = some x) : ∃ d : DotR, cs = d.cells ∧ d.ok := by
  have hl := trod_cells Tryz.underlying39 hf
  rw [show Tryz.prog.cellsOf 39 = 3 by kernel_rfl] at hl
  obtain ⟨v0, v1, v2, rfl⟩ : ∃ v0 v1 v2, cs = [v0, v1, v2] := by
    match cs, hl with
    | [v0, v1, v2], _ => exact ⟨v0, v1, v2, rfl⟩
  obtain ⟨m0, y0, g0⟩ := trod_field Tryz.underlying39 hf 0 3 0 1 rfl rfl rfl (by kernel_rfl)
  obtain ⟨m1, y1, g1⟩ := trod_field Tryz.underlying39 hf 1 3 1 1 rfl rfl rfl (by kernel_rfl)
  obtain ⟨m2, y2, g2⟩ := trod_field Tryz.underlying39 hf 2 3 2 1 rfl rfl rfl (by kernel_rfl)
  obtain ⟨n0, e0, k0⟩ := trod_num Tryz.underlying3 g0
  obtain ⟨n1, e1, k1⟩ := trod_num Tryz.underlying3 g1
  obtain ⟨n2, e2, k2⟩ := trod_num Tryz.underlying3 g2
  simp at e0 e1 e2
  subst e0 e1 e2
  exact ⟨⟨n0, n1, n2⟩, rfl, k0, k1, k2⟩
theorem trod_dots {H : Type} {enc : TypeId × Value → H} {W : World} {fuel : Nat} {cs : List Value} {x : DataW H × List MemPlace}
    (hf : DataW.trod enc Tryz.prog W 0 (fun _ => true) true fuel 28 cs = some x) : ∃ (a : Option Addr) (l : List DotR) (c : Nat), cs = [.slice a l.length c] ∧ Rd W a (ds l) ∧ (∀ d ∈ l, d.ok) ∧ l.length ≤ c ∧ c ≤ maxLen :=
  trod_rows Tryz.underlying28 (by kernel_rfl : Tryz.prog.cellsOf 39 = 3) (fun _ => rfl) (fun _ _ _ h => trod_dot h) hf
theorem trod_str {H : Type} {enc : TypeId × Value → H} {P : Program} {W : World} {t : TypeId} {fuel : Nat} {cs : List Value} {x : DataW H × List MemPlace} (ht : P.underlying t = some .string)
    (hf : DataW.trod enc P W 0 (fun _ => true) true fuel t cs = some x) : ∃ l : List UInt8, cs = [.string (str l)] ∧ l.length ≤ maxLen := by
  obtain ⟨s, rfl, _, hs⟩ := DataW.trod_string ht hf
  exact ⟨s.data.toList, rfl, by rw [size_list]; exact hs⟩
theorem trod_op {H : Type} {enc : TypeId × Value → H} {W : World} {fuel : Nat} {cs : List Value} {x : DataW H × List MemPlace}
    (hf : DataW.trod enc Tryz.prog W 0 (fun _ => true) true fuel 51 cs = some x) : ∃ (o : OpR) (a : Option Addr) (c : Nat), cs = o.cells a c ∧ o.ok ∧ Rd W a (ds o.dots) ∧ o.dots.length ≤ c ∧ c ≤ maxLen := by
  have hl := trod_cells Tryz.underlying51 hf
  rw [show Tryz.prog.cellsOf 51 = 11 by kernel_rfl] at hl
  obtain ⟨v0, v1, v2, v3, v4, v5, v6, v7, v8, v9, v10, rfl⟩ : ∃ v0 v1 v2 v3 v4 v5 v6 v7 v8 v9 v10, cs = [v0, v1, v2, v3, v4, v5, v6, v7, v8, v9, v10] := by
    match cs, hl with
    | [v0, v1, v2, v3, v4, v5, v6, v7, v8, v9, v10], _ => exact ⟨v0, v1, v2, v3, v4, v5, v6, v7, v8, v9, v10, rfl⟩
  obtain ⟨m0, y0, g0⟩ := trod_field Tryz.underlying51 hf 0 39 0 3 rfl rfl rfl (by kernel_rfl)
  obtain ⟨m1, y1, g1⟩ := trod_field Tryz.underlying51 hf 1 3 3 1 rfl rfl rfl (by kernel_rfl)
  obtain ⟨m2, y2, g2⟩ := trod_field Tryz.underlying51 hf 2 3 4 1 rfl rfl rfl (by kernel_rfl)
  obtain ⟨m3, y3, g3⟩ := trod_field Tryz.underlying51 hf 3 3 5 1 rfl rfl rfl (by kernel_rfl)
  obtain ⟨m4, y4, g4⟩ := trod_field Tryz.underlying51 hf 4 9 6 1 rfl rfl rfl (by kernel_rfl)
  obtain ⟨m5, y5, g5⟩ := trod_field Tryz.underlying51 hf 5 9 7 1 rfl rfl rfl (by kernel_rfl)
  obtain ⟨m6, y6, g6⟩ := trod_field Tryz.underlying51 hf 6 3 8 1 rfl rfl rfl (by kernel_rfl)
  obtain ⟨m7, y7, g7⟩ := trod_field Tryz.underlying51 hf 7 3 9 1 rfl rfl rfl (by kernel_rfl)
  obtain ⟨m8, y8, g8⟩ := trod_field Tryz.underlying51 hf 8 28 10 1 rfl rfl rfl (by kernel_rfl)
  obtain ⟨d, e0, k0⟩ := trod_dot g0
  obtain ⟨n1, e1, k1⟩ := trod_num Tryz.underlying3 g1
  obtain ⟨n2, e2, k2⟩ := trod_num Tryz.underlying3 g2
  obtain ⟨n3, e3, k3⟩ := trod_num Tryz.underlying3 g3
  obtain ⟨s4, e4, k4⟩ := trod_str Tryz.underlying9 g4
  obtain ⟨s5, e5, k5⟩ := trod_str Tryz.underlying9 g5
  obtain ⟨n6, e6, k6⟩ := trod_num Tryz.underlying3 g6
  obtain ⟨n7, e7, k7⟩ := trod_num Tryz.underlying3 g7
  obtain ⟨a, l, c, e8, r8, o8, c8, m8⟩ := trod_dots g8
  simp [DotR.cells] at e0 e1 e2 e3 e4 e5 e6 e7 e8
  obtain ⟨rfl, rfl, rfl⟩ := e0
  subst e1 e2 e3 e4 e5 e6 e7 e8
  exact ⟨⟨d, n1, n2, n3, s4, s5, n6, n7, l⟩, a, c, rfl, ⟨k0, k1, k2, k3, k6, k7, k4, k5, o8⟩, r8, c8, m8⟩
set_option maxRecDepth 100000 in
theorem open_ops {H : Type} {enc : TypeId × Value → H} {W : World} {v : Value} {d : DataW H} {p : List MemPlace} {base : Nat}
    (hv : Value.okWide Tryz.prog W .any base 22 v) (h : DataW.Trod enc Tryz.prog W 0 (fun _ => true) true 22 v d p) :
    ∃ (a : Option Addr) (l : List OpW) (c : Nat), v = .slice a l.length c ∧ Rd W a (rows OpW.cells l) ∧ (∀ x ∈ l, x.good W) ∧ l.length ≤ c ∧ c ≤ maxLen := by
  refine open_rows_of Tryz.underlying22 (by kernel_rfl : Tryz.prog.cellsOf 51 = 11) kOp ?_ hv h
  intro fuel cs x hf
  obtain ⟨o, a, c, e, ok, rd, lc, cm⟩ := trod_op hf
  exact ⟨⟨o, a, c⟩, e, ok, rd, lc, cm⟩
end Go.Proofs.YtejmmkjpncpedaaGreat
