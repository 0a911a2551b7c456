/- Commands and messages, as an argument holds them. -/
import Derived.Test.YtddobhihjljcgaaGreatMA
import Derived.Test.YtddobhihjljcgaaGreatWiAM
import Derived.Test.YtddobhihjljcgaaGreatWiCL
import Derived.Test.YtddobhihjljcgaaGreatRows
namespace Go.Proofs.YtddobhihjljcgaaGreat
open Go.RowKit Go.Esc Go.ChangeShapes Go.WideShapes Go.ChangeAt
set_option linter.unusedVariables false
set_option linter.unusedSimpArgs false
theorem trod_dot {H : Type} {enc : TypeId × Value → H} {W : World} {fuel : Nat} {cs : List Value} {x : DataW H × List MemPlace}
  (hf : DataW.trod enc Tryz.prog W 0 (fun _ => true) true fuel 59 cs = some x) : ∃ d : DotR, cs = d.cells ∧ d.ok := by
 have hl := trod_cells Tryz.underlying59 hf
 rw [show Tryz.prog.cellsOf 59 = 3 by kernel_rfl] at hl
 obtain ⟨v0, v1, v2, rfl⟩ : ∃ v0 v1 v2, cs = [v0, v1, v2] := by
  match cs, hl with
  | [v0, v1, v2], _ => exact ⟨v0, v1, v2, rfl⟩
 obtain ⟨m0, y0, g0⟩ := trod_field Tryz.underlying59 hf 0 3 0 1 rfl rfl rfl (by kernel_rfl)
 obtain ⟨m1, y1, g1⟩ := trod_field Tryz.underlying59 hf 1 3 1 1 rfl rfl rfl (by kernel_rfl)
 obtain ⟨m2, y2, g2⟩ := trod_field Tryz.underlying59 hf 2 3 2 1 rfl rfl rfl (by kernel_rfl)
 obtain ⟨n0, e0, k0⟩ := trod_num Tryz.underlying3 g0
 obtain ⟨n1, e1, k1⟩ := trod_num Tryz.underlying3 g1
 obtain ⟨n2, e2, k2⟩ := trod_num Tryz.underlying3 g2
 simp at e0 e1 e2
 subst e0 e1 e2
 exact ⟨⟨n0, n1, n2⟩, rfl, k0, k1, k2⟩
theorem trod_dots {H : Type} {enc : TypeId × Value → H} {W : World} {fuel : Nat} {cs : List Value} {x : DataW H × List MemPlace}
  (hf : DataW.trod enc Tryz.prog W 0 (fun _ => true) true fuel 60 cs = some x) : ∃ (a : Option Addr) (l : List DotR) (c : Nat), cs = [.slice a l.length c] ∧ Rd W a (ds l) ∧ (∀ d ∈ l, d.ok) ∧ l.length ≤ c ∧ c ≤ maxLen :=
 trod_rows Tryz.underlying60 (by kernel_rfl : Tryz.prog.cellsOf 59 = 3) (fun _ => rfl) (fun _ _ _ h => trod_dot h) hf
theorem trod_str {H : Type} {enc : TypeId × Value → H} {P : Program} {W : World} {t : TypeId} {fuel : Nat} {cs : List Value} {x : DataW H × List MemPlace} (ht : P.underlying t = some .string)
  (hf : DataW.trod enc P W 0 (fun _ => true) true fuel t cs = some x) : ∃ l : List UInt8, cs = [.string (str l)] ∧ l.length ≤ maxLen := by
 obtain ⟨s, rfl, _, hs⟩ := DataW.trod_string ht hf
 exact ⟨s.data.toList, rfl, by rw [size_list]; exact hs⟩
set_option maxRecDepth 100000 in
theorem trod_op {H : Type} {enc : TypeId × Value → H} {W : World} {fuel : Nat} {cs : List Value} {x : DataW H × List MemPlace}
  (hf : DataW.trod enc Tryz.prog W 0 (fun _ => true) true fuel 62 cs = some x) : ∃ (o : OpR) (a : Option Addr) (c : Nat), cs = o.cells a c ∧ o.ok ∧ Rd W a (ds o.dots) ∧ o.dots.length ≤ c ∧ c ≤ maxLen := by
 have hl := trod_cells Tryz.underlying62 hf
 rw [show Tryz.prog.cellsOf 62 = 11 by kernel_rfl] at hl
 obtain ⟨v0, v1, v2, v3, v4, v5, v6, v7, v8, v9, v10, rfl⟩ : ∃ v0 v1 v2 v3 v4 v5 v6 v7 v8 v9 v10, cs = [v0, v1, v2, v3, v4, v5, v6, v7, v8, v9, v10] := by
  match cs, hl with
  | [v0, v1, v2, v3, v4, v5, v6, v7, v8, v9, v10], _ => exact ⟨v0, v1, v2, v3, v4, v5, v6, v7, v8, v9, v10, rfl⟩
 obtain ⟨m0, y0, g0⟩ := trod_field Tryz.underlying62 hf 0 59 0 3 rfl rfl rfl (by kernel_rfl)
 obtain ⟨m1, y1, g1⟩ := trod_field Tryz.underlying62 hf 1 3 3 1 rfl rfl rfl (by kernel_rfl)
 obtain ⟨m2, y2, g2⟩ := trod_field Tryz.underlying62 hf 2 3 4 1 rfl rfl rfl (by kernel_rfl)
 obtain ⟨m3, y3, g3⟩ := trod_field Tryz.underlying62 hf 3 3 5 1 rfl rfl rfl (by kernel_rfl)
 obtain ⟨m4, y4, g4⟩ := trod_field Tryz.underlying62 hf 4 9 6 1 rfl rfl rfl (by kernel_rfl)
 obtain ⟨m5, y5, g5⟩ := trod_field Tryz.underlying62 hf 5 9 7 1 rfl rfl rfl (by kernel_rfl)
 obtain ⟨m6, y6, g6⟩ := trod_field Tryz.underlying62 hf 6 3 8 1 rfl rfl rfl (by kernel_rfl)
 obtain ⟨m7, y7, g7⟩ := trod_field Tryz.underlying62 hf 7 3 9 1 rfl rfl rfl (by kernel_rfl)
 obtain ⟨m8, y8, g8⟩ := trod_field Tryz.underlying62 hf 8 60 10 1 rfl rfl rfl (by kernel_rfl)
 obtain ⟨d, e0, k0⟩ := trod_dot g0
 obtain ⟨n1, e1, k1⟩ := trod_num Tryz.underlying3 g1
 obtain ⟨n2, e2, k2⟩ := trod_num Tryz.underlying3 g2
 obtain ⟨n3, e3, k3⟩ := trod_num Tryz.underlying3 g3
 obtain ⟨s4, e4, k4⟩ := trod_str Tryz.underlying9 g4
 obtain ⟨s5, e5, k5⟩ := trod_str Tryz.underlying9 g5
 obtain ⟨n6, e6, k6⟩ := trod_num Tryz.underlying3 g6
 obtain ⟨n7, e7, k7⟩ := trod_num Tryz.underlying3 g7
 obtain ⟨a, l, c, e8, r8, o8, c8, m8⟩ := trod_dots g8
 simp [DotR.cells] at e0 e1 e2 e3 e4 e5 e6 e7 e8
 obtain ⟨rfl, rfl, rfl⟩ := e0
 subst e1 e2 e3 e4 e5 e6 e7 e8
 exact ⟨⟨d, n1, n2, n3, s4, s5, n6, n7, l⟩, a, c, rfl, ⟨k0, k1, k2, k3, k6, k7, k4, k5, o8⟩, r8, c8, m8⟩
theorem trod_ops {H : Type} {enc : TypeId × Value → H} {W : World} {fuel : Nat} {cs : List Value} {x : DataW H × List MemPlace}
  (hf : DataW.trod enc Tryz.prog W 0 (fun _ => true) true fuel 25 cs = some x) : ∃ (a : Option Addr) (l : List OpR) (c : Nat), cs = [.slice a l.length c] ∧ OpsIn W a l ∧ (∀ d ∈ l, d.ok) ∧ l.length ≤ c ∧ c ≤ maxLen := by
 obtain ⟨a, L, c, e, r, g, h1, h2⟩ := trod_rows (f := OpW.cells) (good := fun o : OpW => o.o.ok ∧ o.good W) Tryz.underlying25 (by kernel_rfl : Tryz.prog.cellsOf 62 = 11) kOp (fun _ _ _ h => by
  obtain ⟨o, a, c, e, ok, rd, lc, cm⟩ := trod_op h
  exact ⟨⟨o, a, c⟩, e, ok, rd, lc, cm⟩) hf
 refine ⟨a, L.map OpW.o, c, by rw [e, List.length_map], ⟨L, rfl, r, fun x hx => (g x hx).2⟩, ?_, by rw [List.length_map]; exact h1, h2⟩
 intro o ho
 obtain ⟨x, hx, rfl⟩ := List.mem_map.1 ho
 exact (g x hx).1
set_option maxRecDepth 100000 in
theorem trod_want {H : Type} {enc : TypeId × Value → H} {W : World} {fuel : Nat} {cs : List Value} {x : DataW H × List MemPlace}
  (hf : DataW.trod enc Tryz.prog W 0 (fun _ => true) true fuel 105 cs = some x) : ∃ d : WantR, cs = d.cells ∧ d.ok := by
 have hl := trod_cells Tryz.underlying105 hf
 rw [show Tryz.prog.cellsOf 105 = 4 by kernel_rfl] at hl
 obtain ⟨v0, v1, v2, v3, rfl⟩ : ∃ v0 v1 v2 v3, cs = [v0, v1, v2, v3] := by
  match cs, hl with
  | [v0, v1, v2, v3], _ => exact ⟨v0, v1, v2, v3, rfl⟩
 obtain ⟨m0, y0, g0⟩ := trod_field Tryz.underlying105 hf 0 9 0 1 rfl rfl rfl (by kernel_rfl)
 obtain ⟨m1, y1, g1⟩ := trod_field Tryz.underlying105 hf 1 3 1 1 rfl rfl rfl (by kernel_rfl)
 obtain ⟨m2, y2, g2⟩ := trod_field Tryz.underlying105 hf 2 3 2 1 rfl rfl rfl (by kernel_rfl)
 obtain ⟨m3, y3, g3⟩ := trod_field Tryz.underlying105 hf 3 3 3 1 rfl rfl rfl (by kernel_rfl)
 obtain ⟨s0, e0, k0⟩ := trod_str Tryz.underlying9 g0
 obtain ⟨n1, e1, k1⟩ := trod_num Tryz.underlying3 g1
 obtain ⟨n2, e2, k2⟩ := trod_num Tryz.underlying3 g2
 obtain ⟨n3, e3, k3⟩ := trod_num Tryz.underlying3 g3
 simp at e0 e1 e2 e3
 subst e0 e1 e2 e3
 exact ⟨⟨s0, n1, n2, n3⟩, rfl, k0, k1, k2, k3⟩
set_option maxRecDepth 100000 in
theorem trod_slc {H : Type} {enc : TypeId × Value → H} {W : World} {fuel : Nat} {cs : List Value} {x : DataW H × List MemPlace}
  (hf : DataW.trod enc Tryz.prog W 0 (fun _ => true) true fuel 64 cs = some x) : ∃ d : SliceR, cs = d.cells ∧ d.ok := by
 have hl := trod_cells Tryz.underlying64 hf
 rw [show Tryz.prog.cellsOf 64 = 5 by kernel_rfl] at hl
 obtain ⟨v0, v1, v2, v3, v4, rfl⟩ : ∃ v0 v1 v2 v3 v4, cs = [v0, v1, v2, v3, v4] := by
  match cs, hl with
  | [v0, v1, v2, v3, v4], _ => exact ⟨v0, v1, v2, v3, v4, rfl⟩
 obtain ⟨m0, y0, g0⟩ := trod_field Tryz.underlying64 hf 0 9 0 1 rfl rfl rfl (by kernel_rfl)
 obtain ⟨m1, y1, g1⟩ := trod_field Tryz.underlying64 hf 1 3 1 1 rfl rfl rfl (by kernel_rfl)
 obtain ⟨m2, y2, g2⟩ := trod_field Tryz.underlying64 hf 2 3 2 1 rfl rfl rfl (by kernel_rfl)
 obtain ⟨m3, y3, g3⟩ := trod_field Tryz.underlying64 hf 3 3 3 1 rfl rfl rfl (by kernel_rfl)
 obtain ⟨m4, y4, g4⟩ := trod_field Tryz.underlying64 hf 4 3 4 1 rfl rfl rfl (by kernel_rfl)
 obtain ⟨s0, e0, k0⟩ := trod_str Tryz.underlying9 g0
 obtain ⟨n1, e1, k1⟩ := trod_num Tryz.underlying3 g1
 obtain ⟨n2, e2, k2⟩ := trod_num Tryz.underlying3 g2
 obtain ⟨n3, e3, k3⟩ := trod_num Tryz.underlying3 g3
 obtain ⟨n4, e4, k4⟩ := trod_num Tryz.underlying3 g4
 simp at e0 e1 e2 e3 e4
 subst e0 e1 e2 e3 e4
 exact ⟨⟨s0, n1, n2, n3, n4⟩, rfl, k0, k1, k2, k3, k4⟩
set_option maxRecDepth 100000 in
theorem trod_rng {H : Type} {enc : TypeId × Value → H} {W : World} {fuel : Nat} {cs : List Value} {x : DataW H × List MemPlace}
  (hf : DataW.trod enc Tryz.prog W 0 (fun _ => true) true fuel 108 cs = some x) : ∃ d : RangeR, cs = d.cells ∧ d.ok := by
 have hl := trod_cells Tryz.underlying108 hf
 rw [show Tryz.prog.cellsOf 108 = 2 by kernel_rfl] at hl
 obtain ⟨v0, v1, rfl⟩ : ∃ v0 v1, cs = [v0, v1] := by
  match cs, hl with
  | [v0, v1], _ => exact ⟨v0, v1, rfl⟩
 obtain ⟨m0, y0, g0⟩ := trod_field Tryz.underlying108 hf 0 3 0 1 rfl rfl rfl (by kernel_rfl)
 obtain ⟨m1, y1, g1⟩ := trod_field Tryz.underlying108 hf 1 3 1 1 rfl rfl rfl (by kernel_rfl)
 obtain ⟨n0, e0, k0⟩ := trod_num Tryz.underlying3 g0
 obtain ⟨n1, e1, k1⟩ := trod_num Tryz.underlying3 g1
 simp at e0 e1
 subst e0 e1
 exact ⟨⟨n0, n1⟩, rfl, k0, k1⟩
theorem trod_wants {H : Type} {enc : TypeId × Value → H} {W : World} {fuel : Nat} {cs : List Value} {x : DataW H × List MemPlace}
  (hf : DataW.trod enc Tryz.prog W 0 (fun _ => true) true fuel 24 cs = some x) : ∃ (a : Option Addr) (l : List WantR) (c : Nat), cs = [.slice a l.length c] ∧ Rd W a (rows WantR.cells l) ∧ (∀ d ∈ l, d.ok) ∧ l.length ≤ c ∧ c ≤ maxLen :=
 trod_rows Tryz.underlying24 (by kernel_rfl : Tryz.prog.cellsOf 105 = 4) (fun _ => rfl) (fun _ _ _ h => trod_want h) hf
theorem trod_slcs {H : Type} {enc : TypeId × Value → H} {W : World} {fuel : Nat} {cs : List Value} {x : DataW H × List MemPlace}
  (hf : DataW.trod enc Tryz.prog W 0 (fun _ => true) true fuel 28 cs = some x) : ∃ (a : Option Addr) (l : List SliceR) (c : Nat), cs = [.slice a l.length c] ∧ Rd W a (rows SliceR.cells l) ∧ (∀ d ∈ l, d.ok) ∧ l.length ≤ c ∧ c ≤ maxLen :=
 trod_rows Tryz.underlying28 (by kernel_rfl : Tryz.prog.cellsOf 64 = 5) (fun _ => rfl) (fun _ _ _ h => trod_slc h) hf
theorem trod_rngs {H : Type} {enc : TypeId × Value → H} {W : World} {fuel : Nat} {cs : List Value} {x : DataW H × List MemPlace}
  (hf : DataW.trod enc Tryz.prog W 0 (fun _ => true) true fuel 29 cs = some x) : ∃ (a : Option Addr) (l : List RangeR) (c : Nat), cs = [.slice a l.length c] ∧ Rd W a (rows RangeR.cells l) ∧ (∀ d ∈ l, d.ok) ∧ l.length ≤ c ∧ c ≤ maxLen :=
 trod_rows Tryz.underlying29 (by kernel_rfl : Tryz.prog.cellsOf 108 = 2) (fun _ => rfl) (fun _ _ _ h => trod_rng h) hf
theorem flat_one {α : Type} (f : α → Value) : ∀ l : List α, l.flatMap (fun x => [f x]) = l.map f
 | [] => rfl
 | x :: l => by rw [List.flatMap_cons, flat_one f l]; rfl
theorem trod_bools {H : Type} {enc : TypeId × Value → H} {W : World} {fuel : Nat} {cs : List Value} {x : DataW H × List MemPlace}
  (hf : DataW.trod enc Tryz.prog W 0 (fun _ => true) true fuel 22 cs = some x) : ∃ (a : Option Addr) (l : List Bool) (c : Nat), cs = [.slice a l.length c] ∧ Rd W a (bls l) ∧ l.length ≤ c ∧ c ≤ maxLen := by
 obtain ⟨a, l, c, e, r, _, h1, h2⟩ := trod_rows (f := fun b : Bool => [Value.bool b]) (good := fun _ => True) Tryz.underlying22 (by kernel_rfl : Tryz.prog.cellsOf 4 = 1) (fun _ => rfl) (fun _ _ _ h => by
  obtain ⟨b, h1, _⟩ := DataW.trod_bool Tryz.underlying4 h
  exact ⟨b, h1, trivial⟩) hf
 rw [flat_one] at r
 exact ⟨a, l, c, e, r, h1, h2⟩
theorem trod_nums {H : Type} {enc : TypeId × Value → H} {W : World} {fuel : Nat} {cs : List Value} {x : DataW H × List MemPlace}
  (hf : DataW.trod enc Tryz.prog W 0 (fun _ => true) true fuel 30 cs = some x) : ∃ (a : Option Addr) (l : List Int) (c : Nat), cs = [.slice a l.length c] ∧ Rd W a (is l) ∧ (∀ d ∈ l, I64ok d) ∧ l.length ≤ c ∧ c ≤ maxLen := by
 obtain ⟨a, l, c, e, r, g, h1, h2⟩ := trod_rows (f := fun b : Int => [Value.int .i64 b]) (good := I64ok) Tryz.underlying30 (by kernel_rfl : Tryz.prog.cellsOf 3 = 1) (fun _ => rfl) (fun _ _ _ h => by
  obtain ⟨b, h1, h2⟩ := trod_num Tryz.underlying3 h
  exact ⟨b, h1, h2⟩) hf
 rw [flat_one] at r
 exact ⟨a, l, c, e, r, g, h1, h2⟩
set_option maxRecDepth 100000 in
theorem trod_cmd {H : Type} {enc : TypeId × Value → H} {W : World} {fuel : Nat} {cs : List Value} {x : DataW H × List MemPlace}
  (hf : DataW.trod enc Tryz.prog W 0 (fun _ => true) true fuel 27 cs = some x) : ∃ (d : CmdR) (h : CmdA), cs = d.cells h ∧ d.In W h ∧ d.ok := by
 have hl := trod_cells Tryz.underlying27 hf
 rw [show Tryz.prog.cellsOf 27 = 7 by kernel_rfl] at hl
 obtain ⟨v0, v1, v2, v3, v4, v5, v6, rfl⟩ : ∃ v0 v1 v2 v3 v4 v5 v6, cs = [v0, v1, v2, v3, v4, v5, v6] := by
  match cs, hl with
  | [v0, v1, v2, v3, v4, v5, v6], _ => exact ⟨v0, v1, v2, v3, v4, v5, v6, rfl⟩
 obtain ⟨m0, y0, g0⟩ := trod_field Tryz.underlying27 hf 0 3 0 1 rfl rfl rfl (by kernel_rfl)
 obtain ⟨m1, y1, g1⟩ := trod_field Tryz.underlying27 hf 1 3 1 1 rfl rfl rfl (by kernel_rfl)
 obtain ⟨m2, y2, g2⟩ := trod_field Tryz.underlying27 hf 2 3 2 1 rfl rfl rfl (by kernel_rfl)
 obtain ⟨m3, y3, g3⟩ := trod_field Tryz.underlying27 hf 3 3 3 1 rfl rfl rfl (by kernel_rfl)
 obtain ⟨m4, y4, g4⟩ := trod_field Tryz.underlying27 hf 4 3 4 1 rfl rfl rfl (by kernel_rfl)
 obtain ⟨m5, y5, g5⟩ := trod_field Tryz.underlying27 hf 5 24 5 1 rfl rfl rfl (by kernel_rfl)
 obtain ⟨m6, y6, g6⟩ := trod_field Tryz.underlying27 hf 6 25 6 1 rfl rfl rfl (by kernel_rfl)
 obtain ⟨n0, e0, k0⟩ := trod_num Tryz.underlying3 g0
 obtain ⟨n1, e1, k1⟩ := trod_num Tryz.underlying3 g1
 obtain ⟨n2, e2, k2⟩ := trod_num Tryz.underlying3 g2
 obtain ⟨n3, e3, k3⟩ := trod_num Tryz.underlying3 g3
 obtain ⟨n4, e4, k4⟩ := trod_num Tryz.underlying3 g4
 obtain ⟨a5, l5, c5, e5, r5, o5, b5, t5⟩ := trod_wants g5
 obtain ⟨a6, l6, c6, e6, r6, o6, b6, t6⟩ := trod_ops g6
 simp at e0 e1 e2 e3 e4 e5 e6
 subst e0 e1 e2 e3 e4 e5 e6
 exact ⟨⟨n0, n1, n2, n3, n4, l5, l6⟩, ⟨a5, c5, a6, c6⟩, rfl, ⟨r5, r6, b5, b6, t5, t6⟩, ⟨k0, k1, k2, k3, k4, o5, o6⟩⟩
set_option maxRecDepth 100000 in
theorem trod_lease {H : Type} {enc : TypeId × Value → H} {W : World} {fuel : Nat} {cs : List Value} {x : DataW H × List MemPlace}
  (hf : DataW.trod enc Tryz.prog W 0 (fun _ => true) true fuel 32 cs = some x) : ∀ e n, I64ok e → I64ok n → ∃ (d : ReplyR) (h : ReplyA), .int .i64 e :: .int .i64 n :: cs = d.cells h ∧ d.In W h ∧ d.ok := by
 have hl := trod_cells Tryz.underlying32 hf
 rw [show Tryz.prog.cellsOf 32 = 7 by kernel_rfl] at hl
 obtain ⟨v0, v1, v2, v3, v4, v5, v6, rfl⟩ : ∃ v0 v1 v2 v3 v4 v5 v6, cs = [v0, v1, v2, v3, v4, v5, v6] := by
  match cs, hl with
  | [v0, v1, v2, v3, v4, v5, v6], _ => exact ⟨v0, v1, v2, v3, v4, v5, v6, rfl⟩
 obtain ⟨m0, y0, g0⟩ := trod_field Tryz.underlying32 hf 0 3 0 1 rfl rfl rfl (by kernel_rfl)
 obtain ⟨m1, y1, g1⟩ := trod_field Tryz.underlying32 hf 1 3 1 1 rfl rfl rfl (by kernel_rfl)
 obtain ⟨m2, y2, g2⟩ := trod_field Tryz.underlying32 hf 2 3 2 1 rfl rfl rfl (by kernel_rfl)
 obtain ⟨m3, y3, g3⟩ := trod_field Tryz.underlying32 hf 3 3 3 1 rfl rfl rfl (by kernel_rfl)
 obtain ⟨m4, y4, g4⟩ := trod_field Tryz.underlying32 hf 4 28 4 1 rfl rfl rfl (by kernel_rfl)
 obtain ⟨m5, y5, g5⟩ := trod_field Tryz.underlying32 hf 5 29 5 1 rfl rfl rfl (by kernel_rfl)
 obtain ⟨m6, y6, g6⟩ := trod_field Tryz.underlying32 hf 6 30 6 1 rfl rfl rfl (by kernel_rfl)
 obtain ⟨n0, e0, k0⟩ := trod_num Tryz.underlying3 g0
 obtain ⟨n1, e1, k1⟩ := trod_num Tryz.underlying3 g1
 obtain ⟨n2, e2, k2⟩ := trod_num Tryz.underlying3 g2
 obtain ⟨n3, e3, k3⟩ := trod_num Tryz.underlying3 g3
 obtain ⟨a4, l4, c4, e4, r4, o4, b4, t4⟩ := trod_slcs g4
 obtain ⟨a5, l5, c5, e5, r5, o5, b5, t5⟩ := trod_rngs g5
 obtain ⟨a6, l6, c6, e6, r6, o6, b6, t6⟩ := trod_nums g6
 simp at e0 e1 e2 e3 e4 e5 e6
 subst e0 e1 e2 e3 e4 e5 e6
 exact fun e n he hn => ⟨⟨e, n, n0, n1, n2, n3, l4, l5, l6⟩, ⟨a4, c4, a5, c5, a6, c6⟩, rfl, ⟨r4, r5, r6, b4, b5, b6, t4, t5, t6⟩, ⟨he, hn, k0, k1, k2, k3, o4, o5, o6⟩⟩
set_option maxRecDepth 100000 in
theorem trod_reply {H : Type} {enc : TypeId × Value → H} {W : World} {fuel : Nat} {cs : List Value} {x : DataW H × List MemPlace}
  (hf : DataW.trod enc Tryz.prog W 0 (fun _ => true) true fuel 34 cs = some x) : ∃ (d : ReplyR) (h : ReplyA), cs = d.cells h ∧ d.In W h ∧ d.ok := by
 have hl := trod_cells Tryz.underlying34 hf
 rw [show Tryz.prog.cellsOf 34 = 9 by kernel_rfl] at hl
 obtain ⟨v0, v1, v2, v3, v4, v5, v6, v7, v8, rfl⟩ : ∃ v0 v1 v2 v3 v4 v5 v6 v7 v8, cs = [v0, v1, v2, v3, v4, v5, v6, v7, v8] := by
  match cs, hl with
  | [v0, v1, v2, v3, v4, v5, v6, v7, v8], _ => exact ⟨v0, v1, v2, v3, v4, v5, v6, v7, v8, rfl⟩
 obtain ⟨m0, y0, g0⟩ := trod_field Tryz.underlying34 hf 0 23 0 1 rfl rfl rfl (by kernel_rfl)
 obtain ⟨m1, y1, g1⟩ := trod_field Tryz.underlying34 hf 1 3 1 1 rfl rfl rfl (by kernel_rfl)
 obtain ⟨m2, y2, g2⟩ := trod_field Tryz.underlying34 hf 2 32 2 7 rfl rfl rfl (by kernel_rfl)
 obtain ⟨n0, e0, k0⟩ := trod_num Tryz.underlying23 g0
 obtain ⟨n1, e1, k1⟩ := trod_num Tryz.underlying3 g1
 obtain ⟨d, h, e2, r2⟩ := trod_lease g2 n0 n1 k0 k1
 simp at e0 e1 e2
 subst e0 e1
 exact ⟨d, h, e2, r2⟩
set_option maxRecDepth 100000 in
theorem trod_msg {H : Type} {enc : TypeId × Value → H} {W : World} {fuel : Nat} {cs : List Value} {x : DataW H × List MemPlace}
  (hf : DataW.trod enc Tryz.prog W 0 (fun _ => true) true fuel 36 cs = some x) : ∃ (d : MsgR) (h : MsgA), cs = d.cells h ∧ d.In W h ∧ d.ok := by
 have hl := trod_cells Tryz.underlying36 hf
 rw [show Tryz.prog.cellsOf 36 = 25 by kernel_rfl] at hl
 obtain ⟨v0, v1, v2, v3, v4, v5, v6, v7, v8, v9, v10, v11, v12, v13, v14, v15, v16, v17, v18, v19, v20, v21, v22, v23, v24, rfl⟩ : ∃ v0 v1 v2 v3 v4 v5 v6 v7 v8 v9 v10 v11 v12 v13 v14 v15 v16 v17 v18 v19 v20 v21 v22 v23 v24, cs = [v0, v1, v2, v3, v4, v5, v6, v7, v8, v9, v10, v11, v12, v13, v14, v15, v16, v17, v18, v19, v20, v21, v22, v23, v24] := by
  match cs, hl with
  | [v0, v1, v2, v3, v4, v5, v6, v7, v8, v9, v10, v11, v12, v13, v14, v15, v16, v17, v18, v19, v20, v21, v22, v23, v24], _ => exact ⟨v0, v1, v2, v3, v4, v5, v6, v7, v8, v9, v10, v11, v12, v13, v14, v15, v16, v17, v18, v19, v20, v21, v22, v23, v24, rfl⟩
 obtain ⟨m0, y0, g0⟩ := trod_field Tryz.underlying36 hf 0 3 0 1 rfl rfl rfl (by kernel_rfl)
 obtain ⟨m1, y1, g1⟩ := trod_field Tryz.underlying36 hf 1 3 1 1 rfl rfl rfl (by kernel_rfl)
 obtain ⟨m2, y2, g2⟩ := trod_field Tryz.underlying36 hf 2 3 2 1 rfl rfl rfl (by kernel_rfl)
 obtain ⟨m3, y3, g3⟩ := trod_field Tryz.underlying36 hf 3 3 3 1 rfl rfl rfl (by kernel_rfl)
 obtain ⟨m4, y4, g4⟩ := trod_field Tryz.underlying36 hf 4 3 4 1 rfl rfl rfl (by kernel_rfl)
 obtain ⟨m5, y5, g5⟩ := trod_field Tryz.underlying36 hf 5 3 5 1 rfl rfl rfl (by kernel_rfl)
 obtain ⟨m6, y6, g6⟩ := trod_field Tryz.underlying36 hf 6 22 6 1 rfl rfl rfl (by kernel_rfl)
 obtain ⟨m7, y7, g7⟩ := trod_field Tryz.underlying36 hf 7 23 7 1 rfl rfl rfl (by kernel_rfl)
 obtain ⟨m8, y8, g8⟩ := trod_field Tryz.underlying36 hf 8 27 8 7 rfl rfl rfl (by kernel_rfl)
 obtain ⟨m9, y9, g9⟩ := trod_field Tryz.underlying36 hf 9 34 15 9 rfl rfl rfl (by kernel_rfl)
 obtain ⟨m10, y10, g10⟩ := trod_field Tryz.underlying36 hf 10 25 24 1 rfl rfl rfl (by kernel_rfl)
 obtain ⟨n0, e0, k0⟩ := trod_num Tryz.underlying3 g0
 obtain ⟨n1, e1, k1⟩ := trod_num Tryz.underlying3 g1
 obtain ⟨n2, e2, k2⟩ := trod_num Tryz.underlying3 g2
 obtain ⟨n3, e3, k3⟩ := trod_num Tryz.underlying3 g3
 obtain ⟨n4, e4, k4⟩ := trod_num Tryz.underlying3 g4
 obtain ⟨n5, e5, k5⟩ := trod_num Tryz.underlying3 g5
 obtain ⟨a6, l6, c6, e6, r6, b6, t6⟩ := trod_bools g6
 obtain ⟨n7, e7, k7⟩ := trod_num Tryz.underlying23 g7
 obtain ⟨d8, h8, e8, r8, o8⟩ := trod_cmd g8
 obtain ⟨d9, h9, e9, r9, o9⟩ := trod_reply g9
 obtain ⟨a10, l10, c10, e10, r10, o10, b10, t10⟩ := trod_ops g10
 simp at e0 e1 e2 e3 e4 e5 e6 e7 e10
 simp [CmdR.cells] at e8
 simp [ReplyR.cells] at e9
 subst e0 e1 e2 e3 e4 e5 e6 e7 e10
 obtain ⟨rfl, rfl, rfl, rfl, rfl, rfl, rfl⟩ := e8
 obtain ⟨rfl, rfl, rfl, rfl, rfl, rfl, rfl, rfl, rfl⟩ := e9
 exact ⟨⟨n0, n1, n2, n3, n4, n5, l6, n7, d8, d9, l10⟩, ⟨a6, c6, h8, h9, a10, c10⟩, rfl, ⟨r6, r8, r9, r10, b6, t6, b10, t10⟩, ⟨k0, k1, k2, k3, k4, k5, k7, o8, o9, o10⟩⟩
set_option maxRecDepth 100000 in
theorem open_msg {H : Type} {enc : TypeId × Value → H} {W : World} {v : Value} {d : DataW H} {p : List MemPlace} {base : Nat}
  (hv : Value.okWide Tryz.prog W .any base 36 v) (h : DataW.Trod enc Tryz.prog W 0 (fun _ => true) true 36 v d p) :
  ∃ (m : MsgR) (g : MsgA), v = m.val g ∧ m.In W g ∧ m.ok := by
 unfold Value.okWide at hv
 rw [Tryz.underlying36] at hv
 obtain ⟨cs, rfl, _⟩ := hv
 obtain ⟨fuel, hf⟩ := h
 obtain ⟨m, g, hcs, h1⟩ := trod_msg hf
 refine ⟨m, g, ?_, h1⟩
 unfold MsgR.val
 congr 1
 apply Array.toList_inj.1
 simpa [Value.cells, MsgR.cells] using hcs
end Go.Proofs.YtddobhihjljcgaaGreat
