/- Rows of bools, of changes, as an argument holds them. -/
import Derived.Test.YtpljcnjkdjblmaaKO
import Derived.Test.YtpljcnjkdjblmaaKvD
import Derived.Test.YtpljcnjkdjblmaaRows
namespace Go.Esc
open Go.RowKit
def bcell (b : Bool) : List Value := [.bool b]
end Go.Esc
namespace Go.Proofs.Ytpljcnjkdjblmaa
open Go.RowKit Go.Esc Go.ChangeShapes Go.WideShapes Go.ChangeAt
set_option maxRecDepth 100000 in
theorem open_bls {H : Type} {enc : TypeId × Value → H} {W : World} {v : Value} {d : DataW H} {p : List MemPlace} {base : Nat}
    (hv : Value.okWide Try.prog W .any base 47 v) (h : DataW.Trod enc Try.prog W 0 (fun _ => true) true 47 v d p) :
    ∃ (a : Option Addr) (l : List Bool) (c : Nat), v = .slice a l.length c ∧ Rd W a (rows bcell l) ∧ (∀ x ∈ l, True) ∧ l.length ≤ c ∧ c ≤ maxLen := by
  refine open_rows_of Try.underlying47 (by kernel_rfl : Try.prog.cellsOf 4 = 1) (fun _ => rfl) ?_ hv h
  intro fuel cs x hf
  obtain ⟨b, h1, _⟩ := DataW.trod_bool Try.underlying4 hf
  exact ⟨b, h1, trivial⟩
theorem kvtrod_str {H : Type} {enc : TypeId × Value → H} {P : Program} {W : World} {t : TypeId} {fuel : Nat} {cs : List Value} {x : DataW H × List MemPlace} (ht : P.underlying t = some .string)
    (hf : DataW.trod enc P W 0 (fun _ => true) true fuel t cs = some x) : ∃ l : List UInt8, cs = [.string (str l)] ∧ l.length ≤ maxLen := by
  obtain ⟨s, rfl, _, hs⟩ := DataW.trod_string ht hf
  exact ⟨s.data.toList, rfl, by rw [size_list]; exact hs⟩
set_option maxRecDepth 100000 in
theorem trod_change {H : Type} {enc : TypeId × Value → H} {W : World} {fuel : Nat} {cs : List Value} {x : DataW H × List MemPlace}
    (hf : DataW.trod enc Try.prog W 0 (fun _ => true) true fuel 39 cs = some x) : ∃ c : ChangeR, cs = c.cells ∧ c.ok := by
  have hl := trod_cells Try.underlying39 hf
  rw [show Try.prog.cellsOf 39 = 4 by kernel_rfl] at hl
  obtain ⟨v0, v1, v2, v3, rfl⟩ : ∃ v0 v1 v2 v3, cs = [v0, v1, v2, v3] := by
    match cs, hl with
    | [v0, v1, v2, v3], _ => exact ⟨v0, v1, v2, v3, rfl⟩
  obtain ⟨m0, y0, g0⟩ := trod_field Try.underlying39 hf 0 3 0 1 rfl rfl rfl (by kernel_rfl)
  obtain ⟨m1, y1, g1⟩ := trod_field Try.underlying39 hf 1 9 1 1 rfl rfl rfl (by kernel_rfl)
  obtain ⟨m2, y2, g2⟩ := trod_field Try.underlying39 hf 2 9 2 1 rfl rfl rfl (by kernel_rfl)
  obtain ⟨m3, y3, g3⟩ := trod_field Try.underlying39 hf 3 4 3 1 rfl rfl rfl (by kernel_rfl)
  obtain ⟨n0, e0, k0⟩ := trod_num Try.underlying3 g0
  obtain ⟨s1, e1, k1⟩ := kvtrod_str Try.underlying9 g1
  obtain ⟨s2, e2, k2⟩ := kvtrod_str Try.underlying9 g2
  obtain ⟨b3, e3, _⟩ := DataW.trod_bool Try.underlying4 g3
  simp at e0 e1 e2 e3
  subst e0 e1 e2 e3
  exact ⟨⟨n0, s1, s2, b3⟩, rfl, k0, k1, k2⟩
set_option maxRecDepth 100000 in
theorem open_changes {H : Type} {enc : TypeId × Value → H} {W : World} {v : Value} {d : DataW H} {p : List MemPlace} {base : Nat}
    (hv : Value.okWide Try.prog W .any base 36 v) (h : DataW.Trod enc Try.prog W 0 (fun _ => true) true 36 v d p) :
    ∃ (a : Option Addr) (l : List ChangeR) (c : Nat), v = .slice a l.length c ∧ Rd W a (rows ChangeR.cells l) ∧ (∀ x ∈ l, x.ok) ∧ l.length ≤ c ∧ c ≤ maxLen := by
  refine open_rows_of Try.underlying36 (by kernel_rfl : Try.prog.cellsOf 39 = 4) kChange ?_ hv h
  intro fuel cs x hf
  exact trod_change hf
end Go.Proofs.Ytpljcnjkdjblmaa
