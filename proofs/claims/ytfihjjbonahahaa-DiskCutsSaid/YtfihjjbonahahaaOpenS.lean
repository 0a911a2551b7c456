/- The reach of what an argument holds, in Base's words: of no program. -/
import Derived.Test.YtfihjjbonahahaaOpen
import Derived.SizedLaws
namespace Go.Esc
open Go.RowKit Go.ChangeShapes Go.WideShapes Go.ChangeAt
open Go.ChangeMaps (open_string)

variable {H : Type} {enc : TypeId × Value → H} {P : Program} {W : World}

theorem sized_ints {ts : List TypeId} {ds : List (DataW H)} (hs : (DataW.weightsEach P ts ds).all (· ≤ reachBytes) = true) (j : Nat) {t e : TypeId} {k : IntKind} {d : DataW H} {p : List MemPlace} {a : Option Addr} {n c : Nat}
    (hj : ts[j]? = some t) (hd : ds[j]? = some d) (ht : P.underlying t = some (.slice e)) (he : P.underlying e = some (.int k)) (hc : P.cellsOf e = 1)
    (h : DataW.Trod enc P W 0 (fun _ => true) true t (.slice a n c) d p) : c * P.bytesOf e ≤ 140737488351232 := by
  obtain ⟨fuel, hf⟩ := h
  rcases open_ints ht he hc hf with ⟨hcs, _⟩ | ⟨x, l, c, zs, hcs, _, hl, hm, hz, hx, hcell, hwz⟩
  · simp [Value.cells] at hcs
    obtain ⟨rfl, rfl, rfl⟩ := hcs
    simp
  · simp [Value.cells] at hcs
    obtain ⟨rfl, rfl, rfl⟩ := hcs
    have hz' : zs.length = c := by simpa using hz
    simp only [Prod.mk.injEq] at hx
    rw [hx.1] at hd
    have := sized_slice hs hj hd ht
    simp only [lits, List.length_map, List.length_take, List.length_drop, hz', Nat.min_eq_left hl, reachBytes] at this
    rwa [Nat.add_sub_cancel' hl] at this

theorem sized_bytes {ts : List TypeId} {ds : List (DataW H)} (hs : (DataW.weightsEach P ts ds).all (· ≤ reachBytes) = true) (j : Nat) {t e : TypeId} {d : DataW H} {p : List MemPlace} {a : Option Addr} {n c : Nat}
    (hj : ts[j]? = some t) (hd : ds[j]? = some d) (ht : P.underlying t = some (.slice e)) (he : P.underlying e = some (.int .u8)) (hc : P.cellsOf e = 1) (hb : P.bytesOf e = 1)
    (h : DataW.Trod enc P W 0 (fun _ => true) true t (.slice a n c) d p) : c ≤ 140737488351232 := by
  have := sized_ints hs j hj hd ht he hc h
  rw [hb] at this
  omega

theorem sized_str {ts : List TypeId} {ds : List (DataW H)} (hs : (DataW.weightsEach P ts ds).all (· ≤ reachBytes) = true) (j : Nat) {t : TypeId} {d : DataW H} {p : List MemPlace} {l : List UInt8} {base : Nat}
    (hj : ts[j]? = some t) (hd : ds[j]? = some d) (ht : P.underlying t = some .string)
    (hv : Value.okWide P W .any base t (.string (str l))) (h : DataW.Trod enc P W 0 (fun _ => true) true t (.string (str l)) d p) : l.length ≤ 140737488351232 := by
  obtain ⟨s, e, rfl, rfl, _⟩ := open_string ht hv h
  cases e
  have := sized_string hs hj hd
  simpa [str, reachBytes] using this
end Go.Esc
