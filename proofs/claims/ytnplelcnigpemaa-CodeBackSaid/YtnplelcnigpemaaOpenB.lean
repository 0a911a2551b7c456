/- What an argument that can be read holds: a list of texts, a list of lists. Of no program. -/
import Derived.Test.YtnplelcnigpemaaOpen
import Derived.Deep.Strs
import Derived.Deep.Matrix
namespace Go.Esc
open Go.RowKit Go.ChangeShapes Go.WideShapes Go.ChangeAt

variable {H : Type} {enc : TypeId × Value → H} {P : Program} {W : World}

/-- The cells of a list of texts. -/
def ss (l : List (List UInt8)) : List Value := l.map fun t => .string (str t)
/-- A row of a list of lists. -/
structure Row where
  a : Option Addr
  l : List Int
  c : Nat
def Row.v (r : Row) : Value := .slice r.a r.l.length r.c
def Row.good (W : World) (r : Row) : Prop := Rd W r.a (is r.l) ∧ (∀ n ∈ r.l, I64ok n) ∧ r.l.length ≤ r.c ∧ r.c ≤ maxLen

theorem open_texts {t e : TypeId} {v : Value} {d : DataW H} {p : List MemPlace} {base : Nat} (ht : P.underlying t = some (.slice e)) (he : P.underlying e = some .string) (hc : P.cellsOf e = 1)
    (hv : Value.okWide P W .any base t v) (h : DataW.Trod enc P W 0 (fun _ => true) true t v d p) : ∃ (a : Option Addr) (l : List (List UInt8)) (c : Nat), v = .slice a l.length c ∧ Rd W a (ss l) ∧ (∀ t ∈ l, t.length ≤ maxLen) ∧ l.length ≤ c ∧ c ≤ maxLen := by
  obtain ⟨a0, len, cap, rfl⟩ := okWide_slice ht hv
  obtain ⟨fuel, hf⟩ := h
  rcases Go.Deep.open_strs ht he hc hf with ⟨hcs, _⟩ | ⟨x, l, c, m, Sx, hcs, _, hl, hm, hmm, _, hcell⟩
  · simp [Value.cells] at hcs
    obtain ⟨rfl, rfl, rfl⟩ := hcs
    exact ⟨none, [], 0, rfl, Rd.nil _ _, by simp, by simp, Nat.zero_le _⟩
  · simp [Value.cells] at hcs
    obtain ⟨rfl, rfl, rfl⟩ := hcs
    simp only [if_true] at hmm
    subst hmm
    have hst : ∀ s : ByteArray, str s.data.toList = s := fun s => by
      cases s; simp [str]
    refine ⟨some x, (List.range len).map (fun i => (Sx i).data.toList), m, ?_, ?_, ?_, ?_, hm⟩
    · simp
    · intro j v hj
      refine ⟨x, rfl, ?_⟩
      simp only [ss, List.map_map, List.getElem?_map, Option.map_eq_some_iff, Function.comp_apply] at hj
      obtain ⟨z, hz1, rfl⟩ := hj
      have hz2 := List.getElem?_eq_some_iff.mp hz1
      obtain ⟨hz3, hz4⟩ := hz2
      simp at hz3 hz4
      subst hz4
      rw [(hcell j (by omega)).1, hst]
    · intro t ht
      simp only [List.mem_map, List.mem_range] at ht
      obtain ⟨i, hi, rfl⟩ := ht
      have := (hcell i (by omega)).2
      simpa using this
    · simpa using hl

theorem open_rows {t e q : TypeId} {v : Value} {d : DataW H} {p : List MemPlace} {base : Nat} (ht : P.underlying t = some (.slice e)) (he : P.underlying e = some (.slice q)) (hq : P.underlying q = some (.int .i64)) (ce : P.cellsOf e = 1) (cq : P.cellsOf q = 1)
    (hv : Value.okWide P W .any base t v) (h : DataW.Trod enc P W 0 (fun _ => true) true t v d p) : ∃ (a : Option Addr) (l : List Row) (c : Nat), v = .slice a l.length c ∧ Rd W a (l.map Row.v) ∧ (∀ r ∈ l, r.good W) ∧ l.length ≤ c ∧ c ≤ maxLen := by
  obtain ⟨a0, len, cap, rfl⟩ := okWide_slice ht hv
  obtain ⟨fuel, hf⟩ := h
  rcases Go.Deep.open_int_rows ht he hq ce cq hf with ⟨hcs, _⟩ | ⟨x, l, c, A, L, C, Z, hcs, _, hl, hm, _, hcell⟩
  · simp [Value.cells] at hcs
    obtain ⟨rfl, rfl, rfl⟩ := hcs
    exact ⟨none, [], 0, rfl, Rd.nil _ _, by simp, by simp, Nat.zero_le _⟩
  · simp [Value.cells] at hcs
    obtain ⟨rfl, rfl, rfl⟩ := hcs
    refine ⟨some x, (List.range len).map (fun i => ⟨A i, (Z i).take (L i), C i⟩), cap, ?_, ?_, ?_, ?_, hm⟩
    · simp
    · intro j v hj
      refine ⟨x, rfl, ?_⟩
      simp only [List.map_map, List.getElem?_map, Option.map_eq_some_iff, Function.comp_apply] at hj
      obtain ⟨z, hz1, rfl⟩ := hj
      obtain ⟨hz3, hz4⟩ := List.getElem?_eq_some_iff.mp hz1
      simp at hz3 hz4
      subst hz4
      obtain ⟨h1, h2, h3, h4, _⟩ := hcell j (by omega)
      rw [h1]
      simp [Row.v, h4, Nat.min_eq_left h2]
    · intro r hr
      simp only [List.mem_map, List.mem_range] at hr
      obtain ⟨i, hi, rfl⟩ := hr
      obtain ⟨h1, h2, h3, h4, h5, h6, h7⟩ := hcell i (by omega)
      refine ⟨?_, fun n hn => of_int_wf (h5 n (List.mem_of_mem_take hn)), by simp [h4]; omega, h3⟩
      intro j v hj
      simp only [is, List.getElem?_map, Option.map_eq_some_iff] at hj
      obtain ⟨z, hz1, rfl⟩ := hj
      rw [List.getElem?_take] at hz1
      split at hz1
      · rename_i hjl
        cases hA : A i with
        | none => have := h6 hA; omega
        | some a' =>
          refine ⟨a', rfl, ?_⟩
          rw [(h7 a' hA).2 j (by omega), List.getD_eq_getElem?_getD, hz1]
          rfl
      · cases hz1
    · simpa using hl
end Go.Esc
