/- What an argument that can be read holds: rows of bytes; copies made by append. -/
import Derived.Test.YtbmkmbankflbpaaStr
import Derived.Test.YtbmkmbankflbpaaOpen
import Derived.Deep.Matrix
namespace Go.Esc
open Go.RowKit Go.ChangeShapes Go.WideShapes Go.ChangeAt

variable {H : Type} {enc : TypeId × Value → H} {P : Program} {W : World}

def Part.good (W : World) (p : Part) : Prop := Rd W p.a (bs p.l) ∧ p.l.length ≤ p.c ∧ p.c ≤ maxLen

theorem open_brows {t e q : TypeId} {v : Value} {d : DataW H} {p : List MemPlace} {base : Nat} (ht : P.underlying t = some (.slice e)) (he : P.underlying e = some (.slice q)) (hq : P.underlying q = some (.int .u8)) (ce : P.cellsOf e = 1) (cq : P.cellsOf q = 1)
    (hv : Value.okWide P W .any base t v) (h : DataW.Trod enc P W 0 (fun _ => true) true t v d p) : ∃ (a : Option Addr) (l : List Part) (c : Nat), v = .slice a l.length c ∧ Rd W a (l.map Part.v) ∧ (∀ r ∈ l, r.good W) ∧ l.length ≤ c ∧ c ≤ maxLen := by
  obtain ⟨a0, len, cap, rfl⟩ := okWide_slice ht hv
  obtain ⟨fuel, hf⟩ := h
  rcases Go.Deep.open_int_rows ht he hq ce cq hf with ⟨hcs, _⟩ | ⟨x, l, c, A, L, C, Z, hcs, _, hl, hm, _, hcell⟩
  · simp [Value.cells] at hcs
    obtain ⟨rfl, rfl, rfl⟩ := hcs
    exact ⟨none, [], 0, rfl, Rd.nil _ _, by simp, by simp, Nat.zero_le _⟩
  · simp [Value.cells] at hcs
    obtain ⟨rfl, rfl, rfl⟩ := hcs
    refine ⟨some x, (List.range len).map (fun i => ⟨A i, ((Z i).take (L i)).map (fun z => b8 z.toNat), C i⟩), cap, ?_, ?_, ?_, ?_, hm⟩
    · simp
    · intro j v hj
      refine ⟨x, rfl, ?_⟩
      simp only [List.map_map, List.getElem?_map, Option.map_eq_some_iff, Function.comp_apply] at hj
      obtain ⟨z, hz1, rfl⟩ := hj
      obtain ⟨hz3, hz4⟩ := List.getElem?_eq_some_iff.mp hz1
      simp at hz3 hz4
      subst hz4
      obtain ⟨h1, h2, h3, h4, _⟩ := hcell j (by omega)
      rw [h1]
      simp [Part.v, h4, Nat.min_eq_left h2]
    · intro r hr
      simp only [List.mem_map, List.mem_range] at hr
      obtain ⟨i, hi, rfl⟩ := hr
      obtain ⟨h1, h2, h3, h4, h5, h6, h7⟩ := hcell i (by omega)
      refine ⟨?_, by simp [h4]; omega, h3⟩
      intro j v hj
      simp only [bs, List.map_map, List.getElem?_map, Option.map_eq_some_iff, Function.comp_apply] at hj
      obtain ⟨z, hz1, rfl⟩ := hj
      rw [List.getElem?_take] at hz1
      split at hz1
      · rename_i hjl
        cases hA : A i with
        | none => have := h6 hA; omega
        | some a' =>
          refine ⟨a', rfl, ?_⟩
          have hw := h5 z (List.mem_of_getElem? hz1)
          simp [Lit.wf, IntKind.min, IntKind.max, IntKind.signed, IntKind.bits] at hw
          rw [(h7 a' hA).2 j (by omega), List.getD_eq_getElem?_getD, hz1, B8_b8 _ (by omega)]
          simp only [Option.getD_some, Option.some.injEq, Value.int.injEq, true_and]
          omega
      · cases hz1
    · simpa using hl

theorem bs_set (l : List UInt8) (i : Nat) (b : UInt8) : (bs l).set i (B8 b) = bs (l.set i b) := by unfold bs; rw [List.map_set]

/-- A slice made anew, empty. -/
theorem emptied (w : World) (te : TypeId) : Own (w.alloc (.cells #[] te)) w.heap.size (some ⟨w.heap.size, 0, none⟩) 1 0 0 [] :=
  Own.fresh w _ _ _ _ _ _ _ _ (Nat.le_refl _) (by simp) (Nat.le_refl _) (Nat.zero_le _) (by simp) (by simp) (.inl (Nat.le_refl _))
/-- .. with bytes behind: a copy. -/
theorem copied {w w' : World} {te : TypeId} {a' : Option Addr} {c' m : Nat} {l : List UInt8} (h : App (w.alloc (.cells #[] te)) w' w.heap.size 1 (some ⟨w.heap.size, 0, none⟩) 0 0 [] a' c' m (bs l)) :
    Own w' w.heap.size a' 1 m c' (bs l) ∧ Ext no w w' := by
  refine ⟨by have := h.own; rwa [Nat.zero_add, List.nil_append] at this, ?_⟩
  exact Ext.ofBelow (((Below.refl _ _).alloc (Nat.le_refl _) _).trans ((emptied w te).below h.ext (by simp))) (Nat.le_refl _)
/-- What was appended to a slice of the call's own. -/
theorem appended {w w1 w2 : World} {a a' : Option Addr} {n c c' m : Nat} {M l : List UInt8} (ho : Own w1 w.heap.size a 1 n c (bs M)) (hx : Ext no w w1) (h : App w1 w2 w.heap.size 1 a n c (bs M) a' c' m (bs l)) :
    Own w2 w.heap.size a' 1 (n + m) c' (bs (M ++ l)) ∧ Ext no w w2 :=
  ⟨by rw [bs_append]; exact h.own, Ext.ofBelow (hx.belowAll.trans (ho.below h.ext hx.size)) (Nat.le_refl _)⟩
end Go.Esc
