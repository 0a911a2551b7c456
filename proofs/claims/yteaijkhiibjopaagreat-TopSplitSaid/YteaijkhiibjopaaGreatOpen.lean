/- What an argument that can be read holds, in Base's words: of no program. -/
import Derived.Test.YteaijkhiibjopaaGreatPlainA
import Derived.ProofKit
import Derived.OpenShut
namespace Go.Esc
open Go.RowKit Go.ChangeShapes Go.WideShapes Go.ChangeAt
open Go.ChangeMaps (open_string shut_string)

variable {H : Type} {enc : TypeId × Value → H} {P : Program} {W : World}

theorem of_int_wf {n : Int} (h : (Lit.int .i64 n).wf = true) : I64ok n := by
  simp [Lit.wf, IntKind.min, IntKind.max, IntKind.signed, IntKind.bits] at h
  exact ⟨by omega, by omega⟩

theorem open_bytes {t e : TypeId} {v : Value} {d : DataW H} {p : List MemPlace} {base : Nat} (ht : P.underlying t = some (.slice e)) (he : P.underlying e = some (.int .u8)) (hc : P.cellsOf e = 1)
    (hv : Value.okWide P W .any base t v) (h : DataW.Trod enc P W 0 (fun _ => true) true t v d p) : ∃ (a : Option Addr) (l : List UInt8) (c : Nat), v = .slice a l.length c ∧ Rd W a (bs l) ∧ l.length ≤ c ∧ c ≤ maxLen := by
  obtain ⟨a0, len, cap, rfl⟩ := okWide_slice ht hv
  obtain ⟨fuel, hf⟩ := h
  rcases open_ints ht he hc hf with ⟨hcs, _⟩ | ⟨x, l, c, zs, hcs, _, hl, hm, hz, _, hcell, hwz⟩
  · simp [Value.cells] at hcs
    obtain ⟨rfl, rfl, rfl⟩ := hcs
    exact ⟨none, [], 0, rfl, Rd.nil _ _, by simp, Nat.zero_le _⟩
  · simp [Value.cells] at hcs
    obtain ⟨rfl, rfl, rfl⟩ := hcs
    have hz' : zs.length = cap := by simpa using hz
    refine ⟨some x, (zs.take len).map (fun z => b8 z.toNat), cap, ?_, ?_, ?_, hm⟩
    · simp [hz', Nat.min_eq_left hl]
    · intro j v hj
      refine ⟨x, rfl, ?_⟩
      simp only [bs, List.map_map, List.getElem?_map, Option.map_eq_some_iff, Function.comp_apply] at hj
      obtain ⟨z, hz1, rfl⟩ := hj
      rw [List.getElem?_take] at hz1
      split at hz1
      · rename_i hjl
        have hmem : z ∈ zs := List.mem_of_getElem? hz1
        have hw := hwz z hmem
        simp [Lit.wf, IntKind.min, IntKind.max, IntKind.signed, IntKind.bits] at hw
        rw [hcell j (by omega), List.getD_eq_getElem?_getD, hz1, B8_b8 _ (by omega)]
        simp only [Option.getD_some, Option.some.injEq, Value.int.injEq, true_and]
        omega
      · cases hz1
    · simp [hz', Nat.min_eq_left hl, hl]

theorem open_nums {t e : TypeId} {v : Value} {d : DataW H} {p : List MemPlace} {base : Nat} (ht : P.underlying t = some (.slice e)) (he : P.underlying e = some (.int .i64)) (hc : P.cellsOf e = 1)
    (hv : Value.okWide P W .any base t v) (h : DataW.Trod enc P W 0 (fun _ => true) true t v d p) : ∃ (a : Option Addr) (l : List Int) (c : Nat), v = .slice a l.length c ∧ Rd W a (is l) ∧ (∀ n ∈ l, I64ok n) ∧ l.length ≤ c ∧ c ≤ maxLen := by
  obtain ⟨a0, len, cap, rfl⟩ := okWide_slice ht hv
  obtain ⟨fuel, hf⟩ := h
  rcases open_ints ht he hc hf with ⟨hcs, _⟩ | ⟨x, l, c, zs, hcs, _, hl, hm, hz, _, hcell, hwz⟩
  · simp [Value.cells] at hcs
    obtain ⟨rfl, rfl, rfl⟩ := hcs
    exact ⟨none, [], 0, rfl, Rd.nil _ _, by simp, by simp, Nat.zero_le _⟩
  · simp [Value.cells] at hcs
    obtain ⟨rfl, rfl, rfl⟩ := hcs
    have hz' : zs.length = cap := by simpa using hz
    refine ⟨some x, zs.take len, cap, ?_, ?_, ?_, ?_, hm⟩
    · simp [hz', Nat.min_eq_left hl]
    · intro j v hj
      refine ⟨x, rfl, ?_⟩
      simp only [is, List.getElem?_map, Option.map_eq_some_iff] at hj
      obtain ⟨z, hz1, rfl⟩ := hj
      rw [List.getElem?_take] at hz1
      split at hz1
      · rename_i hjl
        rw [hcell j (by omega), List.getD_eq_getElem?_getD, hz1]
        rfl
      · cases hz1
    · intro n hn
      exact of_int_wf (hwz n (List.mem_of_mem_take hn))
    · simp [hz', Nat.min_eq_left hl, hl]

theorem open_str {t : TypeId} {v : Value} {d : DataW H} {p : List MemPlace} {base : Nat} (ht : P.underlying t = some .string)
    (hv : Value.okWide P W .any base t v) (h : DataW.Trod enc P W 0 (fun _ => true) true t v d p) : ∃ l : List UInt8, v = .string (str l) ∧ l.length ≤ maxLen := by
  obtain ⟨s, rfl, rfl, rfl, hs⟩ := open_string ht hv h
  exact ⟨s.data.toList, rfl, by rw [size_list]; exact hs⟩

theorem open_num {t : TypeId} {v : Value} {d : DataW H} {p : List MemPlace} {base : Nat} (ht : P.underlying t = some (.int .i64))
    (hv : Value.okWide P W .any base t v) (h : DataW.Trod enc P W 0 (fun _ => true) true t v d p) : ∃ n : Int, v = .int .i64 n ∧ I64ok n := by
  obtain ⟨x, rfl, rfl, rfl, wx⟩ := open_int ht hv h
  exact ⟨x, rfl, of_int_wf wx⟩

theorem open_byte {t : TypeId} {v : Value} {d : DataW H} {p : List MemPlace} {base : Nat} (ht : P.underlying t = some (.int .u8))
    (hv : Value.okWide P W .any base t v) (h : DataW.Trod enc P W 0 (fun _ => true) true t v d p) : ∃ b : UInt8, v = B8 b := by
  obtain ⟨x, rfl, rfl, rfl, wx⟩ := open_int ht hv h
  simp [Lit.wf, IntKind.min, IntKind.max, IntKind.signed, IntKind.bits] at wx
  refine ⟨b8 x.toNat, ?_⟩
  rw [B8_b8 _ (by omega)]
  congr 1
  omega

theorem open_flag {t : TypeId} {v : Value} {d : DataW H} {p : List MemPlace} {base : Nat} (ht : P.underlying t = some .bool)
    (hv : Value.okWide P W .any base t v) (h : DataW.Trod enc P W 0 (fun _ => true) true t v d p) : ∃ b : Bool, v = .bool b := by
  obtain ⟨x, rfl, rfl, rfl⟩ := open_bool ht hv h
  exact ⟨x, rfl⟩

theorem places_lt {t : TypeId} {v : Value} {d : DataW H} {p : List MemPlace} (h : DataW.Trod enc P W 0 (fun _ => true) true t v d p) : ∀ x ∈ p, x.block < W.heap.size := by
  obtain ⟨m, hm⟩ := h
  exact DataW.trod_lt m _ _ _ hm
end Go.Esc
