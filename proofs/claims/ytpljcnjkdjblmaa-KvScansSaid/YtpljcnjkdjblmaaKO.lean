/- The texts Open OpenT in one. -/
import Derived.Test.YtpljcnjkdjblmaaKA
import Derived.ProofKit
import Derived.OpenShut
/- What an argument that can be read holds, in Base's words: of no program. -/
namespace Go.Esc
open Go.RowKit Go.ChangeShapes Go.WideShapes Go.ChangeAt
open Go.ChangeMaps (open_string shut_string)

variable {H : Type} {enc : TypeId × Value → H} {P : Program} {W : World}

theorem of_int_wf {n : Int} (h : (Lit.int .i64 n).wf = true) : I64ok n := by
  simp [Lit.wf, IntKind.min, IntKind.max, IntKind.signed, IntKind.bits] at h
  exact ⟨by omega, by omega⟩

theorem open_bytes {t e : TypeId} {v : Value} {d : DataW H} {p : List MemPlace} {base : Nat} (ht : P.underlying t = some (.slice e)) (he : P.underlying e = some (.int .u8)) (hc : P.cellsOf e = 1)
    (hv : Value.okWide P W .any base t v) (h : DataW.Trod enc P W 0 (fun _ => true) true t v d p) : ∃ (a : Option Addr) (l : List UInt8) (c : Nat), v = .slice a l.length c ∧ Rd W a (bs l) ∧ l.length ≤ c ∧ c ≤ maxLen := by
  obtain ⟨a0, len, cap, rfl⟩ := okWide_slice ht hv
  obtain ⟨fuel, hf⟩ := h
  rcases open_ints ht he hc hf with ⟨hcs, _⟩ | ⟨x, l, c, zs, hcs, _, hl, hm, hz, _, hcell, hwz⟩
  · simp [Value.cells] at hcs
    obtain ⟨rfl, rfl, rfl⟩ := hcs
    exact ⟨none, [], 0, rfl, Rd.nil _ _, by simp, Nat.zero_le _⟩
  · simp [Value.cells] at hcs
    obtain ⟨rfl, rfl, rfl⟩ := hcs
    have hz' : zs.length = cap := by simpa using hz
    refine ⟨some x, (zs.take len).map (fun z => b8 z.toNat), cap, ?_, ?_, ?_, hm⟩
    · simp [hz', Nat.min_eq_left hl]
    · intro j v hj
      refine ⟨x, rfl, ?_⟩
      simp only [bs, List.map_map, List.getElem?_map, Option.map_eq_some_iff, Function.comp_apply] at hj
      obtain ⟨z, hz1, rfl⟩ := hj
      rw [List.getElem?_take] at hz1
      split at hz1
      · rename_i hjl
        have hmem : z ∈ zs := List.mem_of_getElem? hz1
        have hw := hwz z hmem
        simp [Lit.wf, IntKind.min, IntKind.max, IntKind.signed, IntKind.bits] at hw
        rw [hcell j (by omega), List.getD_eq_getElem?_getD, hz1, B8_b8 _ (by omega)]
        simp only [Option.getD_some, Option.some.injEq, Value.int.injEq, true_and]
        omega
      · cases hz1
    · simp [hz', Nat.min_eq_left hl, hl]

theorem open_nums {t e : TypeId} {v : Value} {d : DataW H} {p : List MemPlace} {base : Nat} (ht : P.underlying t = some (.slice e)) (he : P.underlying e = some (.int .i64)) (hc : P.cellsOf e = 1)
    (hv : Value.okWide P W .any base t v) (h : DataW.Trod enc P W 0 (fun _ => true) true t v d p) : ∃ (a : Option Addr) (l : List Int) (c : Nat), v = .slice a l.length c ∧ Rd W a (is l) ∧ (∀ n ∈ l, I64ok n) ∧ l.length ≤ c ∧ c ≤ maxLen := by
  obtain ⟨a0, len, cap, rfl⟩ := okWide_slice ht hv
  obtain ⟨fuel, hf⟩ := h
  rcases open_ints ht he hc hf with ⟨hcs, _⟩ | ⟨x, l, c, zs, hcs, _, hl, hm, hz, _, hcell, hwz⟩
  · simp [Value.cells] at hcs
    obtain ⟨rfl, rfl, rfl⟩ := hcs
    exact ⟨none, [], 0, rfl, Rd.nil _ _, by simp, by simp, Nat.zero_le _⟩
  · simp [Value.cells] at hcs
    obtain ⟨rfl, rfl, rfl⟩ := hcs
    have hz' : zs.length = cap := by simpa using hz
    refine ⟨some x, zs.take len, cap, ?_, ?_, ?_, ?_, hm⟩
    · simp [hz', Nat.min_eq_left hl]
    · intro j v hj
      refine ⟨x, rfl, ?_⟩
      simp only [is, List.getElem?_map, Option.map_eq_some_iff] at hj
      obtain ⟨z, hz1, rfl⟩ := hj
      rw [List.getElem?_take] at hz1
      split at hz1
      · rename_i hjl
        rw [hcell j (by omega), List.getD_eq_getElem?_getD, hz1]
        rfl
      · cases hz1
    · intro n hn
      exact of_int_wf (hwz n (List.mem_of_mem_take hn))
    · simp [hz', Nat.min_eq_left hl, hl]

theorem open_str {t : TypeId} {v : Value} {d : DataW H} {p : List MemPlace} {base : Nat} (ht : P.underlying t = some .string)
    (hv : Value.okWide P W .any base t v) (h : DataW.Trod enc P W 0 (fun _ => true) true t v d p) : ∃ l : List UInt8, v = .string (str l) ∧ l.length ≤ maxLen := by
  obtain ⟨s, rfl, rfl, rfl, hs⟩ := open_string ht hv h
  exact ⟨s.data.toList, rfl, by rw [size_list]; exact hs⟩

theorem open_num {t : TypeId} {v : Value} {d : DataW H} {p : List MemPlace} {base : Nat} (ht : P.underlying t = some (.int .i64))
    (hv : Value.okWide P W .any base t v) (h : DataW.Trod enc P W 0 (fun _ => true) true t v d p) : ∃ n : Int, v = .int .i64 n ∧ I64ok n := by
  obtain ⟨x, rfl, rfl, rfl, wx⟩ := open_int ht hv h
  exact ⟨x, rfl, of_int_wf wx⟩

theorem open_byte {t : TypeId} {v : Value} {d : DataW H} {p : List MemPlace} {base : Nat} (ht : P.underlying t = some (.int .u8))
    (hv : Value.okWide P W .any base t v) (h : DataW.Trod enc P W 0 (fun _ => true) true t v d p) : ∃ b : UInt8, v = B8 b := by
  obtain ⟨x, rfl, rfl, rfl, wx⟩ := open_int ht hv h
  simp [Lit.wf, IntKind.min, IntKind.max, IntKind.signed, IntKind.bits] at wx
  refine ⟨b8 x.toNat, ?_⟩
  rw [B8_b8 _ (by omega)]
  congr 1
  omega

theorem open_flag {t : TypeId} {v : Value} {d : DataW H} {p : List MemPlace} {base : Nat} (ht : P.underlying t = some .bool)
    (hv : Value.okWide P W .any base t v) (h : DataW.Trod enc P W 0 (fun _ => true) true t v d p) : ∃ b : Bool, v = .bool b := by
  obtain ⟨x, rfl, rfl, rfl⟩ := open_bool ht hv h
  exact ⟨x, rfl⟩

theorem places_lt {t : TypeId} {v : Value} {d : DataW H} {p : List MemPlace} (h : DataW.Trod enc P W 0 (fun _ => true) true t v d p) : ∀ x ∈ p, x.block < W.heap.size := by
  obtain ⟨m, hm⟩ := h
  exact DataW.trod_lt m _ _ _ hm
end Go.Esc

/- What an argument of several cells an element holds (slices of structs): of no program. -/
namespace Go.Esc
open Go.RowKit Go.ChangeShapes Go.WideShapes Go.ChangeAt

variable {H : Type} {enc : TypeId × Value → H} {P : Program} {W : World}

theorem cells_at {w : World} {base n : Nat} {a : Addr} {cs : List Value} (h : w.cells? base a n = some cs) : cs.length = n ∧ ∀ i v, cs[i]? = some v → w.cell? (a.add i) = some v := by
  obtain ⟨_, h2, h3⟩ := World.cells?_some h
  refine ⟨h2, fun i v hi => ?_⟩
  have hlt := (List.getElem?_eq_some_iff.1 hi).1
  rw [h3 i (by omega), hi]

theorem choose_list {R : Type} {p : Nat → R → Prop} : ∀ n, (∀ i, i < n → ∃ r, p i r) → ∃ l : List R, l.length = n ∧ ∀ i r, l[i]? = some r → p i r
  | 0, _ => ⟨[], rfl, by simp⟩
  | n + 1, h => by
    obtain ⟨l, hl, hp⟩ := choose_list n (fun i hi => h i (by omega))
    obtain ⟨r, hr⟩ := h n (by omega)
    refine ⟨l ++ [r], by simp [hl], fun i r' hi => ?_⟩
    by_cases hin : i < n
    · rw [List.getElem?_append_left (by omega)] at hi
      exact hp i r' hi
    · rw [List.getElem?_append_right (by omega)] at hi
      have : i = n := by
        have := (List.getElem?_eq_some_iff.1 hi).1
        simp at this
        omega
      subst this
      rw [hl, Nat.sub_self] at hi
      cases hi
      exact hr

theorem flat_cells {R : Type} {w : World} {a : Addr} {f : R → List Value} {k : Nat} (hk : ∀ r, (f r).length = k) : ∀ (l : List R) (i0 : Nat),
    (∀ i r, l[i]? = some r → ∀ m v, (f r)[m]? = some v → w.cell? (a.add ((i0 + i) * k + m)) = some v) → ∀ j v, (l.flatMap f)[j]? = some v → w.cell? (a.add (i0 * k + j)) = some v
  | [], _, _, j, v, h => by simp at h
  | r :: l, i0, hc, j, v, h => by
    rw [List.flatMap_cons] at h
    by_cases hj : j < k
    · rw [List.getElem?_append_left (by rw [hk]; exact hj)] at h
      have := hc 0 r rfl j v h
      simpa using this
    · rw [List.getElem?_append_right (by rw [hk]; omega), hk] at h
      have := flat_cells hk l (i0 + 1) (fun i r' hi m v' hm => by
        have := hc (i + 1) r' (by simpa using hi) m v' hm
        rw [show i0 + 1 + i = i0 + (i + 1) by omega]; exact this) (j - k) v h
      rw [show (i0 + 1) * k + (j - k) = i0 * k + j by rw [Nat.add_mul]; omega] at this
      exact this

theorem trod_bytes {t e : TypeId} {fuel : Nat} {cs : List Value} {x : DataW H × List MemPlace} (ht : P.underlying t = some (.slice e)) (he : P.underlying e = some (.int .u8)) (hc : P.cellsOf e = 1)
    (hf : DataW.trod enc P W 0 (fun _ => true) true fuel t cs = some x) : ∃ (a : Option Addr) (l : List UInt8) (c : Nat), cs = [.slice a l.length c] ∧ Rd W a (bs l) ∧ l.length ≤ c ∧ c ≤ maxLen := by
  rcases open_ints ht he hc hf with ⟨hcs, _⟩ | ⟨x, len, cap, zs, hcs, _, hl, hm, hz, _, hcell, hwz⟩
  · exact ⟨none, [], 0, hcs, Rd.nil _ _, by simp, Nat.zero_le _⟩
  · have hz' : zs.length = cap := by simpa using hz
    refine ⟨some x, (zs.take len).map (fun z => b8 z.toNat), cap, ?_, ?_, ?_, hm⟩
    · rw [hcs]; simp [hz', Nat.min_eq_left hl]
    · intro j v hj
      refine ⟨x, rfl, ?_⟩
      simp only [bs, List.map_map, List.getElem?_map, Option.map_eq_some_iff, Function.comp_apply] at hj
      obtain ⟨z, hz1, rfl⟩ := hj
      rw [List.getElem?_take] at hz1
      split at hz1
      · rename_i hjl
        have hmem : z ∈ zs := List.mem_of_getElem? hz1
        have hw := hwz z hmem
        simp [Lit.wf, IntKind.min, IntKind.max, IntKind.signed, IntKind.bits] at hw
        rw [hcell j (by omega), List.getD_eq_getElem?_getD, hz1, B8_b8 _ (by omega)]
        simp only [Option.getD_some, Option.some.injEq, Value.int.injEq, true_and]
        omega
      · cases hz1
    · simp [hz', Nat.min_eq_left hl, hl]

/-- A slice of elements of which each is read as some r of R, of k cells. -/
theorem trod_rows {R : Type} {f : R → List Value} {good : R → Prop} {t e : TypeId} {fuel k : Nat} {cs : List Value} {x : DataW H × List MemPlace} (ht : P.underlying t = some (.slice e)) (ce : P.cellsOf e = k) (hk : ∀ r, (f r).length = k)
    (each : ∀ fuel cs x, DataW.trod enc P W 0 (fun _ => true) true fuel e cs = some x → ∃ r, cs = f r ∧ good r)
    (hf : DataW.trod enc P W 0 (fun _ => true) true fuel t cs = some x) : ∃ (a : Option Addr) (l : List R) (c : Nat), cs = [.slice a l.length c] ∧ Rd W a (l.flatMap f) ∧ (∀ r ∈ l, good r) ∧ l.length ≤ c ∧ c ≤ maxLen := by
  rcases DataW.trod_slice ht hf with ⟨hcs, _⟩ | ⟨a, len, cap, elems, rest, n, _, hcs, _, hb, hl, hm, hlen, hel, _, _⟩
  · exact ⟨none, [], 0, hcs, Rd.nil _ _, by simp, by simp, Nat.zero_le _⟩
  · rw [ce] at hel
    have hex : ∀ i, i < len → ∃ r, (∀ m v, (f r)[m]? = some v → W.cell? (a.add (i * k + m)) = some v) ∧ good r := by
      intro i hi
      have h1 := hel i hi
      rw [List.getElem?_eq_getElem (by omega), Option.bind_eq_some_iff] at h1
      obtain ⟨cs', h2, h3⟩ := h1
      obtain ⟨r, rfl, hg⟩ := each _ _ _ h3
      refine ⟨r, fun m v hv => ?_, hg⟩
      have := (cells_at h2).2 m v hv
      rwa [Addr.add_add] at this
    obtain ⟨l, hll, hp⟩ := choose_list len hex
    refine ⟨some a, l, cap, by rw [hcs, hll], ?_, ?_, by omega, hm⟩
    · intro j v hj
      refine ⟨a, rfl, ?_⟩
      have := flat_cells hk l 0 (fun i r hi m v hm => by rw [Nat.zero_add]; exact (hp i r hi).1 m v hm) j v hj
      simpa using this
    · intro r hr
      obtain ⟨i, hi⟩ := List.getElem?_of_mem hr
      exact (hp i r hi).2
theorem open_rows_of {R : Type} {f : R → List Value} {good : R → Prop} {t e : TypeId} {k : Nat} {v : Value} {d : DataW H} {p : List MemPlace} {base : Nat} (ht : P.underlying t = some (.slice e)) (ce : P.cellsOf e = k) (hk : ∀ r, (f r).length = k)
    (each : ∀ fuel cs x, DataW.trod enc P W 0 (fun _ => true) true fuel e cs = some x → ∃ r, cs = f r ∧ good r)
    (hv : Value.okWide P W .any base t v) (h : DataW.Trod enc P W 0 (fun _ => true) true t v d p) : ∃ (a : Option Addr) (l : List R) (c : Nat), v = .slice a l.length c ∧ Rd W a (l.flatMap f) ∧ (∀ r ∈ l, good r) ∧ l.length ≤ c ∧ c ≤ maxLen := by
  obtain ⟨a0, len, cap, rfl⟩ := okWide_slice ht hv
  obtain ⟨fuel, hf⟩ := h
  obtain ⟨a, l, c, hcs, h1⟩ := trod_rows ht ce hk each hf
  simp [Value.cells] at hcs
  obtain ⟨rfl, rfl, rfl⟩ := hcs
  exact ⟨_, l, _, rfl, h1⟩

/-- A field of a struct, by its place. -/
theorem trod_field {e : TypeId} {fs : Array Field} {fuel : Nat} {cs : List Value} {x : DataW H × List MemPlace} (he : P.underlying e = some (.struct fs)) (hf : DataW.trod enc P W 0 (fun _ => true) true fuel e cs = some x) (i : Nat) (t : TypeId) (o k : Nat)
    {f : Field} (hi : fs[i]? = some f) (ht : f.type = t) (ho : f.offset = o) (hk : P.cellsOf t = k) : ∃ n y, DataW.trod enc P W 0 (fun _ => true) true n t ((cs.drop o).take k) = some y := by
  subst ht ho hk
  obtain ⟨xs, n, _, _, _, hxl, hall⟩ := DataW.trod_struct he hf
  have hlt : i < fs.size := (Array.getElem?_eq_some_iff.1 hi).1
  have h := hall i f hi
  rw [List.getElem?_eq_getElem (by omega)] at h
  exact ⟨n, _, h⟩
theorem trod_cells {e : TypeId} {fs : Array Field} {fuel : Nat} {cs : List Value} {x : DataW H × List MemPlace} (he : P.underlying e = some (.struct fs)) (hf : DataW.trod enc P W 0 (fun _ => true) true fuel e cs = some x) : cs.length = P.cellsOf e := by
  obtain ⟨xs, n, _, _, h, _⟩ := DataW.trod_struct he hf
  exact h
theorem trod_num {t : TypeId} {fuel : Nat} {cs : List Value} {x : DataW H × List MemPlace} (ht : P.underlying t = some (.int .i64)) (h : DataW.trod enc P W 0 (fun _ => true) true fuel t cs = some x) : ∃ n, cs = [.int .i64 n] ∧ I64ok n := by
  obtain ⟨n, h1, _, h2⟩ := DataW.trod_int ht h
  exact ⟨n, h1, of_int_wf h2⟩
end Go.Esc
