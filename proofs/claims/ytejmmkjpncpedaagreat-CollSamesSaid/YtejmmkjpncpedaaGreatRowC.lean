/- Rows of records that are owned: clearing their end; an element written over: of no program. -/
import Derived.Test.YtejmmkjpncpedaaGreatRowB
namespace Go.Esc
open Go.RowKit
section
variable {P : Program} {w w' : World}
theorem run_clear_own {t ty e : TypeId} {z : Value} {k by' : Nat} (T : SlT P t e z k by') (hz1 : ∀ u ∈ z.cells, u.oneCell' = true) {B n c : Nat} {ad : Addr} {cs : List Value} (ho : Own w B (some ad) k n c cs) {off cx : Nat} (hoff : off ≤ n) :
    ∃ w' zs, (Builtin.clear_ #[t] ty #[.slice (some (ad.add (off * k))) (n - off) cx]).run P w = .ok (.tuple #[]) w' ∧ Own w' B (some ad) k n c (cs.take (off * k) ++ zs) ∧ zs.length = (n - off) * k ∧ Ext (blk (some ad)) w w' := by
  obtain ⟨i, hi, hz, hk, hb⟩ := info_parts T.info
  have hk0 := T.k0
  have hlen := ho.len
  have hle : off * k ≤ n * k := Nat.mul_le_mul_right _ hoff
  by_cases h0 : n - off = 0
  · have e0 : off = n := by omega
    subst e0
    refine ⟨w, [], ?_, ?_, by simp, Ext.refl _ _⟩
    · rw [h0]
      simp [Builtin.clear_, run_underlying T.und]
    · rw [List.append_nil, List.take_of_length_le (by omega)]; exact ho
  · obtain ⟨_, _, hsp⟩ := ho.base ad rfl
    obtain ⟨g, o0, sp⟩ := ad
    simp only at hsp
    subst hsp
    have hsum : off * k + (n - off) * k = n * k := by rw [← Nat.add_mul]; congr 1; omega
    have hnc : n * k ≤ c * k := Nat.mul_le_mul_right _ ho.nc
    have hzl : (Builtin.zeroCells z.cells (n - off)).toList.length = (n - off) * k := by rw [Array.length_toList, size_zeroCells, T.zk]
    have hcan : ∀ j, j < (n - off) * k → (w.cell? ⟨g, o0 + off * k + j, none⟩).isSome = true ∧ w.frozen? ⟨g, o0 + off * k + j, none⟩ = false := fun j hj => by
      obtain ⟨_, e1, h3, h4⟩ := ho.can (off * k + j) (by omega)
      cases e1
      rw [Addr.add_lit] at h3 h4
      rw [Nat.add_assoc]
      exact ⟨h3, h4⟩
    have h1 : ∀ u ∈ (Builtin.zeroCells z.cells (n - off)).toList, u.oneCell' = true := by
      intro u hu
      simp only [Builtin.zeroCells, Array.toList_map, List.mem_map, Array.toList_range, List.mem_range] at hu
      obtain ⟨j, hj, rfl⟩ := hu
      have hzp : 0 < z.cells.size := by rw [T.zk]; exact hk0
      have hlt := Nat.mod_lt j hzp
      rw [getElem!_pos z.cells (j % z.cells.size) hlt]
      exact hz1 _ (Array.getElem_mem hlt)
    have hst := run_storeCells_cells (P := P) g (o0 + off * k) (Builtin.zeroCells z.cells (n - off)).toList 0 w (by intro j hj; rw [hzl] at hj; simpa using (hcan j hj).1) (by intro j hj; rw [hzl] at hj; simpa using (hcan j hj).2) h1
    refine ⟨w.setCells g (o0 + off * k) (Builtin.zeroCells z.cells (n - off)).toList, (Builtin.zeroCells z.cells (n - off)).toList, ?_, ?_, hzl, Ext.setCells _ _ _ _ ⟨_, rfl, rfl⟩⟩
    · rw [Addr.add_lit]
      simp only [Nat.add_zero] at hst
      simp [Builtin.clear_, run_underlying T.und, zeroValue, typeInfo, hi, hz, hst]
    · have := Own.setCellsK (Builtin.zeroCells z.cells (n - off)).toList (off * k) w cs ho (by rw [hzl]; omega)
      rw [hzl, hsum, List.drop_of_length_le (by omega), List.append_nil] at this
      exact this
end
section
variable {α : Type} {f : α → List Value} {k : Nat} {w w' : World}
theorem rows_set (hk : ∀ x, (f x).length = k) (l : List α) (i : Nat) (x : α) (hi : i < l.length) : (rows f l).take (i * k) ++ f x ++ (rows f l).drop ((i + 1) * k) = rows f (l.set i x) := by
  rw [rows_take hk, rows_drop hk, List.set_eq_take_append_cons_drop, if_pos hi, rows_append, rows_cons, List.append_assoc]
/-- Element number i of an owned row: where it lies, what stands there, that it may be written. -/
theorem Own.free {B n c b off : Nat} {cs : List Value} (h : Own w B (some ⟨b, off, none⟩) k n c cs) (i m : Nat) (hi : i < n) (hm : m < k) : w.frozen? ⟨b, off + i * k + m, none⟩ = false := by
  have hle : (i + 1) * k ≤ n * k := Nat.mul_le_mul_right _ hi
  have hnc : n * k ≤ c * k := Nat.mul_le_mul_right _ h.nc
  rw [Nat.add_mul, Nat.one_mul] at hle
  obtain ⟨_, e, _, h2⟩ := h.can (i * k + m) (by omega)
  cases e
  rw [Addr.add_lit, ← Nat.add_assoc] at h2
  exact h2
theorem Own.lits {B n c : Nat} {a : Option Addr} {cs : List Value} (h : Own w B a k n c cs) (hc : 0 < c * k) : ∃ b off, a = some ⟨b, off, none⟩ := by
  obtain ⟨ad, ha, _⟩ := h.can 0 hc
  have := (h.base ad ha).2.2
  obtain ⟨b, off, sp⟩ := ad
  simp only at this
  subst this
  exact ⟨b, off, ha⟩
/-- A whole element written over. -/
theorem Own.over {B n c b off : Nat} {l : List α} (hk : ∀ x, (f x).length = k) (h : Own w B (some ⟨b, off, none⟩) k n c (rows f l)) (hn : n = l.length) (i : Nat) (hi : i < l.length) (x : α) :
    Own (w.setCells b (off + i * k) (f x)) B (some ⟨b, off, none⟩) k n c (rows f (l.set i x)) := by
  subst hn
  have hle : (i + 1) * k ≤ l.length * k := Nat.mul_le_mul_right _ hi
  have e : (i + 1) * k = i * k + k := by rw [Nat.add_mul, Nat.one_mul]
  have := Own.setCellsK (f x) (i * k) w (rows f l) h (by rw [hk]; omega)
  rw [hk, ← e, rows_set hk l i x hi] at this
  exact this
theorem filter_take_succ (l : List α) (p : α → Bool) (j : Nat) (x : α) (h : l[j]? = some x) : (l.take (j + 1)).filter p = (l.take j).filter p ++ (if p x = true then [x] else []) := by
  have hj := (List.getElem?_eq_some_iff.1 h).1
  have e : l[j] = x := (List.getElem?_eq_some_iff.1 h).2
  rw [List.take_succ_eq_append_getElem hj, e, List.filter_append, List.filter_cons, List.filter_nil]
theorem set_take_snoc (A : List α) (i : Nat) (x : α) (h : i < A.length) : (A.set i x).take (i + 1) = A.take i ++ [x] := by
  rw [List.take_succ_eq_append_getElem (by simpa using h), List.getElem_set_self, List.take_set_of_le (Nat.le_refl _)]
end
end Go.Esc
