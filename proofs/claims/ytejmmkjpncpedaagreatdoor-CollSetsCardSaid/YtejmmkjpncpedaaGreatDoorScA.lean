/- Texts of elder kinds, plainly; what a string's decoding skips. -/
import Derived.Test.YtejmmkjpncpedaaGreatDoorMk
import Derived.Test.YtejmmkjpncpedaaGreatDoorPlainA
import Derived.Laws.RangeAny
import Derived.Lib.Strings
namespace Go.Esc

def lowB (b : UInt8) : UInt8 := if 65 ≤ b.toNat ∧ b.toNat ≤ 90 then b + 32 else b
def low (l : List UInt8) : List UInt8 := l.map lowB
theorem lowB_not {b : UInt8} (h : ¬ (65 ≤ b.toNat ∧ b.toNat ≤ 90)) : lowB b = b := if_neg h
theorem lowB_high {b : UInt8} (h : 128 ≤ b.toNat) : lowB b = b := if_neg (by omega)
theorem lowB_great {b : UInt8} (h : 65 ≤ b.toNat ∧ b.toNat ≤ 90) : lowB b = b + 32 ∧ (lowB b).toNat = b.toNat + 32 := by
  have e : lowB b = b + 32 := if_pos h
  refine ⟨e, ?_⟩
  rw [e, UInt8.toNat_add]
  have : (32 : UInt8).toNat = 32 := rfl
  omega
/-- The first p bytes made small. -/
def lo (l : List UInt8) (p : Nat) : List UInt8 := low (l.take p) ++ l.drop p
theorem lo_len (l : List UInt8) (p : Nat) : (lo l p).length = l.length := by
  unfold lo low; simp only [List.length_append, List.length_map, List.length_take, List.length_drop]; omega
theorem lo_zero (l : List UInt8) : lo l 0 = l := by simp [lo, low]
theorem lo_all (l : List UInt8) {p : Nat} (h : l.length ≤ p) : lo l p = low l := by
  unfold lo; rw [List.take_of_length_le h, List.drop_eq_nil_of_le h, List.append_nil]
theorem lo_get (l : List UInt8) {p j : Nat} (h : p ≤ j) (hj : j < l.length) : (lo l p)[j]? = some l[j] := by
  unfold lo low
  rw [List.getElem?_append_right (by simp; omega), List.getElem?_drop, List.length_map, List.length_take, show p + (j - min p l.length) = j by omega]
  simp [hj]
theorem lo_next (l : List UInt8) {p : Nat} (h : p < l.length) : lo l (p + 1) = (lo l p).set p (lowB l[p]) := by
  unfold lo low
  rw [List.take_succ_eq_append_getElem h, List.map_append, List.map_singleton, List.append_assoc, List.set_append_right _ _ (by simp; omega), List.length_map, List.length_take, show p - min p l.length = 0 by omega, List.drop_eq_getElem_cons h]
  rfl
theorem lo_same (l : List UInt8) {p : Nat} (h : p < l.length) (hb : lowB l[p] = l[p]) : lo l (p + 1) = lo l p := by
  rw [lo_next l h, hb]
  apply List.ext_getElem?
  intro i
  by_cases e : p = i
  · subst e
    rw [List.getElem?_set_self (by rw [lo_len]; exact h), lo_get l (Nat.le_refl _) h]
  · rw [List.getElem?_set_ne e]
theorem lo_skip (l : List UInt8) {p : Nat} : ∀ (d : Nat), p + d ≤ l.length → (∀ (j : Nat) (h : j < l.length), p ≤ j → j < p + d → 128 ≤ (l[j]).toNat) → lo l (p + d) = lo l p
  | 0, _, _ => rfl
  | d + 1, hd, h => by
    rw [← Nat.add_assoc, lo_same l (by omega) (lowB_high (h (p + d) (by omega) (by omega) (by omega)))]
    exact lo_skip l d (by omega) (fun j hj h1 h2 => h j hj h1 (by omega))

theorem cont_ok {s : ByteArray} {pos k : Nat} (h : (decide (pos + k < s.size) && (s.get! (pos + k)).toNat / 64 == 2) = true) : pos + k < s.size ∧ 128 ≤ (s.get! (pos + k)).toNat := by
  rw [Bool.and_eq_true, decide_eq_true_iff, beq_iff_eq] at h
  omega
theorem decode_cont (s : ByteArray) (pos : Nat) : 1 ≤ (Utf8.decode s pos).2 ∧ ∀ k, 1 ≤ k → k < (Utf8.decode s pos).2 → pos + k < s.size ∧ 128 ≤ (s.get! (pos + k)).toNat := by
  have one : ∀ (c : Nat), 1 ≤ ((c, 1) : Nat × Nat).2 ∧ ∀ k, 1 ≤ k → k < ((c, 1) : Nat × Nat).2 → pos + k < s.size ∧ 128 ≤ (s.get! (pos + k)).toNat := fun c => ⟨Nat.le_refl _, fun k h1 h2 => by simp only at h2; omega⟩
  simp only [Utf8.decode]
  split
  · exact one _
  · split
    · rename_i h
      rw [Bool.and_eq_true] at h
      split
      · refine ⟨by simp, fun k h1 h2 => ?_⟩
        simp only at h2
        obtain rfl : k = 1 := by omega
        exact cont_ok h.2
      · exact one _
    · split
      · rename_i h
        rw [Bool.and_eq_true, Bool.and_eq_true] at h
        split
        · refine ⟨by simp, fun k h1 h2 => ?_⟩
          simp only at h2
          rcases (show k = 1 ∨ k = 2 by omega) with rfl | rfl
          · exact cont_ok h.1.2
          · exact cont_ok h.2
        · exact one _
      · split
        · rename_i h
          rw [Bool.and_eq_true, Bool.and_eq_true, Bool.and_eq_true] at h
          split
          · refine ⟨by simp, fun k h1 h2 => ?_⟩
            simp only at h2
            rcases (show k = 1 ∨ k = 2 ∨ k = 3 by omega) with rfl | rfl | rfl
            · exact cont_ok h.1.1.2
            · exact cont_ok h.1.2
            · exact cont_ok h.2
          · exact one _
        · exact one _

def trimL (l : List UInt8) : List UInt8 := l.dropWhile (· == 32)
def trimR (l : List UInt8) : List UInt8 := (trimL l.reverse).reverse
def trim (l : List UInt8) : List UInt8 := trimL (trimR l)
theorem trimL_cons (b : UInt8) (l : List UInt8) : trimL (b :: l) = if b = 32 then trimL l else b :: l := by
  unfold trimL; rw [List.dropWhile_cons]; by_cases h : b = 32 <;> simp [h]
theorem trimR_snoc (b : UInt8) (l : List UInt8) : trimR (l ++ [b]) = if b = 32 then trimR l else l ++ [b] := by
  unfold trimR; rw [List.reverse_append, List.reverse_singleton, List.singleton_append, trimL_cons]; split <;> simp
theorem trimL_len (l : List UInt8) : (trimL l).length ≤ l.length := (List.dropWhile_sublist _).length_le
theorem trimR_len (l : List UInt8) : (trimR l).length ≤ l.length := by unfold trimR; have := trimL_len l.reverse; simpa using this
theorem low_len (l : List UInt8) : (low l).length = l.length := by simp [low]

/-- Versions are 1, 2, 3. -/
def isVer (v : Int) : Bool := decide (1 ≤ v ∧ v ≤ 3)
def upErr (a b : Int) : Nat := if ¬ (isVer a = true ∧ isVer b = true) then 1 else if b < a then 13 else 0
def up (l : List UInt8) (a b : Int) : List UInt8 :=
  if upErr a b ≠ 0 then [] else if a = b then l else if a = 1 then (if b = 2 then low l else trim (low l)) else trim l
end Go.Esc
