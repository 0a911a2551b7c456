/- Numbers as bytes, in plain terms: of no program. -/
import Derived.Test.YteaijkhiibjopaaGreatBase
namespace Go.Esc

/-- The higher digits of a number, marked, the lowest first. -/
def hiRev (v : Nat) : List UInt8 := if h : v = 0 then [] else b8 (v % 128 + 128) :: hiRev (v / 128)
/-- A number's bytes, the last first. -/
def revRow (u : Nat) : List UInt8 := b8 (u % 128) :: hiRev (u / 128)
def row (u : Nat) : List UInt8 := (revRow u).reverse
/-- A number without a sign. -/
def zig (n : Int) : Nat := if n < 0 then (2 * (-(n + 1)) + 1).toNat else (2 * n).toNat
def encI (n : Int) : List UInt8 := row (zig n)
def encT (s : List UInt8) : List UInt8 := encI s.length ++ s
def encL (l : List Int) : List UInt8 := encI l.length ++ l.flatMap encI

/-- The length and the first k numbers of a list. -/
def encLk (t : List Int) (k : Nat) : List UInt8 := encI t.length ++ (t.take k).flatMap encI
theorem encLk_all (t : List Int) : encLk t t.length = encL t := by unfold encLk encL; rw [List.take_length]
theorem encLk_succ (t : List Int) (k : Nat) (h : k < t.length) : encLk t (k + 1) = encLk t k ++ encI t[k] := by
  unfold encLk
  rw [List.take_succ_eq_append_getElem h, List.flatMap_append, List.append_assoc]
  simp

/-- A number that an int may be. -/
def I64ok (n : Int) : Prop := -9223372036854775808 ≤ n ∧ n ≤ 9223372036854775807

theorem hiRev_zero : hiRev 0 = [] := by rw [hiRev]; rfl
theorem hiRev_pos {v : Nat} (h : 0 < v) : hiRev v = b8 (v % 128 + 128) :: hiRev (v / 128) := by
  rw [hiRev, dif_neg (by omega)]

theorem hiRev_length (k : Nat) : ∀ v : Nat, v < 128 ^ k → (hiRev v).length ≤ k := by
  induction k with
  | zero =>
    intro v h
    have : v = 0 := by simpa using h
    subst this; rw [hiRev_zero]; simp
  | succ k ih =>
    intro v h
    by_cases hv : v = 0
    · subst hv; rw [hiRev_zero]; simp
    · rw [hiRev_pos (by omega), List.length_cons]
      have := ih (v / 128) (by rw [Nat.pow_succ] at h; omega)
      omega

theorem row_length (u : Nat) (h : u < 18446744073709551616) : (row u).length ≤ 10 ∧ 1 ≤ (row u).length := by
  have := hiRev_length 9 (u / 128) (by omega)
  simp [row, revRow]; omega

theorem zig_lt (n : Int) (h1 : -9223372036854775808 ≤ n) (h2 : n ≤ 9223372036854775807) : zig n < 18446744073709551616 := by
  unfold zig; split <;> omega

theorem encI_length (n : Int) (h : I64ok n) : (encI n).length ≤ 10 ∧ 1 ≤ (encI n).length := row_length _ (zig_lt n h.1 h.2)
theorem encLk_length (t : List Int) (h : I64ok t.length) (hok : ∀ n ∈ t, I64ok n) (k : Nat) : (encLk t k).length ≤ 10 + k * 10 := by
  induction k with
  | zero => have := (encI_length _ h).1; simp [encLk]; omega
  | succ k ih =>
    by_cases hk : k < t.length
    · rw [encLk_succ t k hk, List.length_append]
      have := (encI_length t[k] (hok _ (by simp))).1
      omega
    · have : encLk t (k + 1) = encLk t k := by unfold encLk; rw [List.take_of_length_le (by omega), List.take_of_length_le (by omega)]
      rw [this]; omega

theorem or128_fin : ∀ x : Fin 128, bits .or .u8 (x.val : Int) 128 = (x.val : Int) + 128 := by decide +kernel

theorem or128 (x : Int) (h0 : 0 ≤ x) (h1 : x < 128) : bits .or .u8 x 128 = x + 128 := by
  obtain ⟨n, rfl⟩ := Int.eq_ofNat_of_zero_le h0
  exact or128_fin ⟨n, by omega⟩

theorem and127 (x : Int) (h0 : 0 ≤ x) (h1 : x < 256) : bits .and .u8 x 127 = x % 128 := bits_mask .u8 8 (by decide) wraps_u8 7 (by decide) x h0 h1
theorem wraps_u64 (n : Int) (h₀ : 0 ≤ n) (h₁ : n < 2 ^ 64) : IntKind.u64.wrap n = n := by rw [IntKind.wrap_u64]; omega
theorem or1 (x : Int) (h0 : 0 ≤ x) (h1 : x < 18446744073709551616) (h2 : x % 2 = 0) : bits .or .u64 x 1 = x + 1 :=
  bits_join .u64 64 (by decide) wraps_u64 1 x 1 h0 (by simpa using h2) (by simpa using h1) (by decide) (by decide) (by decide)
theorem or7 (x y : Int) (h0 : 0 ≤ x) (h1 : x < 18446744073709551616) (h2 : x % 128 = 0) (h3 : 0 ≤ y) (h4 : y < 128) : bits .or .u64 x y = x + y :=
  bits_join .u64 64 (by decide) wraps_u64 7 x y h0 (by simpa using h2) (by simpa using h1) h3 (by simpa using h4) (by have : y < 128 := h4; simp; omega)

theorem tmod_pos (a n : Int) (h1 : 0 < n) : a % n = if a.tmod n < 0 then a.tmod n + n else a.tmod n := by
  have h := @Int.tmod_eq_emod a n
  have e1 := Int.emod_nonneg a (show n ≠ 0 by omega)
  have e2 := Int.emod_lt_of_pos a h1
  split at h
  · rw [if_neg (by omega)]; omega
  · rename_i hh
    have : a % n ≠ 0 := fun h0 => hh (.inr (Int.dvd_of_emod_eq_zero h0))
    rw [if_pos (by omega)]; omega

theorem xor_ones (x : Nat) (h : x < 18446744073709551616) : bits .xor .u64 IntKind.u64.max (x : Int) = ((18446744073709551615 - x : Nat) : Int) := by
  have h1 : (BitVec.ofInt 64 (x : Int)).toNat = x := by
    rw [BitVec.ofInt_natCast, BitVec.toNat_ofNat]; exact Nat.mod_eq_of_lt (by omega)
  have h2 : BitVec.ofInt 64 (IntKind.u64.max) = BitVec.allOnes 64 := by decide
  show IntKind.u64.wrap ((BitVec.ofInt 64 IntKind.u64.max ^^^ BitVec.ofInt 64 (x : Int)).toNat : Int) = _
  rw [h2, BitVec.allOnes_xor, BitVec.toNat_not, h1, IntKind.wrap_u64]
  omega

/-- The digits of a number from the i-th on, the highest first. -/
def topDigs (u i : Nat) : List UInt8 := (hiRev (u / 2 ^ (7 * i))).reverse
theorem topDigs_step (u i : Nat) (h : 0 < u / 2 ^ (7 * i)) : topDigs u i = topDigs u (i + 1) ++ [b8 (u / 2 ^ (7 * i) % 128 + 128)] := by
  unfold topDigs
  rw [hiRev_pos h, List.reverse_cons]
  congr 3
  rw [Nat.div_div_eq_div_mul, Nat.mul_add, Nat.pow_add]
theorem row_topDigs (u : Nat) : row u = topDigs u 1 ++ [b8 (u % 128)] := by
  unfold row revRow topDigs
  rw [List.reverse_cons]
/-- What stands when j digits are still to be written. -/
def wrote (u j : Nat) : List UInt8 := if j = 0 then row u else topDigs u j
theorem wrote_zero (u : Nat) : wrote u 0 = row u := rfl
theorem wrote_pos (u : Nat) {j : Nat} (h : 0 < j) : wrote u j = topDigs u j := by unfold wrote; rw [if_neg (by omega)]
theorem wrote_one (u : Nat) : wrote u 0 = wrote u 1 ++ [b8 (u % 128)] := by rw [wrote_zero, wrote_pos u (by omega), row_topDigs]
theorem wrote_step (u j : Nat) (hj : 0 < j) (h : 0 < u / 2 ^ (7 * j)) : wrote u j = wrote u (j + 1) ++ [b8 (u / 2 ^ (7 * j) % 128 + 128)] := by
  rw [wrote_pos u hj, wrote_pos u (by omega), topDigs_step u j h]
theorem wrote_len (u j : Nat) (h : u < 18446744073709551616) : (wrote u j).length ≤ 10 := by
  unfold wrote
  split
  · exact (row_length u h).1
  · rename_i hj
    unfold topDigs
    rw [List.length_reverse]
    have h1 : u / 2 ^ (7 * j) ≤ u / 2 ^ (7 * 1) := Nat.div_le_div_left (Nat.pow_le_pow_right (by decide) (by omega)) (by decide)
    have := hiRev_length 9 (u / 2 ^ (7 * j)) (by omega)
    omega
theorem topDigs_zero (u k : Nat) (h : u / 2 ^ (7 * k) = 0) : topDigs u k = [] := by unfold topDigs; rw [h, hiRev_zero]; rfl

/-- Slices of bytes, as a slice of slices holds them. -/
structure Part where
  a : Option Addr
  l : List UInt8
  c : Nat
def Part.v (p : Part) : Value := .slice p.a p.l.length p.c
def flat (L : List Part) : List UInt8 := L.flatMap (·.l)
theorem flat_take_succ (L : List Part) (k : Nat) (h : k < L.length) : flat (L.take (k + 1)) = flat (L.take k) ++ L[k].l := by
  unfold flat
  rw [List.take_succ_eq_append_getElem h, List.flatMap_append]
  simp
theorem flat_take_le (L : List Part) (k : Nat) : (flat (L.take k)).length ≤ (flat L).length := by
  unfold flat
  conv => rhs; rw [← List.take_append_drop k L, List.flatMap_append, List.length_append]
  omega

end Go.Esc
