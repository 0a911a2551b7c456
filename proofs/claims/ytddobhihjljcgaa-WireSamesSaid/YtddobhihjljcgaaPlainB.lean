/- Reading numbers, texts, lists, in plain terms: of no program. -/
import Derived.Test.YtddobhihjljcgaaPlainA
namespace Go.Esc
open Go.RowKit

/-- Base-128 digits, read from the front: an error's number, or the number; what is left. -/
def scan : Nat → Bool → List UInt8 → (Nat ⊕ Nat) × List UInt8
  | _, _, [] => (.inl 8, [])
  | u, first, c :: r =>
    if (first = true ∧ c.toNat = 128) ∨ 144115188075855871 < u then (.inl 10, r)
    else if c.toNat < 128 then (.inr (u * 128 + c.toNat % 128), r)
    else scan (u * 128 + c.toNat % 128) false r

/-- The number of a number without a sign. -/
def sgn (u : Nat) : Int := if u % 2 = 1 then -((u / 2 : Nat) : Int) - 1 else ((u / 2 : Nat) : Int)

theorem scan_lt : ∀ (l : List UInt8) (u : Nat) (f : Bool), u < 18446744073709551616 → ∀ v r, scan u f l = (.inr v, r) → v < 18446744073709551616
  | [], u, f, _, v, r, h => by simp [scan] at h
  | c :: l, u, f, hu, v, r, h => by
    unfold scan at h
    split at h
    · simp at h
    · rename_i h1
      split at h
      · simp only [Prod.mk.injEq, Sum.inr.injEq] at h
        omega
      · exact scan_lt l _ false (by omega) v r h

theorem scan_len : ∀ (l : List UInt8) (u : Nat) (f : Bool), (scan u f l).2.length ≤ l.length
  | [], u, f => by simp [scan]
  | c :: l, u, f => by
    unfold scan
    split
    · simp
    · split
      · simp
      · have := scan_len l (u * 128 + c.toNat % 128) false
        simp; omega

theorem sgn_ok (u : Nat) (h : u < 18446744073709551616) : I64ok (sgn u) := by
  unfold sgn I64ok
  split <;> omega

theorem sgn_odd (v : Nat) (x : Int) (hx : x = (v : Int)) (h : (x % 2 == 1) = true) : sgn v = -(x / 2) - 1 := by
  rw [beq_iff_eq] at h
  subst hx
  unfold sgn
  rw [if_pos (by omega)]
  omega
theorem sgn_even (v : Nat) (x : Int) (hx : x = (v : Int)) (h : (x % 2 == 1) = false) : sgn v = x / 2 := by
  rw [beq_eq_false_iff_ne] at h
  subst hx
  unfold sgn
  rw [if_neg (by omega)]
  omega
theorem sgn_zig (n : Int) : sgn (zig n) = n := by
  unfold sgn zig
  split <;> split <;> omega
theorem zig_sgn (u : Nat) : zig (sgn u) = u := by
  unfold sgn zig
  split <;> split <;> omega
/-- A reader's state: what is left; the error's number (0: none). -/
structure RS where
  l : List UInt8
  e : Int

/-- What a question answers, and the state behind it. -/
def rInt (s : RS) : Int × RS :=
  if s.e ≠ 0 then (0, s) else
  match scan 0 true s.l with
  | (.inr u, r) => (sgn u, ⟨r, 0⟩)
  | (.inl k, r) => (0, ⟨r, k⟩)

/-- A length: an error, or it; what is left. -/
def rLen (l : List UInt8) : (Nat ⊕ Nat) × List UInt8 :=
  match scan 0 true l with
  | (.inl k, r) => (.inl k, r)
  | (.inr u, r) => if 0 ≤ sgn u ∧ sgn u ≤ 65535 then (.inr (sgn u).toNat, r) else (.inl 4, r)

def rText (s : RS) : List UInt8 × RS :=
  if s.e ≠ 0 then ([], s) else
  match rLen s.l with
  | (.inl k, r) => ([], ⟨r, k⟩)
  | (.inr n, r) => if n ≤ r.length then (r.take n, ⟨r.drop n, 0⟩) else ([], ⟨r, 8⟩)

/-- n numbers, one behind the other. -/
def rNums : Nat → List Int → List UInt8 → (Nat ⊕ List Int) × List UInt8
  | 0, acc, l => (.inr acc, l)
  | n + 1, acc, l => match scan 0 true l with
    | (.inl k, r) => (.inl k, r)
    | (.inr u, r) => rNums n (acc ++ [sgn u]) r

def rInts (s : RS) : List Int × RS :=
  if s.e ≠ 0 then ([], s) else
  match rLen s.l with
  | (.inl k, r) => ([], ⟨r, k⟩)
  | (.inr n, r) => match rNums n [] r with
    | (.inl k, r') => ([], ⟨r', k⟩)
    | (.inr ns, r') => (ns, ⟨r', 0⟩)

def rEnd (s : RS) : Int := if s.e = 0 ∧ 0 < s.l.length then 9 else s.e
def rFail (s : RS) (k : Int) : RS := if s.e = 0 then ⟨s.l, k⟩ else s

theorem rInt_ok {s : RS} (h0 : s.e = 0) {u : Nat} {r : List UInt8} (h : scan 0 true s.l = (.inr u, r)) : rInt s = (sgn u, ⟨r, 0⟩) := by simp [rInt, h0, h]
theorem rInt_err {s : RS} (h0 : s.e = 0) {k : Nat} {r : List UInt8} (h : scan 0 true s.l = (.inl k, r)) : rInt s = (0, ⟨r, k⟩) := by simp [rInt, h0, h]
theorem rInt_skip {s : RS} (h0 : s.e ≠ 0) : rInt s = (0, s) := by simp [rInt, h0]
theorem rLen_err_of {l : List UInt8} {k : Nat} {r : List UInt8} (h : scan 0 true l = (.inl k, r)) : rLen l = (.inl k, r) := by simp [rLen, h]
theorem rLen_ok_of {l : List UInt8} {u : Nat} {r : List UInt8} (h : scan 0 true l = (.inr u, r)) (h1 : 0 ≤ sgn u) (h2 : sgn u ≤ 65535) : rLen l = (.inr (sgn u).toNat, r) := by simp [rLen, h, h1, h2]
theorem rLen_many_of {l : List UInt8} {u : Nat} {r : List UInt8} (h : scan 0 true l = (.inr u, r)) (h1 : ¬ (0 ≤ sgn u ∧ sgn u ≤ 65535)) : rLen l = (.inl 4, r) := by unfold rLen; rw [h]; simp only; rw [if_neg h1]
theorem rText_skip {s : RS} (h0 : s.e ≠ 0) : rText s = ([], s) := by simp [rText, h0]
theorem rText_err {s : RS} (h0 : s.e = 0) {k : Nat} {r : List UInt8} (h : rLen s.l = (.inl k, r)) : rText s = ([], ⟨r, k⟩) := by simp [rText, h0, h]
theorem rText_ok {s : RS} (h0 : s.e = 0) {n : Nat} {r : List UInt8} (h : rLen s.l = (.inr n, r)) (hn : n ≤ r.length) : rText s = (r.take n, ⟨r.drop n, 0⟩) := by simp [rText, h0, h, hn]
theorem rText_cut {s : RS} (h0 : s.e = 0) {n : Nat} {r : List UInt8} (h : rLen s.l = (.inr n, r)) (hn : r.length < n) : rText s = ([], ⟨r, 8⟩) := by simp [rText, h0, h]; omega
theorem rInts_skip {s : RS} (h0 : s.e ≠ 0) : rInts s = ([], s) := by simp [rInts, h0]
theorem rInts_err {s : RS} (h0 : s.e = 0) {k : Nat} {r : List UInt8} (h : rLen s.l = (.inl k, r)) : rInts s = ([], ⟨r, k⟩) := by simp [rInts, h0, h]
theorem rInts_bad {s : RS} (h0 : s.e = 0) {n k : Nat} {r r' : List UInt8} (h : rLen s.l = (.inr n, r)) (h2 : rNums n [] r = (.inl k, r')) : rInts s = ([], ⟨r', k⟩) := by simp [rInts, h0, h, h2]
theorem rInts_ok {s : RS} (h0 : s.e = 0) {n : Nat} {r r' : List UInt8} {ns : List Int} (h : rLen s.l = (.inr n, r)) (h2 : rNums n [] r = (.inr ns, r')) : rInts s = (ns, ⟨r', 0⟩) := by simp [rInts, h0, h, h2]

theorem scan_err : ∀ (l : List UInt8) (u : Nat) (f : Bool) (k : Nat) (r : List UInt8), scan u f l = (.inl k, r) → k = 8 ∨ k = 10
  | [], u, f, k, r, h => by simp [scan] at h; omega
  | c :: l, u, f, k, r, h => by
    unfold scan at h
    split at h
    · simp at h; omega
    · split at h
      · simp at h
      · exact scan_err l _ false k r h
theorem rLen_err (l : List UInt8) (k : Nat) (r : List UInt8) (h : rLen l = (.inl k, r)) : k = 4 ∨ k = 8 ∨ k = 10 := by
  unfold rLen at h
  split at h
  · rename_i k' r' hs
    have := scan_err _ _ _ _ _ hs
    simp at h; omega
  · split at h
    · simp at h
    · simp at h; omega
theorem rNums_err : ∀ (n : Nat) (acc : List Int) (l : List UInt8) (k : Nat) (r : List UInt8), rNums n acc l = (.inl k, r) → k = 8 ∨ k = 10
  | 0, acc, l, k, r, h => by simp [rNums] at h
  | n + 1, acc, l, k, r, h => by
    unfold rNums at h
    split at h
    · rename_i k' r' hs
      have := scan_err _ _ _ _ _ hs
      simp at h; omega
    · exact rNums_err n _ _ _ _ h
end Go.Esc
