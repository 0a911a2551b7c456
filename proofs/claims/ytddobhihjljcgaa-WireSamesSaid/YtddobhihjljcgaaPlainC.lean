/- What is written is read as it was; what is read is written as it stood; what is cut: in plain terms. -/
import Derived.Test.YtddobhihjljcgaaPlainB
namespace Go.Esc
open Go.RowKit

theorem toNat_b8 (n : Nat) (h : n < 256) : (b8 n).toNat = n := by
  unfold b8; simp; omega
theorem b8_of (c : UInt8) : b8 c.toNat = c := by unfold b8; simp

theorem hiRev_rev {v : Nat} (h : 0 < v) (t : List UInt8) : (hiRev v).reverse ++ t = (hiRev (v / 128)).reverse ++ (b8 (v % 128 + 128) :: t) := by
  rw [hiRev_pos h, List.reverse_cons, List.append_assoc]; rfl

theorem scan_hi (n : Nat) : ∀ v : Nat, v ≤ n → v ≤ 144115188075855871 → ∀ t, scan 0 true ((hiRev v).reverse ++ t) = if v = 0 then scan 0 true t else scan v false t := by
  induction n with
  | zero =>
    intro v h0 _ t
    obtain rfl : v = 0 := by omega
    rw [hiRev_zero, if_pos rfl]; rfl
  | succ n ih =>
    intro v hv hb t
    by_cases h0 : v = 0
    · subst h0; rw [hiRev_zero, if_pos rfl]; rfl
    · rw [if_neg h0, hiRev_rev (by omega), ih (v / 128) (by omega) (by omega)]
      have hc : (b8 (v % 128 + 128)).toNat = v % 128 + 128 := toNat_b8 _ (by omega)
      split
      · rename_i h1
        rw [scan, hc, if_neg (by omega), if_neg (by omega)]
        congr 1; omega
      · rw [scan, hc, if_neg (by simp; omega), if_neg (by omega)]
        congr 1; omega

theorem scan_row (u : Nat) (h : u < 18446744073709551616) (r : List UInt8) : scan 0 true (row u ++ r) = (.inr u, r) := by
  unfold row revRow
  rw [List.reverse_cons, List.append_assoc, scan_hi (u / 128) (u / 128) (by omega) (by omega)]
  have hc : (b8 (u % 128)).toNat = u % 128 := toNat_b8 _ (by omega)
  simp only [List.singleton_append]
  split
  · rw [scan, hc, if_neg (by omega), if_pos (by omega)]
    congr 2; omega
  · rw [scan, hc, if_neg (by simp; omega), if_pos (by omega)]
    congr 2; omega

theorem row_hi (v : Nat) (c : UInt8) (h : c.toNat < 128) : row (v * 128 + c.toNat) = (hiRev v).reverse ++ [c] := by
  unfold row revRow
  rw [List.reverse_cons, show (v * 128 + c.toNat) / 128 = v from by omega, show (v * 128 + c.toNat) % 128 = c.toNat from by omega, b8_of]

theorem scan_canon_hi : ∀ (l : List UInt8) (v : Nat), 0 < v → ∀ u r, scan v false l = (.inr u, r) → (hiRev v).reverse ++ l = row u ++ r
  | [], v, _, u, r, h => by simp [scan] at h
  | c :: l, v, hv, u, r, h => by
    have hc8 : c.toNat < 256 := c.toNat_lt
    unfold scan at h
    split at h
    · simp at h
    · split at h
      · rename_i h2
        simp only [Prod.mk.injEq, Sum.inr.injEq] at h
        obtain ⟨rfl, rfl⟩ := h
        rw [Nat.mod_eq_of_lt h2, row_hi v c h2]
        simp
      · rename_i h2
        have ih := scan_canon_hi l (v * 128 + c.toNat % 128) (by omega) u r h
        rw [← ih, hiRev_rev (v := v * 128 + c.toNat % 128) (by omega), show (v * 128 + c.toNat % 128) / 128 = v from by omega, show (v * 128 + c.toNat % 128) % 128 + 128 = c.toNat from by omega, b8_of]

theorem scan_canon (l : List UInt8) (u : Nat) (r : List UInt8) (h : scan 0 true l = (.inr u, r)) : l = row u ++ r := by
  cases l with
  | nil => simp [scan] at h
  | cons c l =>
    have hc8 : c.toNat < 256 := c.toNat_lt
    unfold scan at h
    split at h
    · simp at h
    · rename_i h1
      have h1' : c.toNat ≠ 128 := fun hh => h1 (.inl ⟨rfl, hh⟩)
      split at h
      · rename_i h2
        simp only [Prod.mk.injEq, Sum.inr.injEq] at h
        obtain ⟨rfl, rfl⟩ := h
        rw [Nat.mod_eq_of_lt h2, row_hi 0 c h2, hiRev_zero]
        simp
      · rename_i h2
        have ih := scan_canon_hi l (0 * 128 + c.toNat % 128) (by omega) u r h
        rw [← ih, hiRev_rev (by omega), show (0 * 128 + c.toNat % 128) / 128 = 0 from by omega, show (0 * 128 + c.toNat % 128) % 128 + 128 = c.toNat from by omega, b8_of, hiRev_zero]
        rfl

theorem scan_cut : ∀ (l t : List UInt8) (u : Nat) (f : Bool) (v : Nat) (r : List UInt8), scan u f (l ++ t) = (.inr v, r) → r.length < t.length → scan u f l = (.inl 8, [])
  | [], t, u, f, v, r, _, _ => by rw [scan]
  | c :: l, t, u, f, v, r, h, hr => by
    rw [List.cons_append] at h
    unfold scan at h ⊢
    split at h
    · simp at h
    · rename_i h1
      rw [if_neg h1]
      split at h
      · simp only [Prod.mk.injEq] at h
        obtain ⟨_, rfl⟩ := h
        simp at hr
        omega
      · rename_i h2
        rw [if_neg h2]
        exact scan_cut l t _ _ v r h hr

theorem scan_keep : ∀ (l t : List UInt8) (u : Nat) (f : Bool) (v : Nat) (r : List UInt8), scan u f (l ++ t) = (.inr v, r) → t.length ≤ r.length → ∃ r', scan u f l = (.inr v, r') ∧ r = r' ++ t
  | [], t, u, f, v, r, h, hr => by
    cases t with
    | nil => simp [scan] at h
    | cons c t =>
      rw [List.nil_append] at h
      have h2 := scan_len t
      unfold scan at h
      split at h
      · simp at h
      · split at h
        · simp only [Prod.mk.injEq] at h
          obtain ⟨_, rfl⟩ := h
          simp at hr
          omega
        · have := h2 (u * 128 + c.toNat % 128) false
          rw [h] at this
          simp at hr this
          omega
  | c :: l, t, u, f, v, r, h, hr => by
    rw [List.cons_append] at h
    unfold scan at h ⊢
    split at h
    · simp at h
    · rename_i h1
      rw [if_neg h1]
      split at h
      · rename_i h2
        simp only [Prod.mk.injEq] at h
        obtain ⟨e, rfl⟩ := h
        rw [if_pos h2, ← e]
        exact ⟨_, rfl, rfl⟩
      · rename_i h2
        rw [if_neg h2]
        exact scan_keep l t _ _ v r h hr

theorem scan_eight : ∀ (l : List UInt8) (u : Nat) (f : Bool) (r : List UInt8), scan u f l = (.inl 8, r) → r = [] ∧ (l ≠ [] → u * 128 ^ (l.length - 1) < 144115188075855872)
  | [], u, f, r, h => by simp [scan] at h; exact ⟨h, fun h => absurd rfl h⟩
  | c :: l, u, f, r, h => by
    unfold scan at h
    split at h
    · simp at h
    · rename_i h1
      split at h
      · simp at h
      · obtain ⟨h3, h4⟩ := scan_eight l _ _ r h
        refine ⟨h3, fun _ => ?_⟩
        have hu : u < 144115188075855872 := by omega
        cases l with
        | nil => simpa using hu
        | cons d l =>
          have h5 := h4 (by simp)
          simp only [List.length_cons, Nat.add_sub_cancel] at h5 ⊢
          rw [Nat.pow_succ, Nat.mul_comm (128 ^ l.length), ← Nat.mul_assoc]
          exact Nat.lt_of_le_of_lt (Nat.mul_le_mul_right _ (by omega)) h5

theorem scan_eight_len (l r : List UInt8) (h : scan 0 true l = (.inl 8, r)) : r = [] ∧ l.length ≤ 10 := by
  refine ⟨(scan_eight l 0 true r h).1, ?_⟩
  cases l with
  | nil => simp
  | cons c l =>
    have hc8 : c.toNat < 256 := c.toNat_lt
    unfold scan at h
    split at h
    · simp at h
    · rename_i h1
      split at h
      · simp at h
      · have h2 := (scan_eight l _ _ r h).2
        cases l with
        | nil => simp
        | cons d l =>
          have h3 := h2 (by simp)
          simp only [List.length_cons, Nat.add_sub_cancel] at h3 ⊢
          have h4 : c.toNat ≠ 128 := fun hh => h1 (.inl ⟨rfl, hh⟩)
          by_cases hl : l.length ≤ 8
          · omega
          · have h5 : 128 ^ 9 ≤ 128 ^ l.length := Nat.pow_le_pow_right (by decide) (by omega)
            have h6 : 1 * 128 ^ l.length ≤ (0 * 128 + c.toNat % 128) * 128 ^ l.length := Nat.mul_le_mul_right _ (by omega)
            omega

theorem zig_enc (n : Int) (h : I64ok n) (r : List UInt8) : scan 0 true (encI n ++ r) = (.inr (zig n), r) := scan_row _ (zig_lt n h.1 h.2) r
theorem encI_sgn (u : Nat) : encI (sgn u) = row u := by unfold encI; rw [zig_sgn]

theorem rInt_enc (n : Int) (h : I64ok n) (r : List UInt8) : rInt ⟨encI n ++ r, 0⟩ = (n, ⟨r, 0⟩) := by
  rw [rInt_ok rfl (zig_enc n h r), sgn_zig]
theorem rLen_enc (n : Nat) (h : n ≤ 65535) (r : List UInt8) : rLen (encI n ++ r) = (.inr n, r) := by
  have hs := sgn_zig (n : Int)
  rw [rLen_ok_of (zig_enc n ⟨by omega, by omega⟩ r) (by omega) (by omega), hs]; rfl
theorem rLen_enc_bad (n : Int) (hn : I64ok n) (h : ¬ (0 ≤ n ∧ n ≤ 65535)) (r : List UInt8) : rLen (encI n ++ r) = (.inl 4, r) :=
  rLen_many_of (zig_enc n hn r) (by rw [sgn_zig]; exact h)
theorem rText_enc (t : List UInt8) (h : t.length ≤ 65535) (r : List UInt8) : rText ⟨encT t ++ r, 0⟩ = (t, ⟨r, 0⟩) := by
  have h1 : rLen (encT t ++ r) = (.inr t.length, t ++ r) := by unfold encT; rw [List.append_assoc]; exact rLen_enc _ h _
  rw [rText_ok rfl h1 (by simp)]; simp
theorem rNums_enc : ∀ (l : List Int) (acc : List Int) (r : List UInt8), (∀ n ∈ l, I64ok n) → rNums l.length acc (l.flatMap encI ++ r) = (.inr (acc ++ l), r)
  | [], acc, r, _ => by simp [rNums]
  | n :: l, acc, r, h => by
    rw [List.length_cons, rNums, List.flatMap_cons, List.append_assoc, zig_enc n (h n (by simp))]
    simp only
    rw [rNums_enc l _ r (fun x hx => h x (by simp [hx])), sgn_zig]
    simp
theorem rInts_enc (l : List Int) (h : l.length ≤ 65535) (hl : ∀ n ∈ l, I64ok n) (r : List UInt8) : rInts ⟨encL l ++ r, 0⟩ = (l, ⟨r, 0⟩) := by
  have h1 : rLen (encL l ++ r) = (.inr l.length, l.flatMap encI ++ r) := by unfold encL; rw [List.append_assoc]; exact rLen_enc _ h _
  rw [rInts_ok rfl h1 (rNums_enc l [] r hl)]; simp
end Go.Esc
