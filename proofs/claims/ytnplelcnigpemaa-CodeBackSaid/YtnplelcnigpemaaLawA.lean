/- The laws of chapter 1: the example, a number's length, what is written. -/
import Derived.Test.YtnplelcnigpemaaRefA
namespace Go.Proofs.Ytnplelcnigpemaa
open Go.RowKit Go.Esc

theorem enc_m1 : encI (-1) = [b8 1] := by
  unfold encI row revRow zig
  simp [hiRev_zero]
theorem enc_64 : encI 64 = [b8 129, b8 0] := by
  unfold encI row revRow zig
  simp only [show ¬ ((64 : Int) < 0) from by decide, if_false, show (2 * (64 : Int)).toNat = 128 from rfl, show 128 / 128 = 1 from rfl]
  rw [hiRev_pos (by decide)]
  simp [hiRev_zero]

set_option maxHeartbeats 400000 in
theorem known_any (w : World) : Calls Try.prog 12 #[] w fun e w' => e = .returned (.bool true) ∧ Ext no w w' := by
  go_enter Try.func12, Try.ntmps12
  go_wp2_with fail
  refine (int_any w none 0 [] (-1) (Rd.nil _ _) (by simp) ⟨by decide, by decide⟩).mono ?_
  rintro e w1 ⟨a1, c1, rfl, hown1, hext1⟩
  rw [List.nil_append, enc_m1] at hown1 ⊢
  go_wp2_with fail
  refine (int_any w1 none 0 [] 64 (Rd.nil _ _) (by simp) ⟨by decide, by decide⟩).mono ?_
  rintro e w2 ⟨a2, c2, rfl, hown2, hext2⟩
  rw [List.nil_append, enc_64] at hown2 ⊢
  obtain ⟨b1, o1, rfl, _⟩ := hown1.rd.shape (by simp)
  obtain ⟨b2, o2, rfl, _⟩ := hown2.rd.shape (by simp)
  have c10 := hext2.keeps (hown1.rd.lookup 0 (by simp)) (fun h => h)
  have c20 := hown2.rd.lookup 0 (by simp)
  have c21 := hown2.rd.lookup 1 (by simp)
  rw [show (bs [b8 1])[0] = .int .u8 1 from by simp [bs, B8_b8]] at c10
  rw [show (bs [b8 129, b8 0])[0] = .int .u8 129 from by simp [bs, B8_b8]] at c20
  rw [show (bs [b8 129, b8 0])[1] = .int .u8 0 from by simp [bs, B8_b8]] at c21
  rw [Nat.add_zero] at c10 c20
  clear hown1 hown2
  go_wp2_with fail
  go_ret
  exact ⟨rfl, hext1.comp hext2⟩

theorem hiRev_len (k v : Nat) (h1 : 128 ^ k ≤ v) (h2 : v < 128 ^ (k + 1)) : (hiRev v).length = k + 1 := by
  induction k generalizing v with
  | zero =>
    rw [hiRev_pos (by simp at h1; omega), List.length_cons]
    have : v / 128 = 0 := by simp at h2; omega
    rw [this, hiRev_zero]; rfl
  | succ k ih =>
    have hp : 0 < 128 ^ (k + 1) := Nat.pow_pos (by decide)
    rw [hiRev_pos (by omega), List.length_cons, ih (v / 128)]
    · rw [Nat.pow_succ] at h1; omega
    · rw [Nat.pow_succ] at h2; omega

/-- A number of j + 1 bits has as many bytes as it needs. -/
theorem row_bits (u j : Nat) (h1 : 2 ^ j ≤ u) (h2 : u < 2 ^ (j + 1)) : (row u).length = j / 7 + 1 := by
  have hl : (row u).length = (hiRev (u / 128)).length + 1 := by simp [row, revRow]
  by_cases hj : j < 7
  · have : u / 128 = 0 := by
      have : 2 ^ (j + 1) ≤ 2 ^ 7 := Nat.pow_le_pow_right (by decide) (by omega)
      omega
    rw [hl, this, hiRev_zero]
    have : j / 7 = 0 := by omega
    rw [this]; rfl
  · obtain ⟨q, r, hr, rfl⟩ : ∃ q r, r < 7 ∧ j = 7 * (q + 1) + r := ⟨j / 7 - 1, j % 7, by omega, by omega⟩
    have e7 : (128 : Nat) = 2 ^ 7 := rfl
    rw [hl, hiRev_len q]
    · omega
    · rw [Nat.le_div_iff_mul_le (by decide), ← Nat.pow_succ, e7, ← Nat.pow_mul]
      refine Nat.le_trans (Nat.pow_le_pow_right (by decide) (by omega)) h1
    · rw [Nat.div_lt_iff_lt_mul (by decide), ← Nat.pow_succ, e7, ← Nat.pow_mul]
      exact Nat.lt_of_lt_of_le h2 (Nat.pow_le_pow_right (by decide) (by omega))

theorem enc_pow (k : Nat) : (encI (2 ^ k)).length = (k + 2 + 6) / 7 := by
  have hz : zig (2 ^ k) = 2 ^ (k + 1) := by
    unfold zig
    rw [if_neg (by have : (0 : Int) < 2 ^ k := Int.pow_pos (by decide); omega)]
    rw [show (2 : Int) * 2 ^ k = ((2 ^ (k + 1) : Nat) : Int) from by rw [Nat.pow_succ, Nat.mul_comm]; simp]
    exact Int.toNat_natCast _
  unfold encI
  rw [hz, row_bits _ (k + 1) (Nat.le_refl _) (Nat.pow_lt_pow_right (by decide) (by omega))]
  omega

theorem enc_npow (k : Nat) : (encI (0 - 2 ^ k)).length = (k + 1 + 6) / 7 := by
  have hp : 0 < 2 ^ k := Nat.pow_pos (by decide)
  have hz : zig (0 - 2 ^ k) = 2 ^ (k + 1) - 1 := by
    unfold zig
    have e : ((2 : Int) ^ k) = ((2 ^ k : Nat) : Int) := by simp
    rw [e, if_pos (by omega), Nat.pow_succ]
    omega
  unfold encI
  rw [hz, row_bits _ k (by rw [Nat.pow_succ]; omega) (by omega)]
  omega
end Go.Proofs.Ytnplelcnigpemaa
