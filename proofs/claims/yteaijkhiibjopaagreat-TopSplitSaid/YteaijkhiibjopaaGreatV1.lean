/- What the operations of the machine over numbers do, one by one, as the model does: of no program. -/
import Derived.Test.YteaijkhiibjopaaGreatV0
set_option linter.all false
namespace Go.Vm
open Go
theorem lor_mod {a b n : Nat} (h : (Nat.lor a b) % 2 ^ n = 0) : a % 2 ^ n = 0 ∧ b % 2 ^ n = 0 := by
 have e : (a ||| b) % 2 ^ n = (a % 2 ^ n) ||| (b % 2 ^ n) := Nat.or_mod_two_pow
 have h' : (a % 2 ^ n) ||| (b % 2 ^ n) = 0 := e ▸ h
 exact Nat.or_eq_zero_iff.1 h'
theorem xor_mod {a t n : Nat} (h : (Nat.xor a t) % 2 ^ n = 0) : a % 2 ^ n = t % 2 ^ n := by
 have e : (a ^^^ t) % 2 ^ n = (a % 2 ^ n) ^^^ (t % 2 ^ n) := Nat.xor_mod_two_pow
 have h' : (a % 2 ^ n) ^^^ (t % 2 ^ n) = 0 := e ▸ h
 have e2 : (a % 2 ^ n ^^^ t % 2 ^ n) ^^^ (t % 2 ^ n) = 0 ^^^ (t % 2 ^ n) := by rw [h']
 rwa [Nat.xor_assoc, Nat.xor_self, Nat.xor_zero, Nat.zero_xor] at e2
theorem nn_iff {t x : Nat} : nn t x = true ↔ x % 32 = t := by unfold nn; rw [beq_iff, land_5]
theorem nn2_of {t x y : Nat} (ht : t < 32) (h : nn2 t x y = true) : x % 32 = t ∧ y % 32 = t := by
 unfold nn2 at h
 rw [beq_iff, land_5] at h
 obtain ⟨h1, h2⟩ := lor_mod (n := 5) h
 have h3 := xor_mod h1
 have h4 := xor_mod h2
 have e : (2 : Nat) ^ 5 = 32 := rfl
 rw [e, Nat.mod_eq_of_lt ht] at h3 h4
 exact ⟨h3, h4⟩
theorem is2_of {t x y : Nat} (ht : t < 16) (h : is2 t x y = true) : x % 16 = t ∧ y % 16 = t := by
 unfold is2 at h
 rw [beq_iff, land_4] at h
 obtain ⟨h1, h2⟩ := lor_mod (n := 4) h
 have h3 := xor_mod h1
 have h4 := xor_mod h2
 have e : (2 : Nat) ^ 4 = 16 := rfl
 rw [e, Nat.mod_eq_of_lt ht] at h3 h4
 exact ⟨h3, h4⟩
theorem arm {c : Bool} {a b z : Nat} (h : (Bool.rec (motive := fun _ => Nat) a b c) = z) : (c = false ∧ a = z) ∨ (c = true ∧ b = z) := by
 cases c
 ·exact .inl ⟨rfl, h⟩
 ·exact .inr ⟨rfl, h⟩
theorem arm0 {c : Bool} {b z : Nat} (h : (Bool.rec (motive := fun _ => Nat) 0 b c) = z) (h0 : z ≠ 0) : c = true ∧ b = z := by
 rcases arm h with ⟨_, h1⟩ | h1
 ·exact absurd h1.symm h0
 ·exact h1
theorem ltb_iff {x y : Nat} : ltb x y = true ↔ x < y := by
 unfold ltb
 constructor
 ·intro h; exact Nat.le_of_ble_eq_true h
 ·intro h; exact Nat.ble_eq_true_of_le h
theorem ble_iff {x y : Nat} : Nat.ble x y = true ↔ x ≤ y := ⟨Nat.le_of_ble_eq_true, Nat.ble_eq_true_of_le⟩
def Gives (P : Program) (w : World) (G : Gh) (s : Sem Value) (c : Nat) : Prop := ∃ u, s.run P w = .ok u w ∧ BRel G c u ∧ c < 2 ^ 128
theorem gives_int {P : Program} {w : World} {G : Gh} {s : Sem Value} {k : IntKind} {n : Int} {c : Nat} (hf : fits k n) (hc : c = cInt k n) (h : s.run P w = .ok (.int k n) w) : Gives P w G s c := by
 subst hc
 exact ⟨_, h, .one _ _ (.int k n hf) (cInt_lt hf), cInt_lt hf⟩
theorem gives_bool {P : Program} {w : World} {G : Gh} {s : Sem Value} {b : Bool} {c : Nat} (hc : c = sel b 17 1) (h : s.run P w = .ok (.bool b) w) : Gives P w G s c := by
 subst hc
 have hl : sel b 17 1 < 2 ^ 128 := by cases b <;> decide
 refine ⟨_, h, .one _ _ ?_ hl, hl⟩
 cases b
 ·exact VRel.bool false
 ·exact VRel.bool true
theorem wrap_fits {k : IntKind} {n : Int} (h : fits k n) : k.wrap n = n := by
 obtain ⟨h1, h2, h3⟩ := h
 cases k <;> simp only [kTag] at h1 <;> first | exact absurd rfl h1 | skip
 all_goals
  simp only [IntKind.min, IntKind.max, IntKind.signed, IntKind.bits] at h2 h3
  simp at h2 h3
  simp only [IntKind.wrap, IntKind.signed, IntKind.bits, Bool.true_and, Bool.false_and, decide_eq_true_eq]
  simp
  try omega
theorem wrap_u {k : IntKind} (hk : kTag k ≠ 0) (hk' : k ≠ .i64) (n : Nat) : k.wrap (n : Int) = ((n % kMod k : Nat) : Int) := by
 cases k <;> simp only [kTag] at hk <;> first | exact absurd rfl hk | exact absurd rfl hk' | skip
 all_goals
  simp only [IntKind.wrap, IntKind.signed, IntKind.bits, kMod, Bool.false_and]
  simp
theorem kMod_pos {k : IntKind} (hk : kTag k ≠ 0) : 0 < kMod k := by
 cases k <;> simp only [kTag] at hk <;> first | exact absurd rfl hk | decide
theorem kTag_le (k : IntKind) : kTag k ≤ 5 := by cases k <;> decide
theorem cInt_nat (k : IntKind) (n : Nat) : cInt k (n : Int) = kTag k + 32 * n := rfl
theorem down_eq {m c : Nat} (h : down m = c) (h0 : c ≠ 0) : ∃ n : Int, (m : Int) = 18446744073709551616 + n ∧ c = cInt .i64 n ∧ -9223372036854775808 ≤ n ∧ n ≤ 9223372036854775807 := by
 have e : down m = Bool.rec (motive := fun _ => Nat) 0 (Bool.rec (motive := fun _ => Nat) 0
  (Bool.rec (motive := fun _ => Nat) (Nat.add 18 (Nat.mul 32 (Nat.sub 18446744073709551615 m))) (mkN 2 (Nat.sub m 18446744073709551616)) (Nat.ble 18446744073709551616 m))
  (Nat.ble m 27670116110564327423)) (Nat.ble 9223372036854775808 m) := rfl
 rw [e] at h
 obtain ⟨h1, h⟩ := arm0 h h0
 obtain ⟨h2, h⟩ := arm0 h h0
 rw [ble_iff] at h1 h2
 rcases arm h with ⟨h3, h⟩ | ⟨h3, h⟩
 ·have h3' : m < 18446744073709551616 := ble_false h3
  refine ⟨Int.negSucc (18446744073709551615 - m), by omega, ?_, by omega, by omega⟩
  rw [← h]
  show 18 + 32 * (18446744073709551615 - m) = 2 + 16 + 32 * (18446744073709551615 - m)
  omega
 ·rw [ble_iff] at h3
  refine ⟨((m - 18446744073709551616 : Nat) : Int), by omega, ?_, by omega, by omega⟩
  rw [← h]; rfl
theorem fit_eq {z c : Nat} (h : fit z = c) (h0 : c ≠ 0) : z ≤ 295147905179352825855 ∧ z = c := by
 obtain ⟨h1, h2⟩ := arm0 (show Bool.rec (motive := fun _ => Nat) 0 z (Nat.ble z 295147905179352825855) = c from h) h0
 exact ⟨ble_iff.1 h1, h2⟩
theorem two_i {c : Nat} {n : Int} (h : c = cInt .i64 n) (ht : c % 32 = 2) : ∃ m : Nat, n = m ∧ c = 2 + 32 * m := by
 cases n with
 | ofNat m => exact ⟨m, rfl, h⟩
 | negSucc m => have : cInt .i64 (Int.negSucc m) = 2 + 16 + 32 * m := rfl; rw [this] at h; omega
theorem addI_eq {x y c : Nat} {n m : Int} (hx : x = cInt .i64 n) (hy : y = cInt .i64 m) (hn : -9223372036854775808 ≤ n ∧ n ≤ 9223372036854775807) (hm : -9223372036854775808 ≤ m ∧ m ≤ 9223372036854775807)
  (h : addI x y = c) (h0 : c ≠ 0) : c = cInt .i64 (n + m) ∧ fits .i64 (n + m) := by
 have e : addI x y = Bool.rec (motive := fun _ => Nat) (Bool.rec (motive := fun _ => Nat) 0 (down (Nat.sub (Nat.add (up x) (up y)) 18446744073709551616)) (is2 2 x y)) (fit (Nat.sub (Nat.add x y) 2)) (nn2 2 x y) := rfl
 rw [e] at h
 rcases arm h with ⟨_, h⟩ | ⟨h1, h⟩
 ·obtain ⟨_, h⟩ := arm0 h h0
  obtain ⟨k, h2, h3, h4, h5⟩ := down_eq h h0
  have h6 := up_eq hn.1 hn.2
  have h7 := up_eq hm.1 hm.2
  rw [← hx] at h6
  rw [← hy] at h7
  have : ((Nat.sub (Nat.add (up x) (up y)) 18446744073709551616 : Nat) : Int) = 18446744073709551616 + (n + m) := by
   show ((up x + up y - 18446744073709551616 : Nat) : Int) = _
   omega
  have hk : k = n + m := by omega
  subst hk
  exact ⟨h3, fits_i h4 h5⟩
 ·obtain ⟨h2, h3⟩ := nn2_of (by decide) h1
  obtain ⟨a, rfl, ha⟩ := two_i hx h2
  obtain ⟨b, rfl, hb⟩ := two_i hy h3
  obtain ⟨h4, h5⟩ := fit_eq h h0
  have h6 : x + y - 2 = c := h5
  have h4' : x + y - 2 ≤ 295147905179352825855 := h4
  refine ⟨?_, fits_i (by omega) (by omega)⟩
  rw [← h6, ha, hb]
  show 2 + 32 * a + (2 + 32 * b) - 2 = 2 + 32 * (a + b)
  omega
theorem subI_eq {x y c : Nat} {n m : Int} (hx : x = cInt .i64 n) (hy : y = cInt .i64 m) (hn : -9223372036854775808 ≤ n ∧ n ≤ 9223372036854775807) (hm : -9223372036854775808 ≤ m ∧ m ≤ 9223372036854775807)
  (h : subI x y = c) (h0 : c ≠ 0) : c = cInt .i64 (n - m) ∧ fits .i64 (n - m) := by
 have e : subI x y = Bool.rec (motive := fun _ => Nat) 0 (Bool.rec (motive := fun _ => Nat) (down (Nat.sub (Nat.add (up x) 18446744073709551616) (up y))) (Nat.add (Nat.sub x y) 2) (Bool.rec false (Nat.ble y x) (nn2 2 x y))) (is2 2 x y) := rfl
 rw [e] at h
 obtain ⟨_, h⟩ := arm0 h h0
 rcases arm h with ⟨_, h⟩ | ⟨h1, h⟩
 ·obtain ⟨k, h2, h3, h4, h5⟩ := down_eq h h0
  have h6 := up_eq hn.1 hn.2
  have h7 := up_eq hm.1 hm.2
  rw [← hx] at h6
  rw [← hy] at h7
  have : ((Nat.sub (Nat.add (up x) 18446744073709551616) (up y) : Nat) : Int) = 18446744073709551616 + (n - m) := by
   show ((up x + 18446744073709551616 - up y : Nat) : Int) = _
   omega
  have hk : k = n - m := by omega
  subst hk
  exact ⟨h3, fits_i h4 h5⟩
 ·obtain ⟨h1, h1'⟩ := and_of' h1
  obtain ⟨h2, h3⟩ := nn2_of (by decide) h1'
  obtain ⟨a, rfl, ha⟩ := two_i hx h2
  obtain ⟨b, rfl, hb⟩ := two_i hy h3
  rw [ble_iff] at h1
  have h6 : x - y + 2 = c := h
  refine ⟨?_, fits_i (by omega) (by omega)⟩
  rw [← h6, ha, hb]
  have : ((a : Int) - (b : Int)) = ((a - b : Nat) : Int) := by omega
  rw [this, cInt_nat]
  show 2 + 32 * a - (2 + 32 * b) + 2 = 2 + 32 * (a - b)
  omega
theorem mulI_eq {x y c : Nat} {n m : Int} (hx : x = cInt .i64 n) (hy : y = cInt .i64 m) (h : mulI x y = c) (h0 : c ≠ 0) : c = cInt .i64 (n * m) ∧ fits .i64 (n * m) := by
 have e : mulI x y = Bool.rec (motive := fun _ => Nat) 0 (fit (mkN 2 (Nat.mul (va x) (va y)))) (nn2 2 x y) := rfl
 rw [e] at h
 obtain ⟨h1, h⟩ := arm0 h h0
 obtain ⟨h2, h3⟩ := nn2_of (by decide) h1
 obtain ⟨a, rfl, ha⟩ := two_i hx h2
 obtain ⟨b, rfl, hb⟩ := two_i hy h3
 obtain ⟨h4, h5⟩ := fit_eq h h0
 have hva : va x = a := by rw [va_eq]; omega
 have hvb : va y = b := by rw [va_eq]; omega
 rw [hva, hvb] at h4 h5
 have h4' : 2 + 32 * (a * b) ≤ 295147905179352825855 := h4
 have h5' : 2 + 32 * (a * b) = c := h5
 have hcast : (a : Int) * (b : Int) = ((a * b : Nat) : Int) := by rw [Int.natCast_mul]
 rw [hcast]
 generalize a * b = ab at h4' h5' hcast
 exact ⟨by rw [← h5']; rfl, fits_i (by omega) (by omega)⟩
theorem quoI_eq {x y c : Nat} {n m : Int} (hx : x = cInt .i64 n) (hy : y = cInt .i64 m) (hn : n ≤ 9223372036854775807) (h : quoI x y = c) (h0 : c ≠ 0) : m ≠ 0 ∧ c = cInt .i64 (n.tdiv m) ∧ fits .i64 (n.tdiv m) := by
 have e : quoI x y = Bool.rec (motive := fun _ => Nat) 0 (Bool.rec (motive := fun _ => Nat) (mkN 2 (Nat.div (va x) (va y))) 0 (Nat.beq (va y) 0)) (nn2 2 x y) := rfl
 rw [e] at h
 obtain ⟨h1, h⟩ := arm0 h h0
 obtain ⟨h2, h3⟩ := nn2_of (by decide) h1
 obtain ⟨a, rfl, ha⟩ := two_i hx h2
 obtain ⟨b, rfl, hb⟩ := two_i hy h3
 have hva : va x = a := by rw [va_eq]; omega
 have hvb : va y = b := by rw [va_eq]; omega
 rw [hva, hvb] at h
 rcases arm h with ⟨h4, h⟩ | ⟨_, h⟩
 ·have hb0 : b ≠ 0 := fun hb => by rw [hb] at h4; cases h4
  have e2 : (a : Int).tdiv (b : Int) = ((a / b : Nat) : Int) := by
   rw [Int.tdiv_eq_ediv_of_nonneg (by omega)]; rfl
  have hle := Nat.div_le_self a b
  refine ⟨by omega, ?_, ?_⟩
  ·rw [e2, ← h]; rfl
  ·rw [e2]
   generalize a / b = q at hle
   exact fits_i (by omega) (by omega)
 ·exact absurd h.symm h0
theorem remI_eq {x y c : Nat} {n m : Int} (hx : x = cInt .i64 n) (hy : y = cInt .i64 m) (hn : n ≤ 9223372036854775807) (h : remI x y = c) (h0 : c ≠ 0) : m ≠ 0 ∧ c = cInt .i64 (n.tmod m) ∧ fits .i64 (n.tmod m) := by
 have e : remI x y = Bool.rec (motive := fun _ => Nat) 0 (Bool.rec (motive := fun _ => Nat) (mkN 2 (Nat.mod (va x) (va y))) 0 (Nat.beq (va y) 0)) (nn2 2 x y) := rfl
 rw [e] at h
 obtain ⟨h1, h⟩ := arm0 h h0
 obtain ⟨h2, h3⟩ := nn2_of (by decide) h1
 obtain ⟨a, rfl, ha⟩ := two_i hx h2
 obtain ⟨b, rfl, hb⟩ := two_i hy h3
 have hva : va x = a := by rw [va_eq]; omega
 have hvb : va y = b := by rw [va_eq]; omega
 rw [hva, hvb] at h
 rcases arm h with ⟨h4, h⟩ | ⟨_, h⟩
 ·have hb0 : b ≠ 0 := fun hb => by rw [hb] at h4; cases h4
  have e2 : (a : Int).tmod (b : Int) = ((a % b : Nat) : Int) := by
   rw [Int.tmod_eq_emod_of_nonneg (by omega)]; rfl
  have := Nat.mod_le a b
  refine ⟨by omega, ?_, ?_⟩
  ·rw [e2, ← h]; rfl
  ·rw [e2]; exact fits_i (by omega) (by omega)
 ·exact absurd h.symm h0
theorem leb_eq {x y : Nat} {n m : Int} (hx : x = cInt .i64 n) (hy : y = cInt .i64 m) (hn : -9223372036854775808 ≤ n ∧ n ≤ 9223372036854775807) (hm : -9223372036854775808 ≤ m ∧ m ≤ 9223372036854775807) : leb x y = decide (n ≤ m) := by
 have e : leb x y = Bool.rec (motive := fun _ => Bool) (Nat.ble (up x) (up y)) (Nat.ble x y) (nn2 2 x y) := rfl
 have hb : ∀ p q : Nat, Nat.ble p q = decide (p ≤ q) := fun p q => by
  cases h : Nat.ble p q with
  | true => simp [ble_iff.1 h]
  | false => have := ble_false h; simp; omega
 rw [e]
 cases h : nn2 2 x y with
 | false =>
  have h6 := up_eq hn.1 hn.2
  have h7 := up_eq hm.1 hm.2
  rw [← hx] at h6
  rw [← hy] at h7
  dsimp only
  rw [hb]
  apply decide_eq_decide.2
  omega
 | true =>
  obtain ⟨h2, h3⟩ := nn2_of (by decide) h
  obtain ⟨a, rfl, ha⟩ := two_i hx h2
  obtain ⟨b, rfl, hb'⟩ := two_i hy h3
  dsimp only
  rw [hb]
  apply decide_eq_decide.2
  omega
theorem nbo_eq (b : Bool) : nbo b = sel (!b) 17 1 := by cases b <;> rfl
theorem bo_eq (b : Bool) : bo b = sel b 17 1 := by cases b <;> rfl
theorem cInt_inj {n m : Int} (h : cInt .i64 n = cInt .i64 m) : n = m := by
 cases n with
 | ofNat n => cases m with
  | ofNat m => have h' : 2 + 32 * n = 2 + 32 * m := h; have : n = m := by omega
               rw [this]
  | negSucc m => have : 2 + 32 * n = 2 + 16 + 32 * m := h; omega
 | negSucc n => cases m with
  | ofNat m => have : 2 + 16 + 32 * n = 2 + 32 * m := h; omega
  | negSucc m => have h' : 2 + 16 + 32 * n = 2 + 16 + 32 * m := h; have : n = m := by omega
                 rw [this]
end Go.Vm
namespace Go.Vm
open Go
theorem arm_n {c : Bool} {b z : Nat} (h : (Bool.rec (motive := fun _ => Nat) b 0 c) = z) (h0 : z ≠ 0) : c = false ∧ b = z := by
 rcases arm h with h1 | ⟨_, h1⟩
 ·exact h1
 ·exact absurd h1.symm h0
theorem eqI_code {x y : Nat} {n m : Int} (hx : x = cInt .i64 n) (hy : y = cInt .i64 m) : Nat.beq x y = (n == m) := by
 by_cases h : n = m
 ·subst h; rw [hx, hy, Nat.beq_refl]; simp
 ·rw [beq_ne (fun e => h (cInt_inj (by rw [← hx, ← hy, e])))]
  simp [h]
theorem dec_lt (a b : Int) : (!decide (a ≤ b)) = decide (b < a) := by
 by_cases h : a ≤ b
 ·rw [decide_eq_true h, decide_eq_false (by omega : ¬ b < a)]; rfl
 ·rw [decide_eq_false h, decide_eq_true (by omega : b < a)]; rfl
theorem is2_comm (t x y : Nat) : is2 t x y = is2 t y x := by
 unfold is2
 have : Nat.lor (Nat.xor x t) (Nat.xor y t) = Nat.lor (Nat.xor y t) (Nat.xor x t) := Nat.or_comm _ _
 rw [this]
theorem nn2_comm (t x y : Nat) : nn2 t x y = nn2 t y x := by
 unfold nn2
 have : Nat.lor (Nat.xor x t) (Nat.xor y t) = Nat.lor (Nat.xor y t) (Nat.xor x t) := Nat.or_comm _ _
 rw [this]
section
variable (X : GX) (P : Program) {w : World} {G : Gh}
def binRun (op : BinOp) (t : TypeId) (xo yo : Operand) (u v : Value) : Sem Value := do eqGuard op t xo yo u v; Go.binOp op t u v
def BinOk (op : BinOp) (t : TypeId) (xo yo : Operand) (u v : Value) (act : Act) : Prop :=
 act = .bad ∨ ∃ c, act = pure1 c 128 ∧ (c ≠ 0 → Gives P w G (binRun op t xo yo u v) c)
theorem dBin_i64 (op : BinOp) {t : TypeId} (hu : und X.ty t = .int .i64) (xo yo : Operand) {x y : Nat} {u v : Value} (hx : BRel G x u) (hy : BRel G y v) (hbx : x < 2 ^ 128) (hby : y < 2 ^ 128) :
  BinOk P (w := w) (G := G) op t xo yo u v (dBin X op t x y) := by
 have both : ∀ {c : Nat}, is2 2 x y = true → ∃ n m : Int, u = .int .i64 n ∧ v = .int .i64 m ∧ x = cInt .i64 n ∧ y = cInt .i64 m ∧ (-9223372036854775808 ≤ n ∧ n ≤ 9223372036854775807) ∧ (-9223372036854775808 ≤ m ∧ m ≤ 9223372036854775807) := by
  intro c h
  obtain ⟨h1, h2⟩ := is2_of (by decide) h
  obtain ⟨n, h3, h4, h5⟩ := brel_i hx hbx h1
  obtain ⟨m, h6, h7, h8⟩ := brel_i hy hby h2
  exact ⟨n, m, h3, h6, h4, h7, h5, h8⟩
 have both' : nn2 2 x y = true → is2 2 x y = true := by
  intro h
  have h' := h
  unfold nn2 at h
  rw [beq_iff, land_5] at h
  unfold is2
  rw [beq_iff, land_4]
  generalize Nat.lor (Nat.xor x 2) (Nat.xor y 2) = z at h ⊢
  have h1 : z % 32 = 0 := h
  show z % 16 = 0
  omega
 have e : ∀ act, dBin X op t x y = act → BinOk P (w := w) (G := G) op t xo yo u v act → BinOk P (w := w) (G := G) op t xo yo u v (dBin X op t x y) := fun act h1 h2 => h1 ▸ h2
 cases op
 case add =>
  refine e (pure1 (addI x y) 128) (by unfold dBin; rw [hu]; rfl) (.inr ⟨_, rfl, fun h0 => ?_⟩)
  have hi : is2 2 x y = true := by
   cases h2 : nn2 2 x y with
   | true => exact both' h2
   | false =>
    have e2 : addI x y = Bool.rec (motive := fun _ => Nat) (Bool.rec (motive := fun _ => Nat) 0 (down (Nat.sub (Nat.add (up x) (up y)) 18446744073709551616)) (is2 2 x y)) (fit (Nat.sub (Nat.add x y) 2)) (nn2 2 x y) := rfl
    rw [h2] at e2
    exact (arm0 e2.symm h0).1
  obtain ⟨n, m, rfl, rfl, h3, h4, h5, h6⟩ := both (c := 0) hi
  obtain ⟨h7, h8⟩ := addI_eq h3 h4 h5 h6 rfl h0
  exact gives_int h8 h7 (by simp [binRun, eqGuard, Go.binOp, Op.intArith, wrap_fits h8])
 case sub =>
  refine e (pure1 (subI x y) 128) (by unfold dBin; rw [hu]; rfl) (.inr ⟨_, rfl, fun h0 => ?_⟩)
  have e2 : subI x y = Bool.rec (motive := fun _ => Nat) 0 (Bool.rec (motive := fun _ => Nat) (down (Nat.sub (Nat.add (up x) 18446744073709551616) (up y))) (Nat.add (Nat.sub x y) 2) (Bool.rec false (Nat.ble y x) (nn2 2 x y))) (is2 2 x y) := rfl
  obtain ⟨n, m, rfl, rfl, h3, h4, h5, h6⟩ := both (c := 0) (arm0 e2.symm h0).1
  obtain ⟨h7, h8⟩ := subI_eq h3 h4 h5 h6 rfl h0
  exact gives_int h8 h7 (by simp [binRun, eqGuard, Go.binOp, Op.intArith, wrap_fits h8])
 case mul =>
  refine e (pure1 (mulI x y) 128) (by unfold dBin; rw [hu]; rfl) (.inr ⟨_, rfl, fun h0 => ?_⟩)
  have e2 : mulI x y = Bool.rec (motive := fun _ => Nat) 0 (fit (mkN 2 (Nat.mul (va x) (va y)))) (nn2 2 x y) := rfl
  obtain ⟨n, m, rfl, rfl, h3, h4, h5, h6⟩ := both (c := 0) (both' (arm0 e2.symm h0).1)
  obtain ⟨h7, h8⟩ := mulI_eq h3 h4 rfl h0
  exact gives_int h8 h7 (by simp [binRun, eqGuard, Go.binOp, Op.intArith, wrap_fits h8])
 case quo =>
  refine e (pure1 (quoI x y) 128) (by unfold dBin; rw [hu]; rfl) (.inr ⟨_, rfl, fun h0 => ?_⟩)
  have e2 : quoI x y = Bool.rec (motive := fun _ => Nat) 0 (Bool.rec (motive := fun _ => Nat) (mkN 2 (Nat.div (va x) (va y))) 0 (Nat.beq (va y) 0)) (nn2 2 x y) := rfl
  obtain ⟨n, m, rfl, rfl, h3, h4, h5, h6⟩ := both (c := 0) (both' (arm0 e2.symm h0).1)
  obtain ⟨h9, h7, h8⟩ := quoI_eq h3 h4 h5.2 rfl h0
  exact gives_int h8 h7 (by simp [binRun, eqGuard, Go.binOp, Op.intDiv, h9, wrap_fits h8])
 case rem =>
  refine e (pure1 (remI x y) 128) (by unfold dBin; rw [hu]; rfl) (.inr ⟨_, rfl, fun h0 => ?_⟩)
  have e2 : remI x y = Bool.rec (motive := fun _ => Nat) 0 (Bool.rec (motive := fun _ => Nat) (mkN 2 (Nat.mod (va x) (va y))) 0 (Nat.beq (va y) 0)) (nn2 2 x y) := rfl
  obtain ⟨n, m, rfl, rfl, h3, h4, h5, h6⟩ := both (c := 0) (both' (arm0 e2.symm h0).1)
  obtain ⟨h9, h7, h8⟩ := remI_eq h3 h4 h5.2 rfl h0
  exact gives_int h8 h7 (by simp [binRun, eqGuard, Go.binOp, Op.intDiv, h9])
 case lss =>
  refine e (pure1 (ltI x y) 128) (by unfold dBin; rw [hu]; rfl) (.inr ⟨_, rfl, fun h0 => ?_⟩)
  obtain ⟨h1, h2⟩ := arm0 (show Bool.rec (motive := fun _ => Nat) 0 (nbo (leb y x)) (is2 2 x y) = ltI x y from rfl) h0
  obtain ⟨n, m, rfl, rfl, h3, h4, h5, h6⟩ := both (c := 0) h1
  rw [← h2, leb_eq h4 h3 h6 h5, nbo_eq, dec_lt]
  exact gives_bool rfl (by simp [binRun, eqGuard, Go.binOp, Op.intCmp])
 case leq =>
  refine e (pure1 (leI x y) 128) (by unfold dBin; rw [hu]; rfl) (.inr ⟨_, rfl, fun h0 => ?_⟩)
  obtain ⟨h1, h2⟩ := arm0 (show Bool.rec (motive := fun _ => Nat) 0 (bo (leb x y)) (is2 2 x y) = leI x y from rfl) h0
  obtain ⟨n, m, rfl, rfl, h3, h4, h5, h6⟩ := both (c := 0) h1
  rw [← h2, leb_eq h3 h4 h5 h6, bo_eq]
  exact gives_bool rfl (by simp [binRun, eqGuard, Go.binOp, Op.intCmp])
 case gtr =>
  refine e (pure1 (ltI y x) 128) (by unfold dBin; rw [hu]; rfl) (.inr ⟨_, rfl, fun h0 => ?_⟩)
  obtain ⟨h1, h2⟩ := arm0 (show Bool.rec (motive := fun _ => Nat) 0 (nbo (leb x y)) (is2 2 y x) = ltI y x from rfl) h0
  have h1' : is2 2 x y = true := by rw [is2_comm]; exact h1
  obtain ⟨n, m, rfl, rfl, h3, h4, h5, h6⟩ := both (c := 0) h1'
  rw [← h2, leb_eq h3 h4 h5 h6, nbo_eq, dec_lt]
  exact gives_bool rfl (by simp [binRun, eqGuard, Go.binOp, Op.intCmp])
 case geq =>
  refine e (pure1 (leI y x) 128) (by unfold dBin; rw [hu]; rfl) (.inr ⟨_, rfl, fun h0 => ?_⟩)
  obtain ⟨h1, h2⟩ := arm0 (show Bool.rec (motive := fun _ => Nat) 0 (bo (leb y x)) (is2 2 y x) = leI y x from rfl) h0
  have h1' : is2 2 x y = true := by rw [is2_comm]; exact h1
  obtain ⟨n, m, rfl, rfl, h3, h4, h5, h6⟩ := both (c := 0) h1'
  rw [← h2, leb_eq h4 h3 h6 h5, bo_eq]
  exact gives_bool rfl (by simp [binRun, eqGuard, Go.binOp, Op.intCmp])
 case eql =>
  refine e (pure1 (eqN 2 x y) 128) (by unfold dBin; rw [hu]; rfl) (.inr ⟨_, rfl, fun h0 => ?_⟩)
  obtain ⟨h1, h2⟩ := arm0 (show Bool.rec (motive := fun _ => Nat) 0 (bo (Nat.beq x y)) (is2 2 x y) = eqN 2 x y from rfl) h0
  obtain ⟨n, m, rfl, rfl, h3, h4, h5, h6⟩ := both (c := 0) h1
  rw [← h2, eqI_code h3 h4, bo_eq]
  exact gives_bool rfl (by simp [binRun, eqGuard, Go.binOp, Op.intCmp])
 case neq =>
  refine e (pure1 (neN 2 x y) 128) (by unfold dBin; rw [hu]; rfl) (.inr ⟨_, rfl, fun h0 => ?_⟩)
  obtain ⟨h1, h2⟩ := arm0 (show Bool.rec (motive := fun _ => Nat) 0 (nbo (Nat.beq x y)) (is2 2 x y) = neN 2 x y from rfl) h0
  obtain ⟨n, m, rfl, rfl, h3, h4, h5, h6⟩ := both (c := 0) h1
  rw [← h2, eqI_code h3 h4, nbo_eq]
  exact gives_bool rfl (by simp [binRun, eqGuard, Go.binOp, Op.intCmp, bne])
 all_goals exact e .bad (by unfold dBin; rw [hu]; rfl) (.inl rfl)
end
end Go.Vm
namespace Go.Vm
open Go
theorem tag_bit {t : Nat} (ht : t < 32) (n i : Nat) : (t + 32 * n).testBit i = if i < 5 then t.testBit i else n.testBit (i - 5) := by
 have := testBit_cat t n 5 i ht
 rw [Nat.shiftLeft_eq] at this
 have e : t + n * 2 ^ 5 = t + 32 * n := by omega
 rw [e] at this; exact this
theorem land_tag {t : Nat} (ht : t < 32) (n m : Nat) : Nat.land (t + 32 * n) (t + 32 * m) = t + 32 * (n &&& m) := by
 apply Nat.eq_of_testBit_eq
 intro i
 show ((t + 32 * n) &&& (t + 32 * m)).testBit i = _
 rw [Nat.testBit_and, tag_bit ht, tag_bit ht, tag_bit ht]
 by_cases h : i < 5 <;> simp [h]
theorem lor_tag {t : Nat} (ht : t < 32) (n m : Nat) : Nat.lor (t + 32 * n) (t + 32 * m) = t + 32 * (n ||| m) := by
 apply Nat.eq_of_testBit_eq
 intro i
 show ((t + 32 * n) ||| (t + 32 * m)).testBit i = _
 rw [Nat.testBit_or, tag_bit ht, tag_bit ht, tag_bit ht]
 by_cases h : i < 5 <;> simp [h]
theorem xor_tag {t : Nat} (ht : t < 32) (n m : Nat) : Nat.lor (Nat.xor (t + 32 * n) (t + 32 * m)) t = t + 32 * (n ^^^ m) := by
 apply Nat.eq_of_testBit_eq
 intro i
 show (((t + 32 * n) ^^^ (t + 32 * m)) ||| t).testBit i = _
 rw [Nat.testBit_or, Nat.testBit_xor, tag_bit ht, tag_bit ht, tag_bit ht]
 by_cases h : i < 5
 ·simp [h]
 ·have : t.testBit i = false := Nat.testBit_lt_two_pow (Nat.lt_of_lt_of_le ht (by have : (32 : Nat) = 2 ^ 5 := rfl; rw [this]; exact Nat.pow_le_pow_right (by decide) (by omega)))
  simp [h, this]
theorem kMod_bits {k : IntKind} (hk : kTag k ≠ 0) : kMod k = 2 ^ k.bits := by
 cases k <;> simp only [kTag] at hk <;> first | exact absurd rfl hk | rfl
theorem ofInt_nat {b n : Nat} (h : n < 2 ^ b) : (BitVec.ofInt b (n : Int)).toNat = n := by
 simp only [BitVec.ofInt_natCast, BitVec.toNat_ofNat]
 exact Nat.mod_eq_of_lt h
theorem va_tag {t n : Nat} (ht : t < 32) : va (t + 32 * n) = n := by rw [va_eq]; omega
theorem kbits_le {k : IntKind} : k.bits ≤ 64 := by cases k <;> decide
theorem sh_of {G : Gh} {c : Nat} {v : Value} (h : BRel G c v) (hc : c < 2 ^ 128) (hs : sh? c = true) : ∃ (k : IntKind) (n : Nat), v = .int k n ∧ va c = n := by
 have e : sh? c = Bool.rec (motive := fun _ => Bool) (Bool.rec (motive := fun _ => Bool) (Bool.rec (motive := fun _ => Bool) (nn 2 c) true (nn 3 c)) true (nn 5 c)) true (nn 4 c) := by
  unfold sh?
  cases nn 2 c <;> cases nn 3 c <;> cases nn 5 c <;> cases nn 4 c <;> rfl
 have ht : c % 32 = 2 ∨ c % 32 = 3 ∨ c % 32 = 4 ∨ c % 32 = 5 := by
  cases h2 : nn 2 c with
  | true => exact .inl (nn_iff.1 h2)
  | false =>
   cases h3 : nn 3 c with
   | true => exact .inr (.inl (nn_iff.1 h3))
   | false =>
    cases h4 : nn 4 c with
    | true => exact .inr (.inr (.inl (nn_iff.1 h4)))
    | false =>
     cases h5 : nn 5 c with
     | true => exact .inr (.inr (.inr (nn_iff.1 h5)))
     | false => rw [e, h2, h3, h4, h5] at hs; cases hs
 have h0 : c ≠ 0 := by omega
 have hi := h.inv h0 hc
 rcases ht with ht | ht | ht | ht <;> rw [ht] at hi <;> obtain ⟨n, h1, h2, h3⟩ := hi <;> exact ⟨_, n, h1, by rw [va_eq]; omega⟩
section
variable (X : GX) (P : Program) {w : World} {G : Gh}
theorem dBin_u (op : BinOp) {t : TypeId} {k : IntKind} (hu : und X.ty t = .int k) (hk : kTag k ≠ 0) (hk' : k ≠ .i64) (xo yo : Operand) {x y : Nat} {u v : Value} (hx : BRel G x u) (hy : BRel G y v) (hbx : x < 2 ^ 128) (hby : y < 2 ^ 128) :
  BinOk P (w := w) (G := G) op t xo yo u v (dBin X op t x y) := by
 have ht5 := kTag_le k
 have ht : kTag k < 32 := by omega
 have both : nn2 (kTag k) x y = true → ∃ n m : Nat, u = .int k n ∧ v = .int k m ∧ x = kTag k + 32 * n ∧ y = kTag k + 32 * m ∧ n < kMod k ∧ m < kMod k := by
  intro h
  obtain ⟨h1, h2⟩ := nn2_of ht h
  obtain ⟨n, h3, h4, h5⟩ := brel_u hk hk' hx hbx h1
  obtain ⟨m, h6, h7, h8⟩ := brel_u hk hk' hy hby h2
  exact ⟨n, m, h3, h6, h4, h7, h5, h8⟩
 have hb2 : is2 (kTag k) x y = true → nn2 (kTag k) x y = true := by
  intro h
  obtain ⟨h1, h2⟩ := is2_of (by omega) h
  have hx0 : x ≠ 0 := by intro h; subst h; omega
  have hy0 : y ≠ 0 := by intro h; subst h; omega
  have hix := hx.inv hx0 hbx
  have hiy := hy.inv hy0 hby
  have fixt : ∀ {c : Nat} {v : Value}, VInv G c v (c % 32) → c % 16 = kTag k → c % 32 = kTag k := by
   intro c v hi h
   rcases (by omega : c % 32 = kTag k ∨ c % 32 = kTag k + 16) with h3 | h3
   ·exact h3
   ·exfalso
    rw [h3] at hi
    cases k <;> simp only [kTag] at hk <;> first | exact absurd rfl hk | exact absurd rfl hk' | exact hi
  have h3 := fixt hix h1
  have h4 := fixt hiy h2
  unfold nn2
  rw [beq_iff, land_5]
  have e5 : (32 : Nat) = 2 ^ 5 := rfl
  have ex : (Nat.xor x (kTag k)) % 2 ^ 5 = 0 := by
   have : (x ^^^ kTag k) % 2 ^ 5 = (x % 2 ^ 5) ^^^ (kTag k % 2 ^ 5) := Nat.xor_mod_two_pow
   show (x ^^^ kTag k) % 2 ^ 5 = 0
   rw [this, ← e5, h3, Nat.mod_eq_of_lt ht, Nat.xor_self]
  have ey : (Nat.xor y (kTag k)) % 2 ^ 5 = 0 := by
   have : (y ^^^ kTag k) % 2 ^ 5 = (y % 2 ^ 5) ^^^ (kTag k % 2 ^ 5) := Nat.xor_mod_two_pow
   show (y ^^^ kTag k) % 2 ^ 5 = 0
   rw [this, ← e5, h4, Nat.mod_eq_of_lt ht, Nat.xor_self]
  show (Nat.xor x (kTag k) ||| Nat.xor y (kTag k)) % 2 ^ 5 = 0
  rw [Nat.or_mod_two_pow, ex, ey]; rfl
 have hpos := kMod_pos hk
 have wr : ∀ n : Nat, k.wrap (n : Int) = ((n % kMod k : Nat) : Int) := wrap_u hk hk'
 have hint : dBin X op t x y = if kTag k = 0 then .bad else match op with
  | .add => pure1 (addU (kTag k) (kMod k) x y) 128 | .mul => pure1 (mulU (kTag k) (kMod k) x y) 128
  | .rem => pure1 (remU (kTag k) x y) 128 | .and => pure1 (andU (kTag k) x y) 128 | .or => pure1 (orU (kTag k) x y) 128
  | .xor => pure1 (xorU (kTag k) x y) 128
  | .shl => pure1 (shlU (kTag k) (kMod k) x y) 128 | .shr => pure1 (shrU (kTag k) x y) 128
  | .lss => pure1 (ltU (kTag k) x y) 128 | .gtr => pure1 (ltU (kTag k) y x) 128
  | .eql => pure1 (eqN (kTag k) x y) 128 | .neq => pure1 (neN (kTag k) x y) 128
  | _ => .bad := by
  clear both hb2
  unfold dBin; rw [hu]; cases k <;> first | exact absurd rfl hk' | rfl
 rw [if_neg hk] at hint
 have e : ∀ act, dBin X op t x y = act → BinOk P (w := w) (G := G) op t xo yo u v act → BinOk P (w := w) (G := G) op t xo yo u v (dBin X op t x y) := fun act h1 h2 => h1 ▸ h2
 cases op
 case add =>
  refine e _ hint (.inr ⟨_, rfl, fun h0 => ?_⟩)
  obtain ⟨h1, h2⟩ := arm0 (show Bool.rec (motive := fun _ => Nat) 0 (mkN (kTag k) (Nat.mod (Nat.add (va x) (va y)) (kMod k))) (nn2 (kTag k) x y) = addU (kTag k) (kMod k) x y from rfl) h0
  obtain ⟨n, m, rfl, rfl, hx, hy, hn, hm⟩ := both h1
  rw [← h2, hx, hy, va_tag ht, va_tag ht]
  refine gives_int (k := k) (n := (((n + m) % kMod k : Nat) : Int)) (fits_u hk hk' (Nat.mod_lt _ hpos)) rfl ?_
  have : ((n : Int) + (m : Int)) = ((n + m : Nat) : Int) := by omega
  simp only [binRun, eqGuard, Go.binOp, Op.intArith, this, wr]
  simp
 case mul =>
  refine e _ hint (.inr ⟨_, rfl, fun h0 => ?_⟩)
  obtain ⟨h1, h2⟩ := arm0 (show Bool.rec (motive := fun _ => Nat) 0 (mkN (kTag k) (Nat.mod (Nat.mul (va x) (va y)) (kMod k))) (nn2 (kTag k) x y) = mulU (kTag k) (kMod k) x y from rfl) h0
  obtain ⟨n, m, rfl, rfl, hx, hy, hn, hm⟩ := both h1
  rw [← h2, hx, hy, va_tag ht, va_tag ht]
  refine gives_int (k := k) (n := (((n * m) % kMod k : Nat) : Int)) (fits_u hk hk' (Nat.mod_lt _ hpos)) rfl ?_
  have : ((n : Int) * (m : Int)) = ((n * m : Nat) : Int) := (Int.natCast_mul n m).symm
  simp only [binRun, eqGuard, Go.binOp, Op.intArith, this, wr]
  simp
 case rem =>
  refine e _ hint (.inr ⟨_, rfl, fun h0 => ?_⟩)
  obtain ⟨h1, h2⟩ := arm0 (show Bool.rec (motive := fun _ => Nat) 0 (Bool.rec (motive := fun _ => Nat) (mkN (kTag k) (Nat.mod (va x) (va y))) 0 (Nat.beq (va y) 0)) (nn2 (kTag k) x y) = remU (kTag k) x y from rfl) h0
  obtain ⟨h3, h2⟩ := arm_n h2 h0
  obtain ⟨n, m, rfl, rfl, hx, hy, hn, hm⟩ := both h1
  rw [hy, va_tag ht] at h3
  have hm0 : m ≠ 0 := fun h => by rw [h] at h3; cases h3
  rw [← h2, hx, hy, va_tag ht, va_tag ht]
  have hle := Nat.mod_le n m
  have e2 : (n : Int).tmod (m : Int) = ((n % m : Nat) : Int) := by rw [Int.tmod_eq_emod_of_nonneg (by omega)]; rfl
  refine gives_int (k := k) (n := ((n % m : Nat) : Int)) (fits_u hk hk' (Nat.lt_of_le_of_lt hle hn)) rfl ?_
  have hm' : ¬ ((m : Int) = 0) := by omega
  simp only [binRun, eqGuard, Go.binOp, Op.intDiv, if_neg hm', e2]
  simp
 case and =>
  refine e _ hint (.inr ⟨_, rfl, fun h0 => ?_⟩)
  obtain ⟨h1, h2⟩ := arm0 (show Bool.rec (motive := fun _ => Nat) 0 (Nat.land x y) (nn2 (kTag k) x y) = andU (kTag k) x y from rfl) h0
  obtain ⟨n, m, rfl, rfl, hx, hy, hn, hm⟩ := both h1
  rw [← h2, hx, hy, land_tag ht]
  have hr : n &&& m < kMod k := Nat.lt_of_le_of_lt Nat.and_le_left hn
  refine gives_int (k := k) (n := ((n &&& m : Nat) : Int)) (fits_u hk hk' hr) rfl ?_
  rw [kMod_bits hk] at hn hm hr
  have e2 : (BitVec.ofInt k.bits (n : Int) &&& BitVec.ofInt k.bits (m : Int)).toNat = n &&& m := by rw [BitVec.toNat_and, ofInt_nat hn, ofInt_nat hm]
  simp only [binRun, eqGuard, Go.binOp, Op.intBits, e2, wr, Nat.mod_eq_of_lt (kMod_bits hk ▸ hr)]
  simp
 case or =>
  refine e _ hint (.inr ⟨_, rfl, fun h0 => ?_⟩)
  obtain ⟨h1, h2⟩ := arm0 (show Bool.rec (motive := fun _ => Nat) 0 (Nat.lor x y) (nn2 (kTag k) x y) = orU (kTag k) x y from rfl) h0
  obtain ⟨n, m, rfl, rfl, hx, hy, hn, hm⟩ := both h1
  rw [← h2, hx, hy, lor_tag ht]
  have hr : n ||| m < kMod k := by rw [kMod_bits hk] at hn hm ⊢; exact Nat.or_lt_two_pow hn hm
  refine gives_int (k := k) (n := ((n ||| m : Nat) : Int)) (fits_u hk hk' hr) rfl ?_
  rw [kMod_bits hk] at hn hm hr
  have e2 : (BitVec.ofInt k.bits (n : Int) ||| BitVec.ofInt k.bits (m : Int)).toNat = n ||| m := by rw [BitVec.toNat_or, ofInt_nat hn, ofInt_nat hm]
  simp only [binRun, eqGuard, Go.binOp, Op.intBits, e2, wr, Nat.mod_eq_of_lt (kMod_bits hk ▸ hr)]
  simp
 case xor =>
  refine e _ hint (.inr ⟨_, rfl, fun h0 => ?_⟩)
  obtain ⟨h1, h2⟩ := arm0 (show Bool.rec (motive := fun _ => Nat) 0 (Nat.lor (Nat.xor x y) (kTag k)) (nn2 (kTag k) x y) = xorU (kTag k) x y from rfl) h0
  obtain ⟨n, m, rfl, rfl, hx, hy, hn, hm⟩ := both h1
  rw [← h2, hx, hy, xor_tag ht]
  have hr : n ^^^ m < kMod k := by rw [kMod_bits hk] at hn hm ⊢; exact Nat.xor_lt_two_pow hn hm
  refine gives_int (k := k) (n := ((n ^^^ m : Nat) : Int)) (fits_u hk hk' hr) rfl ?_
  rw [kMod_bits hk] at hn hm hr
  have e2 : (BitVec.ofInt k.bits (n : Int) ^^^ BitVec.ofInt k.bits (m : Int)).toNat = n ^^^ m := by rw [BitVec.toNat_xor, ofInt_nat hn, ofInt_nat hm]
  simp only [binRun, eqGuard, Go.binOp, Op.intBits, e2, wr, Nat.mod_eq_of_lt (kMod_bits hk ▸ hr)]
  simp
 case shl =>
  refine e _ hint (.inr ⟨_, rfl, fun h0 => ?_⟩)
  obtain ⟨h1, h2⟩ := arm0 (show Bool.rec (motive := fun _ => Nat) 0 (mkN (kTag k) (Nat.mod (Nat.mul (va x) (Nat.pow 2 (va y))) (kMod k))) (Bool.rec false (Bool.rec false (Nat.ble (va y) 64) (sh? y)) (nn (kTag k) x)) = shlU (kTag k) (kMod k) x y from rfl) h0
  obtain ⟨h3, h4⟩ := and_of' h1
  obtain ⟨h5, h6⟩ := and_of' h3
  obtain ⟨n, rfl, hx, hn⟩ := brel_u hk hk' hx hbx (nn_iff.1 h4)
  obtain ⟨k', m, rfl, hm⟩ := sh_of hy hby h6
  rw [hm, ble_iff] at h5
  rw [← h2, hx, va_tag ht, hm]
  refine gives_int (k := k) (n := (((n * 2 ^ m) % kMod k : Nat) : Int)) (fits_u hk hk' (Nat.mod_lt _ hpos)) rfl ?_
  have hm' : ¬ ((m : Int) < 0) := by omega
  have e2 : k.wrap ((n : Int) * 2 ^ (min m k.bits)) = (((n * 2 ^ m) % kMod k : Nat) : Int) := by
   have : ((n : Int) * 2 ^ (min m k.bits)) = ((n * 2 ^ (min m k.bits) : Nat) : Int) := by simp
   rw [this, wr]
   congr 1
   rcases Nat.le_total m k.bits with h | h
   ·rw [Nat.min_eq_left h]
   ·rw [Nat.min_eq_right h, kMod_bits hk, Nat.mul_mod_left]
    have : 2 ^ m = 2 ^ (m - k.bits) * 2 ^ k.bits := by rw [← Nat.pow_add]; congr 1; omega
    rw [this, ← Nat.mul_assoc, Nat.mul_mod_left]
  simp only [binRun, eqGuard, Go.binOp, Op.shift, if_neg hm', Int.toNat_natCast, e2]
  simp
 case shr =>
  refine e _ hint (.inr ⟨_, rfl, fun h0 => ?_⟩)
  obtain ⟨h1, h2⟩ := arm0 (show Bool.rec (motive := fun _ => Nat) 0 (mkN (kTag k) (Nat.shiftRight (va x) (va y))) (Bool.rec false (Bool.rec false (Nat.ble (va y) 64) (sh? y)) (nn (kTag k) x)) = shrU (kTag k) x y from rfl) h0
  obtain ⟨h3, h4⟩ := and_of' h1
  obtain ⟨h5, h6⟩ := and_of' h3
  obtain ⟨n, rfl, hx, hn⟩ := brel_u hk hk' hx hbx (nn_iff.1 h4)
  obtain ⟨k', m, rfl, hm⟩ := sh_of hy hby h6
  rw [← h2, hx, va_tag ht, hm, shr_eq]
  have hle := Nat.div_le_self n (2 ^ m)
  refine gives_int (k := k) (n := ((n / 2 ^ m : Nat) : Int)) (fits_u hk hk' (Nat.lt_of_le_of_lt hle hn)) rfl ?_
  have hm' : ¬ ((m : Int) < 0) := by omega
  have e2 : (n : Int).fdiv (2 ^ (min m k.bits)) = ((n / 2 ^ m : Nat) : Int) := by
   have : ((2 : Int) ^ (min m k.bits)) = ((2 ^ (min m k.bits) : Nat) : Int) := by simp
   rw [this]
   have : (n : Int).fdiv ((2 ^ (min m k.bits) : Nat) : Int) = ((n / 2 ^ (min m k.bits) : Nat) : Int) := by
    rw [Int.fdiv_eq_ediv_of_nonneg _ (Int.natCast_nonneg _)]; rfl
   rw [this]
   congr 1
   rcases Nat.le_total m k.bits with h | h
   ·rw [Nat.min_eq_left h]
   ·rw [Nat.min_eq_right h]
    rw [kMod_bits hk] at hn
    rw [Nat.div_eq_of_lt hn, Nat.div_eq_of_lt (Nat.lt_of_lt_of_le hn (Nat.pow_le_pow_right (by decide) h))]
  simp only [binRun, eqGuard, Go.binOp, Op.shift, if_neg hm', Int.toNat_natCast, e2]
  simp
 case lss =>
  refine e _ hint (.inr ⟨_, rfl, fun h0 => ?_⟩)
  obtain ⟨h1, h2⟩ := arm0 (show Bool.rec (motive := fun _ => Nat) 0 (nbo (Nat.ble y x)) (nn2 (kTag k) x y) = ltU (kTag k) x y from rfl) h0
  obtain ⟨n, m, rfl, rfl, hx, hy, hn, hm⟩ := both h1
  have e2 : Nat.ble y x = !decide ((n : Int) < (m : Int)) := by
   cases hb : Nat.ble y x with
   | true => rw [ble_iff] at hb; simp; omega
   | false => have := ble_false hb; simp; omega
  rw [← h2, e2, nbo_eq, Bool.not_not]
  exact gives_bool rfl (by simp [binRun, eqGuard, Go.binOp, Op.intCmp])
 case gtr =>
  refine e _ hint (.inr ⟨_, rfl, fun h0 => ?_⟩)
  obtain ⟨h1, h2⟩ := arm0 (show Bool.rec (motive := fun _ => Nat) 0 (nbo (Nat.ble x y)) (nn2 (kTag k) y x) = ltU (kTag k) y x from rfl) h0
  obtain ⟨n, m, rfl, rfl, hx, hy, hn, hm⟩ := both (by rw [nn2_comm]; exact h1)
  have e2 : Nat.ble x y = !decide ((m : Int) < (n : Int)) := by
   cases hb : Nat.ble x y with
   | true => rw [ble_iff] at hb; simp; omega
   | false => have := ble_false hb; simp; omega
  rw [← h2, e2, nbo_eq, Bool.not_not]
  exact gives_bool rfl (by simp [binRun, eqGuard, Go.binOp, Op.intCmp])
 case eql =>
  refine e _ hint (.inr ⟨_, rfl, fun h0 => ?_⟩)
  obtain ⟨h1, h2⟩ := arm0 (show Bool.rec (motive := fun _ => Nat) 0 (bo (Nat.beq x y)) (is2 (kTag k) x y) = eqN (kTag k) x y from rfl) h0
  obtain ⟨n, m, rfl, rfl, hx, hy, hn, hm⟩ := both (hb2 h1)
  have e2 : Nat.beq x y = ((n : Int) == (m : Int)) := by
   by_cases h : n = m
   ·subst h; rw [hx, hy, Nat.beq_refl]; simp
   ·rw [beq_ne (by omega)]
    have : ((n : Int) == (m : Int)) = false := by simp; omega
    rw [this]
  rw [← h2, e2, bo_eq]
  exact gives_bool rfl (by simp [binRun, eqGuard, Go.binOp, Op.intCmp])
 case neq =>
  refine e _ hint (.inr ⟨_, rfl, fun h0 => ?_⟩)
  obtain ⟨h1, h2⟩ := arm0 (show Bool.rec (motive := fun _ => Nat) 0 (nbo (Nat.beq x y)) (is2 (kTag k) x y) = neN (kTag k) x y from rfl) h0
  obtain ⟨n, m, rfl, rfl, hx, hy, hn, hm⟩ := both (hb2 h1)
  have e2 : Nat.beq x y = ((n : Int) == (m : Int)) := by
   by_cases h : n = m
   ·subst h; rw [hx, hy, Nat.beq_refl]; simp
   ·rw [beq_ne (by omega)]
    have : ((n : Int) == (m : Int)) = false := by simp; omega
    rw [this]
  rw [← h2, e2, nbo_eq]
  exact gives_bool rfl (by simp [binRun, eqGuard, Go.binOp, Op.intCmp, bne])
 all_goals exact e .bad hint (.inl rfl)
end
end Go.Vm
namespace Go.Vm
open Go
structure TextN (a : Nat) (l : List UInt8) : Prop where
 lt : a < 2 ^ (128 * l.length)
 cell : ∀ i x, l[i]? = some x → cell a i = 4 + 32 * x.toNat
theorem nat_ext_cells {a b n : Nat} (ha : a < 2 ^ (128 * n)) (hb : b < 2 ^ (128 * n)) (h : ∀ i, i < n → cell a i = cell b i) : a = b := by
 apply Nat.eq_of_testBit_eq
 intro j
 by_cases hj : j < 128 * n
 ·have h1 := congrArg (fun z => z.testBit (j % 128)) (h (j / 128) (by omega))
  simp only [cell, testBit_gw] at h1
  have h2 : j % 128 < 128 := Nat.mod_lt _ (by decide)
  have h3 : 128 * (j / 128) + j % 128 = j := Nat.div_add_mod j 128
  simpa [h2, h3] using h1
 ·have hp : ∀ z, z < 2 ^ (128 * n) → z.testBit j = false := fun z hz => Nat.testBit_lt_two_pow (Nat.lt_of_lt_of_le hz (Nat.pow_le_pow_right (by decide) (by omega)))
  rw [hp a ha, hp b hb]
theorem TextN.inj {a b : Nat} {l m : List UInt8} (h : TextN a l) (h' : TextN b m) (hl : l.length = m.length) : Nat.beq a b = (l == m) := by
 by_cases e : l = m
 ·subst e
  have : a = b := nat_ext_cells h.lt h'.lt fun i hi => by
   rw [h.cell i l[i] (List.getElem?_eq_getElem hi), h'.cell i l[i] (List.getElem?_eq_getElem hi)]
  rw [this, Nat.beq_refl]; simp
 ·have : a ≠ b := by
   intro hab
   subst hab
   apply e
   apply List.ext_getElem hl
   intro i h1 h2
   have h3 := h.cell i l[i] (List.getElem?_eq_getElem h1)
   have h4 := h'.cell i m[i] (List.getElem?_eq_getElem h2)
   have h5 : l[i].toNat = m[i].toNat := by omega
   exact UInt8.toNat_inj.1 h5
  rw [beq_ne this]; simp [e]
theorem cell_shift (a i : Nat) : cell (Nat.shiftRight a 128) i = cell a (i + 1) := by
 unfold cell
 apply Nat.eq_of_testBit_eq
 intro j
 rw [testBit_gw, testBit_gw]
 have : Nat.shiftRight a 128 = a >>> 128 := rfl
 rw [this, Nat.testBit_shiftRight]
 congr 2; omega
theorem shift_lt {a n : Nat} (h : a < 2 ^ (128 * (n + 1))) : Nat.shiftRight a 128 < 2 ^ (128 * n) := by
 rw [shr_eq]
 apply Nat.div_lt_of_lt_mul
 rw [← Nat.pow_add]
 have : 128 + 128 * n = 128 * (n + 1) := by omega
 rw [this]; exact h
theorem g0_eq (a : Nat) : g a 0 = cell a 0 := g_eq a 0
theorem TextN.tail {a : Nat} {x : UInt8} {l : List UInt8} (h : TextN a (x :: l)) : TextN (Nat.shiftRight a 128) l :=
 ⟨shift_lt h.lt, fun i y hy => by rw [cell_shift]; exact h.cell (i + 1) y (by simpa using hy)⟩
theorem TextN.head {a : Nat} {x : UInt8} {l : List UInt8} (h : TextN a (x :: l)) : g a 0 = 4 + 32 * x.toNat := by
 rw [g0_eq]; exact h.cell 0 x rfl
theorem lessT_eq : ∀ (l m : List UInt8) (a b : Nat), TextN a l → TextN b m → lessT l.length m.length a b = Op.bytesLess l m
 | [], [], a, b, _, _ => rfl
 | [], _ :: _, a, b, _, _ => by
  show ltb 0 _ = _
  rw [show ltb 0 (List.length (_ :: _)) = true from ltb_iff.2 (by simp)]; rfl
 | x :: l, [], a, b, _, _ => rfl
 | x :: l, y :: m, a, b, ha, hb => by
  have e : lessT (x :: l).length (y :: m).length a b = Bool.rec (motive := fun _ => Bool) (ltb (g a 0) (g b 0)) (lessT l.length m.length (Nat.shiftRight a 128) (Nat.shiftRight b 128)) (Nat.beq (g a 0) (g b 0)) := by
   show Bool.rec (motive := fun _ => Bool) (Bool.rec (motive := fun _ => Bool) (ltb (g a 0) (g b 0)) (lessT l.length m.length (Nat.shiftRight a 128) (Nat.shiftRight b 128)) (Nat.beq (g a 0) (g b 0))) false false = _
   rfl
  rw [e, lessT_eq l m _ _ ha.tail hb.tail, ha.head, hb.head]
  rw [show Op.bytesLess (x :: l) (y :: m) = (decide (x < y) || (x == y && Op.bytesLess l m)) from rfl]
  by_cases h : x = y
  ·subst h
   rw [Nat.beq_refl]
   simp
  ·have h' : x.toNat ≠ y.toNat := fun e => h (UInt8.toNat_inj.1 e)
   rw [beq_ne (by omega)]
   dsimp only
   have h2 : (x == y) = false := by simpa using h
   rw [h2]
   simp only [Bool.false_and, Bool.or_false]
   by_cases h3 : x.toNat < y.toNat
   ·rw [ltb_iff.2 (by omega)]
    have : x < y := UInt8.lt_iff_toNat_lt.2 h3
    simp [this]
   ·have h4 : ltb (4 + 32 * x.toNat) (4 + 32 * y.toNat) = false := by
     cases hb : ltb (4 + 32 * x.toNat) (4 + 32 * y.toNat) with
     | false => rfl
     | true => have := ltb_iff.1 hb; omega
    rw [h4]
    have : ¬ x < y := fun h => h3 (UInt8.lt_iff_toNat_lt.1 h)
    simp [this]
theorem bl_gtr : ∀ (l m : List UInt8), Op.bytesLess l m = !(Op.bytesLess m l || m == l)
 | [], [] => rfl
 | [], _ :: _ => rfl
 | _ :: _, [] => rfl
 | x :: l, y :: m => by
  rw [show Op.bytesLess (x :: l) (y :: m) = (decide (x < y) || (x == y && Op.bytesLess l m)) from rfl, show Op.bytesLess (y :: m) (x :: l) = (decide (y < x) || (y == x && Op.bytesLess m l)) from rfl, bl_gtr l m]
  rcases Nat.lt_trichotomy x.toNat y.toNat with h | h | h
  ·have h1 : x < y := UInt8.lt_iff_toNat_lt.2 h
   have h2 : ¬ y < x := fun h' => by have := UInt8.lt_iff_toNat_lt.1 h'; omega
   have h3 : ¬ y = x := fun e => by subst e; omega
   simp [h1, h2, h3]
  ·have h1 : x = y := UInt8.toNat_inj.1 h
   subst h1
   simp
  ·have h1 : y < x := UInt8.lt_iff_toNat_lt.2 h
   have h2 : ¬ x < y := fun h' => by have := UInt8.lt_iff_toNat_lt.1 h'; omega
   have h3 : ¬ x = y := fun e => by subst e; omega
   simp [h1, h2, h3]
theorem lenT_eq (b len off : Nat) (hb : b < 16777216) (hl : len < 16777216) : lenT (txC b len off) = len := by
 have e : ∀ c, lenT c = c / 536870912 % 16777216 := fun c => by unfold lenT; rw [land_24, shr_eq]
 rw [e]
 unfold txC
 omega
theorem offT_eq (b len off : Nat) (hb : b < 16777216) (hl : len < 16777216) : offT (txC b len off) = off := by
 have e : ∀ c, offT c = c / 9007199254740992 := fun c => by unfold offT; rw [shr_eq]
 rw [e]
 unfold txC
 omega
theorem blk_txC (b len off : Nat) (hb : b < 16777216) : blkOf (txC b len off) = b := by
 rw [blkOf_eq]; unfold txC; omega
theorem isT_iff (c : Nat) : isT c = true ↔ c % 32 = 24 := by unfold isT; rw [beq_iff, tg_eq]
section
variable (X : GX) (P : Program) {w : World} {G : Gh} {S : St}
theorem txt_ok {R : Type} (hr : HR X G S w) {c : Nat} {v : Value} (h : BRel G c v) (hc : c < 2 ^ 128) (z : R) (f : Nat → R) :
  txt S c z f = z ∨ ∃ s a, v = .string s ∧ TextN a s.data.toList ∧ lenT c = s.data.toList.length ∧ txt S c z f = f a ∧ isT c = true := by
 have e : txt S c z f = Bool.rec (motive := fun _ => R) z (get S (blkOf c) fun k _ _ _ bits => Bool.rec (motive := fun _ => R) z (f (gw bits (Nat.mul 128 (offT c)) (Nat.mul 128 (lenT c)))) (Nat.beq k 1)) (isT c) := rfl
 rw [e]
 cases ht : isT c with
 | false => exact .inl rfl
 | true =>
  have ht' := (isT_iff c).1 ht
  have hi := h.inv (by omega) hc
  rw [ht'] at hi
  obtain ⟨b, len, off, s, rfl, hg, hb, hl, ho, rfl⟩ := hi
  have hbx := hr.val b _ hg
  dsimp only
  rw [blk_txC b len off hb, lenT_eq b len off hb hl, offT_eq b len off hb hl]
  obtain ⟨k, a, x, y, bits, h1, h2⟩ := get_cases S b (fun k _ _ _ bits => Bool.rec (motive := fun _ => R) z (f (gw bits (Nat.mul 128 off) (Nat.mul 128 len))) (Nat.beq k 1))
  rw [h2]
  rw [h1] at hbx
  rcases hbx with ⟨rfl, s', hs, ha, hcell⟩ | ⟨rfl, _⟩ | ⟨_, _, _, _, _, hbad, _⟩ | ⟨rfl, _⟩
  ·cases hs
   right
   have hlen : (s.extract off (off + len)).data.toList.length = len := by
    rw [Lib.extract_data, List.length_take, List.length_drop, ← Lib.size_eq]
    omega
   refine ⟨_, gw bits (128 * off) (128 * len), rfl, ⟨?_, ?_⟩, hlen.symm, rfl, rfl⟩
   ·rw [hlen]; exact gw_lt _ _ _
   ·intro i x hx
    have hi : i < len := by
     have := (List.getElem?_eq_some_iff.1 hx).1; omega
    rw [cell_gw _ _ _ _ hi]
    apply hcell
    rw [Lib.extract_data, List.getElem?_take, List.getElem?_drop] at hx
    split at hx
    ·simpa using hx
    ·cases hx
  ·exact .inl rfl
  ·cases hbad
  ·exact .inl rfl
theorem bin_string (hr : HR X G S w) (op : BinOp) {t : TypeId} (hu : und X.ty t = .string) (xo yo : Operand) {x y : Nat} {u v : Value} (hx : BRel G x u) (hy : BRel G y v) (hbx : x < 2 ^ 128) (hby : y < 2 ^ 128) :
  dBin X op t x y = .bad ∨ ∃ f, dBin X op t x y = .val f 128 ∧ (f S ≠ 0 → Gives P w G (binRun op t xo yo u v) (f S)) := by
 have two : ∀ (x y : Nat) (u v : Value), BRel G x u → BRel G y v → x < 2 ^ 128 → y < 2 ^ 128 → ∀ (f : Nat → Nat → Nat), (txt S x 0 fun a => txt S y 0 fun b => f a b) ≠ 0 → ∃ s r a b, u = .string s ∧ v = .string r ∧ TextN a s.data.toList ∧ TextN b r.data.toList ∧ lenT x = s.data.toList.length ∧ lenT y = r.data.toList.length ∧
   (txt S x 0 fun a => txt S y 0 fun b => f a b) = f a b := by
  intro x y u v hx hy hbx hby f h0
  rcases txt_ok X hr hx hbx 0 (fun a => txt S y 0 fun b => f a b) with h1 | ⟨s, a, h1, h2, h3, h4, _⟩
  ·exact absurd h1 h0
  ·rw [h4] at h0 ⊢
   rcases txt_ok X hr hy hby 0 (fun b => f a b) with h5 | ⟨r, b, h5, h6, h7, h8, _⟩
   ·exact absurd h5 h0
   ·exact ⟨s, r, a, b, h1, h5, h2, h6, h3, h7, h8⟩
 have heq : ∀ {s r : ByteArray} {a b : Nat}, TextN a s.data.toList → TextN b r.data.toList → lenT x = s.data.toList.length → lenT y = r.data.toList.length →
   (Bool.rec (motive := fun _ => Bool) false (Nat.beq a b) (Nat.beq (lenT x) (lenT y))) = (s.toList == r.toList) := by
  intro s r a b h1 h2 h3 h4
  rw [Lib.toList_data, Lib.toList_data, h3, h4]
  by_cases hl : s.data.toList.length = r.data.toList.length
  ·rw [hl, Nat.beq_refl]
   exact h1.inj h2 hl
  ·rw [beq_ne hl]
   have : s.data.toList ≠ r.data.toList := fun e => hl (by rw [e])
   show false = _
   symm; simpa using this
 have hd : dBin X op t x y = match op with
  | .eql => .val (fun S => eqT x y S) 128 | .neq => .val (fun S => neT x y S) 128
  | .lss => .val (fun S => ltT x y S) 128 | .gtr => .val (fun S => ltT y x S) 128 | _ => .bad := by
  unfold dBin; rw [hu]; rfl
 cases op
 case eql =>
  refine .inr ⟨_, hd, fun h0 => ?_⟩
  obtain ⟨s, r, a, b, rfl, rfl, h1, h2, h3, h4, h5⟩ := two x y u v hx hy hbx hby (fun a b => bo (Bool.rec (motive := fun _ => Bool) false (Nat.beq a b) (Nat.beq (lenT x) (lenT y)))) h0
  have h6 : eqT x y S = bo (s.toList == r.toList) := by rw [← heq h1 h2 h3 h4]; exact h5
  rw [h6, bo_eq]
  exact gives_bool rfl (by simp [binRun, eqGuard, Go.binOp, Op.stringOp])
 case neq =>
  refine .inr ⟨_, hd, fun h0 => ?_⟩
  obtain ⟨s, r, a, b, rfl, rfl, h1, h2, h3, h4, h5⟩ := two x y u v hx hy hbx hby (fun a b => nbo (Bool.rec (motive := fun _ => Bool) false (Nat.beq a b) (Nat.beq (lenT x) (lenT y)))) h0
  have h6 : neT x y S = nbo (s.toList == r.toList) := by rw [← heq h1 h2 h3 h4]; exact h5
  rw [h6, nbo_eq]
  exact gives_bool rfl (by simp [binRun, eqGuard, Go.binOp, Op.stringOp])
 case lss =>
  refine .inr ⟨_, hd, fun h0 => ?_⟩
  obtain ⟨s, r, a, b, rfl, rfl, h1, h2, h3, h4, h5⟩ := two x y u v hx hy hbx hby (fun a b => bo (lessT (lenT x) (lenT y) a b)) h0
  have h6 : ltT x y S = bo (Op.bytesLess s.toList r.toList) := by
   rw [Lib.toList_data, Lib.toList_data, ← lessT_eq _ _ _ _ h1 h2, ← h3, ← h4]; exact h5
  rw [h6, bo_eq]
  exact gives_bool rfl (by simp [binRun, eqGuard, Go.binOp, Op.stringOp])
 case gtr =>
  refine .inr ⟨_, hd, fun h0 => ?_⟩
  obtain ⟨s, r, a, b, rfl, rfl, h1, h2, h3, h4, h5⟩ := two y x v u hy hx hby hbx (fun a b => bo (lessT (lenT y) (lenT x) a b)) h0
  have h6 : ltT y x S = bo (Op.bytesLess s.toList r.toList) := by
   rw [Lib.toList_data, Lib.toList_data, ← lessT_eq _ _ _ _ h1 h2, ← h3, ← h4]; exact h5
  rw [h6, bo_eq]
  have h7 : Op.bytesLess s.toList r.toList = !(Op.bytesLess r.toList s.toList || r.toList == s.toList) := bl_gtr _ _
  exact gives_bool rfl (by simp only [binRun, eqGuard, Go.binOp, Op.stringOp]; simp [h7])
 all_goals exact .inl hd
end
end Go.Vm
namespace Go.Vm
open Go
section
variable (X : GX) (P : Program) {w : World} {G : Gh} {S : St}
theorem brel_b {G : Gh} {c : Nat} {v : Value} (h : BRel G c v) (hc : c < 2 ^ 128) (ht : c % 16 = 1) : ∃ b, v = .bool b ∧ c = sel b 17 1 := by
 have hi := h.inv (by omega) hc
 rcases (by omega : c % 32 = 1 ∨ c % 32 = 17) with h1 | h1 <;> rw [h1] at hi <;> obtain ⟨h2, h3⟩ := hi
 ·exact ⟨false, h3, h2⟩
 ·exact ⟨true, h3, h2⟩
theorem equal_run {t : TypeId} {u v : Value} {b : Bool} (h : ∀ d, (Op.equalIn (d + 1) t u v).run P w = .ok b w) : (Op.equal t u v).run P w = .ok b w := h 9999
theorem beq_bool (a b : Bool) : Nat.beq (sel a 17 1) (sel b 17 1) = (a == b) := by cases a <;> cases b <;> rfl
theorem bin_bool (op : BinOp) {t : TypeId} (hu : und X.ty t = .bool) (hP : P.underlying t = some .bool) (xo yo : Operand) {x y : Nat} {u v : Value} (hx : BRel G x u) (hy : BRel G y v) (hbx : x < 2 ^ 128) (hby : y < 2 ^ 128) :
  BinOk P (w := w) (G := G) op t xo yo u v (dBin X op t x y) := by
 have hd : dBin X op t x y = match op with
  | .eql => pure1 (eqB x y) 128 | .neq => pure1 (neB x y) 128 | _ => .bad := by unfold dBin; rw [hu]; rfl
 have e : ∀ act, dBin X op t x y = act → BinOk P (w := w) (G := G) op t xo yo u v act → BinOk P (w := w) (G := G) op t xo yo u v (dBin X op t x y) := fun act h1 h2 => h1 ▸ h2
 have hun : ∀ w, (underlying t).run P w = .ok .bool w := fun w => by simp [underlying, hP]
 cases op
 case eql =>
  refine e _ hd (.inr ⟨_, rfl, fun h0 => ?_⟩)
  obtain ⟨h1, h2⟩ := arm0 (show Bool.rec (motive := fun _ => Nat) 0 (bo (Nat.beq x y)) (is2 1 x y) = eqB x y from rfl) h0
  obtain ⟨h3, h4⟩ := is2_of (by decide) h1
  obtain ⟨a, rfl, hx'⟩ := brel_b hx hbx h3
  obtain ⟨b, rfl, hy'⟩ := brel_b hy hby h4
  rw [← h2, hx', hy', beq_bool, bo_eq]
  have hE : (Op.equal t (.bool a) (.bool b)).run P w = .ok (a == b) w := equal_run P fun d => by simp [Op.equalIn, hun]
  exact gives_bool rfl (by simp [binRun, eqGuard, Go.binOp, hE])
 case neq =>
  refine e _ hd (.inr ⟨_, rfl, fun h0 => ?_⟩)
  obtain ⟨h1, h2⟩ := arm0 (show Bool.rec (motive := fun _ => Nat) 0 (nbo (Nat.beq x y)) (is2 1 x y) = neB x y from rfl) h0
  obtain ⟨h3, h4⟩ := is2_of (by decide) h1
  obtain ⟨a, rfl, hx'⟩ := brel_b hx hbx h3
  obtain ⟨b, rfl, hy'⟩ := brel_b hy hby h4
  rw [← h2, hx', hy', beq_bool, nbo_eq]
  have hE : (Op.equal t (.bool a) (.bool b)).run P w = .ok (a == b) w := equal_run P fun d => by simp [Op.equalIn, hun]
  exact gives_bool rfl (by simp [binRun, eqGuard, Go.binOp, hE])
 all_goals exact e _ hd (.inl rfl)
theorem eqZ_ways {n t e x y c : Nat} (h : eqZ n t e x y = c) (h0 : c ≠ 0) : (x = n ∧ y = n ∧ c = 17) ∨ (x = n ∧ y ≠ n ∧ (y % 32 = t ∨ y = e) ∧ c = 1) ∨ (y = n ∧ x ≠ n ∧ (x % 32 = t ∨ x = e) ∧ c = 1) := by
 have htz : ∀ z, tz t e z = c → (z % 32 = t ∨ z = e) ∧ c = 1 := by
  intro z hz
  have e1 : tz t e z = Bool.rec (motive := fun _ => Nat) (Bool.rec (motive := fun _ => Nat) 0 1 (Nat.beq z e)) 1 (Nat.beq (Nat.land z 31) t) := rfl
  rw [e1] at hz
  rcases arm hz with ⟨_, hz⟩ | ⟨h1, hz⟩
  ·obtain ⟨h1, hz⟩ := arm0 hz h0
   exact ⟨.inr (beq_iff.1 h1), hz.symm⟩
  ·rw [beq_iff, land_5] at h1
   exact ⟨.inl h1, hz.symm⟩
 have e1 : eqZ n t e x y = Bool.rec (motive := fun _ => Nat) (Bool.rec (motive := fun _ => Nat) 0 (tz t e x) (Nat.beq y n)) (Bool.rec (motive := fun _ => Nat) (tz t e y) 17 (Nat.beq y n)) (Nat.beq x n) := rfl
 rw [e1] at h
 rcases arm h with ⟨hx, h⟩ | ⟨hx, h⟩
 ·obtain ⟨hy, h⟩ := arm0 h h0
  obtain ⟨h1, h2⟩ := htz x h
  exact .inr (.inr ⟨beq_iff.1 hy, fun e => (by rw [e, Nat.beq_refl] at hx; cases hx), h1, h2⟩)
 ·rcases arm h with ⟨hy, h⟩ | ⟨hy, h⟩
  ·obtain ⟨h1, h2⟩ := htz y h
   exact .inr (.inl ⟨beq_iff.1 hx, fun e => (by rw [e, Nat.beq_refl] at hy; cases hy), h1, h2⟩)
  ·exact .inl ⟨beq_iff.1 hx, beq_iff.1 hy, h.symm⟩
theorem neZ_eq {n t e x y : Nat} (h : neZ n t e x y ≠ 0) : eqZ n t e x y ≠ 0 ∧ neZ n t e x y = notB (eqZ n t e x y) := by
 have e1 : neZ n t e x y = Bool.rec (motive := fun _ => Nat) (notB (eqZ n t e x y)) 0 (Nat.beq (eqZ n t e x y) 0) := rfl
 obtain ⟨h1, h2⟩ := arm_n e1.symm h
 exact ⟨fun h0 => (by rw [h0] at h1; cases h1), h2.symm⟩
theorem bin_nil {op : BinOp} {t : TypeId} {xo yo : Operand} {n tg' e x y : Nat} {u v : Value} (hop : op = .eql ∨ op = .neq)
  (hrun : ∀ b : Bool, eqZ n tg' e x y = sel b 17 1 → (Op.equal t u v).run P w = .ok b w ∧ (eqGuard op t xo yo u v).run P w = .ok () w ∧ (∀ k a, u ≠ .int k a) ∧ (∀ k a c, u ≠ .complex k a c) ∧ (∀ k a, u ≠ .float k a) ∧ (∀ s, u ≠ .string s)) :
  (op = .eql → eqZ n tg' e x y ≠ 0 → Gives P w G (binRun op t xo yo u v) (eqZ n tg' e x y)) ∧ (op = .neq → neZ n tg' e x y ≠ 0 → Gives P w G (binRun op t xo yo u v) (neZ n tg' e x y)) := by
 have key : eqZ n tg' e x y ≠ 0 → ∃ b : Bool, eqZ n tg' e x y = sel b 17 1 := by
  intro h0
  rcases eqZ_ways rfl h0 with ⟨_, _, h⟩ | ⟨_, _, _, h⟩ | ⟨_, _, _, h⟩ <;> clear hrun
  ·exact ⟨true, h⟩
  ·exact ⟨false, h⟩
  ·exact ⟨false, h⟩
 constructor
 ·rintro rfl h0
  obtain ⟨b, hb⟩ := key h0
  obtain ⟨h1, h2, h3, h4, h5, h6⟩ := hrun b hb
  refine gives_bool hb ?_
  have e2 : Go.binOp .eql t u v = (do pure (.bool (← Op.equal t u v)) : Sem Value) := by
   cases u <;> first | exact absurd rfl (h3 _ _) | exact absurd rfl (h4 _ _ _) | exact absurd rfl (h5 _ _) | exact absurd rfl (h6 _) | (cases v <;> rfl)
  simp [binRun, h2, e2, h1]
 ·rintro rfl h0
  obtain ⟨h7, h8⟩ := neZ_eq h0
  obtain ⟨b, hb⟩ := key h7
  obtain ⟨h1, h2, h3, h4, h5, h6⟩ := hrun b hb
  have e2 : Go.binOp .neq t u v = (do pure (.bool (!(← Op.equal t u v))) : Sem Value) := by
   cases u <;> first | exact absurd rfl (h3 _ _) | exact absurd rfl (h4 _ _ _) | exact absurd rfl (h5 _ _) | exact absurd rfl (h6 _) | (cases v <;> rfl)
  refine gives_bool (b := !b) (by rw [h8, hb]; cases b <;> rfl) ?_
  simp [binRun, h2, e2, h1]
theorem brel_code {c : Nat} {v : Value} (h : BRel G c v) (hc : c < 2 ^ 128) (h0 : c ≠ 0) : ∀ t, c % 32 = t → VInv G c v t := fun t ht => ht ▸ h.inv h0 hc
theorem bin_slice (op : BinOp) {t e' : TypeId} (hu : und X.ty t = .slice e') (hP : P.underlying t = some (.slice e')) (xo yo : Operand) {x y : Nat} {u v : Value} (hx : BRel G x u) (hy : BRel G y v) (hbx : x < 2 ^ 128) (hby : y < 2 ^ 128) :
  BinOk P (w := w) (G := G) op t xo yo u v (dBin X op t x y) := by
 have hd : dBin X op t x y = match op with
  | .eql => pure1 (eqZ 7 23 9 x y) 128 | _ => .bad := by unfold dBin; rw [hu]; rfl
 have e : ∀ act, dBin X op t x y = act → BinOk P (w := w) (G := G) op t xo yo u v act → BinOk P (w := w) (G := G) op t xo yo u v (dBin X op t x y) := fun act h1 h2 => h1 ▸ h2
 have hun : ∀ w, (underlying t).run P w = .ok (.slice e') w := fun w => by simp [underlying, hP]
 have other : ∀ {z : Nat} {v : Value}, BRel G z v → z < 2 ^ 128 → (z % 32 = 23 ∨ z = 9) → ∃ a n c, v = .slice (some a) n c := by
  intro z v h hz ho
  rcases ho with ho | rfl
  ·obtain ⟨b, ex, len, cap, sz, off, r, δ, zz, rc, _, _, _, _, _, _, _, _, _, _, rfl⟩ := brel_code h hz (by omega) 23 ho
   exact ⟨_, _, _, rfl⟩
  ·obtain ⟨_, a, k, rfl⟩ := brel_code h hz (by omega) 9 rfl
   exact ⟨_, _, _, rfl⟩
 have seven : ∀ {v : Value}, BRel G 7 v → v = .slice none 0 0 := fun h => (brel_code h (by decide) (by decide) 7 rfl).2
 cases op
 case eql =>
  refine e _ hd (.inr ⟨_, rfl, fun h0 => ?_⟩)
  refine (bin_nil P (G := G) (.inl rfl) fun b hb => ?_).1 rfl h0
  rcases eqZ_ways rfl h0 with ⟨rfl, rfl, h⟩ | ⟨rfl, _, h1, h⟩ | ⟨rfl, _, h1, h⟩ <;> rw [hb] at h
  ·have := seven hx; subst this; have := seven hy; subst this
   cases b <;> first | exact absurd h (by decide) | exact ⟨equal_run P fun d => by simp [Op.equalIn, hun], by simp [eqGuard], by simp, by simp, by simp, by simp⟩
  ·have := seven hx; subst this
   obtain ⟨a, n, c, rfl⟩ := other hy hby h1
   cases b <;> first | exact absurd h (by decide) | exact ⟨equal_run P fun d => by simp [Op.equalIn, hun], by simp [eqGuard], by simp, by simp, by simp, by simp⟩
  ·have := seven hy; subst this
   obtain ⟨a, n, c, rfl⟩ := other hx hbx h1
   cases b <;> first | exact absurd h (by decide) | exact ⟨equal_run P fun d => by simp [Op.equalIn, hun], by simp [eqGuard], by simp, by simp, by simp, by simp⟩
 all_goals exact e _ hd (.inl rfl)
theorem bin_ptr (op : BinOp) {t e' : TypeId} (hu : und X.ty t = .pointer e') (hP : P.underlying t = some (.pointer e')) (xo yo : Operand) {x y : Nat} {u v : Value} (hx : BRel G x u) (hy : BRel G y v) (hbx : x < 2 ^ 128) (hby : y < 2 ^ 128) :
  BinOk P (w := w) (G := G) op t xo yo u v (dBin X op t x y) := by
 have hd : dBin X op t x y = match op with
  | .eql => pure1 (eqZ 6 22 31 x y) 128 | .neq => pure1 (neZ 6 22 31 x y) 128 | _ => .bad := by unfold dBin; rw [hu]; rfl
 have e : ∀ act, dBin X op t x y = act → BinOk P (w := w) (G := G) op t xo yo u v act → BinOk P (w := w) (G := G) op t xo yo u v (dBin X op t x y) := fun act h1 h2 => h1 ▸ h2
 have hun : ∀ w, (underlying t).run P w = .ok (.pointer e') w := fun w => by simp [underlying, hP]
 have other : ∀ {z : Nat} {v : Value}, BRel G z v → z < 2 ^ 128 → (z % 32 = 22 ∨ z = 31) → ∃ a, v = .pointer (some a) := by
  intro z v h hz ho
  rcases ho with ho | rfl
  ·obtain ⟨b, off, r, δ, zz, _, _, _, rfl⟩ := brel_code h hz (by omega) 22 ho
   exact ⟨_, rfl⟩
  ·exact (brel_code h hz (by omega) 31 rfl).elim
 have six : ∀ {v : Value}, BRel G 6 v → v = .pointer none := fun h => (brel_code h (by decide) (by decide) 6 rfl).2
 have main : ∀ op, (op = .eql ∨ op = .neq) → eqZ 6 22 31 x y ≠ 0 → ∀ b : Bool, eqZ 6 22 31 x y = sel b 17 1 → (Op.equal t u v).run P w = .ok b w ∧ (eqGuard op t xo yo u v).run P w = .ok () w ∧ (∀ k a, u ≠ .int k a) ∧ (∀ k a c, u ≠ .complex k a c) ∧ (∀ k a, u ≠ .float k a) ∧ (∀ s, u ≠ .string s) := by
  intro op hop h0 b hb
  have hg : ∀ u v, (∀ cs, u ≠ .agg cs) → u ≠ .nilIface → (eqGuard op t xo yo u v).run P w = .ok () w := by
   intro u v h1 h2
   rcases hop with rfl | rfl <;> (cases u <;> first | exact absurd rfl (h1 _) | exact absurd rfl h2 | simp [eqGuard])
  rcases eqZ_ways rfl h0 with ⟨rfl, rfl, h⟩ | ⟨rfl, _, h1, h⟩ | ⟨rfl, _, h1, h⟩ <;> rw [hb] at h
  ·have := six hx; subst this; have := six hy; subst this
   refine ⟨?_, hg _ _ (by simp) (by simp), by simp, by simp, by simp, by simp⟩
   cases b <;> first | exact absurd h (by decide) | exact equal_run P fun d => by simp [Op.equalIn, hun]
  ·have := six hx; subst this
   obtain ⟨a, rfl⟩ := other hy hby h1
   refine ⟨?_, hg _ _ (by simp) (by simp), by simp, by simp, by simp, by simp⟩
   cases b <;> first | exact absurd h (by decide) | exact equal_run P fun d => by simp [Op.equalIn, hun]
  ·have := six hy; subst this
   obtain ⟨a, rfl⟩ := other hx hbx h1
   refine ⟨?_, hg _ _ (by simp) (by simp), by simp, by simp, by simp, by simp⟩
   cases b <;> first | exact absurd h (by decide) | exact equal_run P fun d => by simp [Op.equalIn, hun]
 cases op
 case eql =>
  refine e _ hd (.inr ⟨_, rfl, fun h0 => ?_⟩)
  exact (bin_nil P (G := G) (.inl rfl) fun b hb => main _ (.inl rfl) h0 b hb).1 rfl h0
 case neq =>
  refine e _ hd (.inr ⟨_, rfl, fun h0 => ?_⟩)
  exact (bin_nil P (G := G) (.inr rfl) fun b hb => main _ (.inr rfl) (neZ_eq h0).1 b hb).2 rfl h0
 all_goals exact e _ hd (.inl rfl)
theorem bin_map (op : BinOp) {t k' e' : TypeId} (hu : und X.ty t = .map k' e') (hP : P.underlying t = some (.map k' e')) (xo yo : Operand) {x y : Nat} {u v : Value} (hx : BRel G x u) (hy : BRel G y v) (hbx : x < 2 ^ 128) (hby : y < 2 ^ 128) :
  BinOk P (w := w) (G := G) op t xo yo u v (dBin X op t x y) := by
 have hd : dBin X op t x y = match op with
  | .neq => pure1 (neZ 10 26 31 x y) 128 | _ => .bad := by unfold dBin; rw [hu]; rfl
 have e : ∀ act, dBin X op t x y = act → BinOk P (w := w) (G := G) op t xo yo u v act → BinOk P (w := w) (G := G) op t xo yo u v (dBin X op t x y) := fun act h1 h2 => h1 ▸ h2
 have hun : ∀ w, (underlying t).run P w = .ok (.map k' e') w := fun w => by simp [underlying, hP]
 have other : ∀ {z : Nat} {v : Value}, BRel G z v → z < 2 ^ 128 → (z % 32 = 26 ∨ z = 31) → ∃ r, v = .map (some r) := by
  intro z v h hz ho
  rcases ho with ho | rfl
  ·obtain ⟨b, r, _, _, _, rfl⟩ := brel_code h hz (by omega) 26 ho
   exact ⟨_, rfl⟩
  ·exact (brel_code h hz (by omega) 31 rfl).elim
 have ten : ∀ {v : Value}, BRel G 10 v → v = .map none := fun h => (brel_code h (by decide) (by decide) 10 rfl).2
 cases op
 case neq =>
  refine e _ hd (.inr ⟨_, rfl, fun h0 => ?_⟩)
  have h0' := (neZ_eq h0).1
  refine (bin_nil P (G := G) (.inr rfl) fun b hb => ?_).2 rfl h0
  rcases eqZ_ways rfl h0' with ⟨rfl, rfl, h⟩ | ⟨rfl, _, h1, h⟩ | ⟨rfl, _, h1, h⟩ <;> rw [hb] at h
  ·have := ten hx; subst this; have := ten hy; subst this
   cases b <;> first | exact absurd h (by decide) | exact ⟨equal_run P fun d => by simp [Op.equalIn, hun], by simp [eqGuard], by simp, by simp, by simp, by simp⟩
  ·have := ten hx; subst this
   obtain ⟨r, rfl⟩ := other hy hby h1
   cases b <;> first | exact absurd h (by decide) | exact ⟨equal_run P fun d => by simp [Op.equalIn, hun], by simp [eqGuard], by simp, by simp, by simp, by simp⟩
  ·have := ten hy; subst this
   obtain ⟨r, rfl⟩ := other hx hbx h1
   cases b <;> first | exact absurd h (by decide) | exact ⟨equal_run P fun d => by simp [Op.equalIn, hun], by simp [eqGuard], by simp, by simp, by simp, by simp⟩
 all_goals exact e _ hd (.inl rfl)
theorem bin_iface (op : BinOp) {t : TypeId} {ms : Array (String × TypeId)} (hu : und X.ty t = .interface ms) (hP : P.underlying t = some (.interface ms)) (xo yo : Operand) (hk : (Region.isConst xo || Region.isConst yo) = true)
  {x y : Nat} {u v : Value} (hx : BRel G x u) (hy : BRel G y v) (hbx : x < 2 ^ 128) (hby : y < 2 ^ 128) :
  BinOk P (w := w) (G := G) op t xo yo u v (dBin X op t x y) := by
 have hd : dBin X op t x y = match op with
  | .eql => pure1 (eqZ 14 30 31 x y) 128 | .neq => pure1 (neZ 14 30 31 x y) 128 | _ => .bad := by unfold dBin; rw [hu]; rfl
 have e : ∀ act, dBin X op t x y = act → BinOk P (w := w) (G := G) op t xo yo u v act → BinOk P (w := w) (G := G) op t xo yo u v (dBin X op t x y) := fun act h1 h2 => h1 ▸ h2
 have hun : ∀ w, (underlying t).run P w = .ok (.interface ms) w := fun w => by simp [underlying, hP]
 have other : ∀ {z : Nat} {v : Value}, BRel G z v → z < 2 ^ 128 → (z % 32 = 30 ∨ z = 31) → ∃ t' v', v = .iface t' v' := by
  intro z v h hz ho
  rcases ho with ho | rfl
  ·obtain ⟨b, t', v', _, _, _, rfl⟩ := brel_code h hz (by omega) 30 ho
   exact ⟨_, _, rfl⟩
  ·exact (brel_code h hz (by omega) 31 rfl).elim
 have c14 : ∀ {v : Value}, BRel G 14 v → v = .nilIface := fun h => (brel_code h (by decide) (by decide) 14 rfl).2
 have main : ∀ op, (op = .eql ∨ op = .neq) → eqZ 14 30 31 x y ≠ 0 → ∀ b : Bool, eqZ 14 30 31 x y = sel b 17 1 → (Op.equal t u v).run P w = .ok b w ∧ (eqGuard op t xo yo u v).run P w = .ok () w ∧ (∀ k a, u ≠ .int k a) ∧ (∀ k a c, u ≠ .complex k a c) ∧ (∀ k a, u ≠ .float k a) ∧ (∀ s, u ≠ .string s) := by
  intro op hop h0 b hb
  rcases eqZ_ways rfl h0 with ⟨rfl, rfl, h⟩ | ⟨rfl, _, h1, h⟩ | ⟨rfl, _, h1, h⟩ <;> rw [hb] at h
  ·have := c14 hx; subst this; have := c14 hy; subst this
   refine ⟨?_, ?_, by simp, by simp, by simp, by simp⟩
   ·cases b <;> first | exact absurd h (by decide) | exact equal_run P fun d => by simp [Op.equalIn, hun]
   ·rcases hop with rfl | rfl
    ·cases xo <;> cases yo <;> simp [Region.isConst] at hk <;> simp [eqGuard]
    ·cases xo <;> cases yo <;> simp [Region.isConst] at hk <;> simp [eqGuard]
  ·have := c14 hx; subst this
   obtain ⟨t', v', rfl⟩ := other hy hby h1
   refine ⟨?_, ?_, by simp, by simp, by simp, by simp⟩
   ·cases b <;> first | exact absurd h (by decide) | exact equal_run P fun d => by simp [Op.equalIn, hun]
   ·rcases hop with rfl | rfl <;> simp [eqGuard]
  ·have := c14 hy; subst this
   obtain ⟨t', v', rfl⟩ := other hx hbx h1
   refine ⟨?_, ?_, by simp, by simp, by simp, by simp⟩
   ·cases b <;> first | exact absurd h (by decide) | exact equal_run P fun d => by simp [Op.equalIn, hun]
   ·rcases hop with rfl | rfl <;> simp [eqGuard]
 cases op
 case eql =>
  refine e _ hd (.inr ⟨_, rfl, fun h0 => ?_⟩)
  exact (bin_nil P (G := G) (.inl rfl) fun b hb => main _ (.inl rfl) h0 b hb).1 rfl h0
 case neq =>
  refine e _ hd (.inr ⟨_, rfl, fun h0 => ?_⟩)
  exact (bin_nil P (G := G) (.inr rfl) fun b hb => main _ (.inr rfl) (neZ_eq h0).1 b hb).2 rfl h0
 all_goals exact e _ hd (.inl rfl)
end
end Go.Vm
namespace Go.Vm
open Go
section
variable (X : GX) (P : Program) {w : World} {G : Gh} {S : St}
theorem num_eq {k : IntKind} (hk : kTag k ≠ 0) {x y : Nat} {u v : Value} (h : is2 (kTag k) x y = true) (hx : BRel G x u) (hy : BRel G y v) (hbx : x < 2 ^ 128) (hby : y < 2 ^ 128) :
  ∃ n m : Int, u = .int k n ∧ v = .int k m ∧ Nat.beq x y = (n == m) := by
 have ht5 := kTag_le k
 obtain ⟨h1, h2⟩ := is2_of (by omega) h
 by_cases hk' : k = .i64
 ·subst hk'
  obtain ⟨n, h3, h4, h5⟩ := brel_i hx hbx h1
  obtain ⟨m, h6, h7, h8⟩ := brel_i hy hby h2
  exact ⟨n, m, h3, h6, eqI_code h4 h7⟩
 ·have fixt : ∀ {c : Nat} {v : Value}, VInv G c v (c % 32) → c % 16 = kTag k → c % 32 = kTag k := by
   intro c v hi h
   rcases (by omega : c % 32 = kTag k ∨ c % 32 = kTag k + 16) with h3 | h3
   ·exact h3
   ·exfalso
    rw [h3] at hi
    cases k <;> simp only [kTag] at hk <;> first | exact absurd rfl hk | exact absurd rfl hk' | exact hi
  have hx0 : x ≠ 0 := by intro h; subst h; omega
  have hy0 : y ≠ 0 := by intro h; subst h; omega
  obtain ⟨n, h3, h4, h5⟩ := brel_u hk hk' hx hbx (fixt (hx.inv hx0 hbx) h1)
  obtain ⟨m, h6, h7, h8⟩ := brel_u hk hk' hy hby (fixt (hy.inv hy0 hby) h2)
  refine ⟨n, m, h3, h6, ?_⟩
  by_cases e : n = m
  ·subst e; rw [h4, h7, Nat.beq_refl]; simp
  ·rw [beq_ne (by omega)]
   have : ((n : Int) == (m : Int)) = false := by simp; omega
   rw [this]
theorem run_isAgg (hX : XOk X P) {t : TypeId} (hd : und X.ty t ≠ .invalid) (w : World) : (Go.isAgg t).run P w = .ok (isAg X.ty t) w := by
 have h := hX.run_und hd w
 unfold Go.isAgg isAg
 simp only [Sem.run_bind, h, Result.andThen_ok]
 cases und X.ty t <;> rfl
theorem flag_und {t : TypeId} {k : Nat} (h : flagOf X.ty t = some k) : (∃ kk, und X.ty t = .int kk ∧ kTag kk ≠ 0 ∧ k = kTag kk) ∨ (und X.ty t = .bool ∧ k = 1) ∨ (und X.ty t = .string ∧ k = 0) := by
 unfold flagOf at h
 split at h
 ·rename_i kk hu
  split at h
  ·cases h
  ·rename_i hk; cases h; exact .inl ⟨kk, hu, hk, rfl⟩
 ·rename_i hu; cases h; exact .inr (.inl ⟨hu, rfl⟩)
 ·rename_i hu; cases h; exact .inr (.inr ⟨hu, rfl⟩)
 ·cases h
theorem cell_ok (hX : XOk X P) (hr : HR X G S w) (d : Nat) {t : TypeId} {k : Nat} (hf : flagOf X.ty t = some k) {x y : Nat} {a b : Value} (hx : CRel G x a) (hy : CRel G y b) (hbx : x < 2 ^ 128) (hby : y < 2 ^ 128) (h0 : eqC k x y S ≠ 0) :
  ∃ r : Bool, eqC k x y S = sel r 17 1 ∧ (Op.equalIn (d + 1) t a b).run P w = .ok r w := by
 have e : eqC k x y S = Bool.rec (motive := fun _ => Nat) (Bool.rec (motive := fun _ => Nat) 0 (bo (Nat.beq x y)) (is2 k x y)) (eqT x y S) (Nat.beq k 0) := rfl
 have bx : BRel G x a := by
  rcases hx.2 with h | h
  ·rw [h]; exact .none _
  ·exact .one _ _ h hbx
 have bY : BRel G y b := by
  rcases hy.2 with h | h
  ·rw [h]; exact .none _
  ·exact .one _ _ h hby
 rcases flag_und X hf with ⟨kk, hu, hk, rfl⟩ | ⟨hu, rfl⟩ | ⟨hu, rfl⟩
 ·rw [beq_ne hk] at e
  dsimp only at e
  rw [e] at h0 ⊢
  obtain ⟨h1, h2⟩ := arm0 rfl h0
  obtain ⟨n, m, rfl, rfl, h3⟩ := num_eq hk h1 bx bY hbx hby
  refine ⟨n == m, ?_, ?_⟩
  ·rw [← h2, h3, bo_eq]
  ·have := hX.und (t := t) (by rw [hu]; simp)
   rw [hu] at this
   exact run_equalIn_int w d t kk kk n m this
 ·rw [show Nat.beq 1 0 = false from rfl] at e
  dsimp only at e
  rw [e] at h0 ⊢
  obtain ⟨h1, h2⟩ := arm0 rfl h0
  obtain ⟨h3, h4⟩ := is2_of (by decide) h1
  obtain ⟨p, rfl, hx'⟩ := brel_b bx hbx h3
  obtain ⟨q, rfl, hy'⟩ := brel_b bY hby h4
  refine ⟨p == q, ?_, ?_⟩
  ·rw [← h2, hx', hy', beq_bool, bo_eq]
  ·have := hX.und (t := t) (by rw [hu]; simp)
   rw [hu] at this
   exact run_equalIn_bool' w d t p q this
 ·rw [show Nat.beq 0 0 = true from rfl] at e
  dsimp only at e
  rw [e] at h0 ⊢
  have := hX.und (t := t) (by rw [hu]; simp)
  rw [hu] at this
  rcases txt_ok X hr bx hbx 0 (fun a => txt S y 0 fun b => bo (Bool.rec (motive := fun _ => Bool) false (Nat.beq a b) (Nat.beq (lenT x) (lenT y)))) with h1 | ⟨s, na, rfl, h2, h3, h4, _⟩
  ·exact absurd h1 h0
  ·have e2 : eqT x y S = txt S y 0 fun b => bo (Bool.rec (motive := fun _ => Bool) false (Nat.beq na b) (Nat.beq (lenT x) (lenT y))) := h4
   rw [e2] at h0 ⊢
   rcases txt_ok X hr bY hby 0 (fun b => bo (Bool.rec (motive := fun _ => Bool) false (Nat.beq na b) (Nat.beq (lenT x) (lenT y)))) with h5 | ⟨r, nb, rfl, h6, h7, h8, _⟩
   ·exact absurd h5 h0
   ·rw [h8]
    refine ⟨s.toList == r.toList, ?_, run_equalIn_string w d t s r this⟩
    rw [bo_eq]
    congr 1
    rw [Lib.toList_data, Lib.toList_data, h3, h7]
    by_cases hl : s.data.toList.length = r.data.toList.length
    ·rw [hl, Nat.beq_refl]; exact h2.inj h6 hl
    ·rw [beq_ne hl]
     have : s.data.toList ≠ r.data.toList := fun e => hl (by rw [e])
     show false = _
     symm; simpa using this
theorem g_shift (x i : Nat) : g (x >>> (128 * i)) 0 = cell x i := by
 rw [g_eq]
 unfold cell
 apply Nat.eq_of_testBit_eq
 intro j
 rw [testBit_gw, testBit_gw, Nat.testBit_shiftRight]
 simp [Nat.add_comm]
theorem shift_shift (x i : Nat) : Nat.shiftRight (x >>> (128 * i)) 128 = x >>> (128 * (i + 1)) := by
 show (x >>> (128 * i)) >>> 128 = _
 rw [← Nat.shiftRight_add]
 congr 1
theorem fields_ok (hX : XOk X P) (hr : HR X G S w) (d : Nat) {xs ys : Array Value} {x y : Nat} (hx : Row G x xs) (hy : Row G y ys) : ∀ (fs : List Field) (off : Nat) (l : List Nat), flagsL X.ty off fs = some l → (∀ f ∈ fs, f.name ≠ "_") →
  off + fs.length ≤ xs.size → off + fs.length ≤ ys.size → eqL S l (x >>> (128 * off)) (y >>> (128 * off)) ≠ 0 →
  ∃ r : Bool, eqL S l (x >>> (128 * off)) (y >>> (128 * off)) = sel r 17 1 ∧ (Op.eqFields (d + 1) xs ys fs).run P w = .ok r w
 | [], off, l, hf, _, _, _, _ => by
  simp only [flagsL, Option.some.injEq] at hf
  subst hf
  exact ⟨true, rfl, rfl⟩
 | f :: fs, off, l, hf, hn, hsx, hsy, h0 => by
  unfold flagsL at hf
  cases hff : flagOf X.ty f.type with
  | none => rw [hff] at hf; cases hf
  | some k =>
   cases hfl : flagsL X.ty (off + 1) fs with
   | none => rw [hff, hfl] at hf; cases hf
   | some l' =>
    rw [hff, hfl] at hf
    dsimp only at hf
    split at hf
    ·rename_i hof
     cases hf
     obtain ⟨ho1, ho2⟩ := hof
     have hlt : off < xs.size := by simp at hsx; omega
     have hlt' : off < ys.size := by simp at hsy; omega
     have e : ∀ S x y, eqL S (k :: l') x y = (fun c => Bool.rec (motive := fun _ => Nat) c (eqL S l' (Nat.shiftRight x 128) (Nat.shiftRight y 128)) (Nat.beq c 17)) (eqC k (g x 0) (g y 0) S) := fun _ _ _ => rfl
     rw [e] at h0 ⊢
     dsimp only at h0 ⊢
     rw [g_shift, g_shift, shift_shift, shift_shift] at h0 ⊢
     have hc0 : eqC k (cell x off) (cell y off) S ≠ 0 := by
      intro h; rw [h] at h0; exact h0 rfl
     have hcx := hx off xs[off] (Array.getElem?_eq_getElem hlt)
     have hcy := hy off ys[off] (Array.getElem?_eq_getElem hlt')
     obtain ⟨r, h1, h2⟩ := cell_ok X P hX hr d hff hcx hcy (cell_lt _ _) (cell_lt _ _) hc0
     have hag : isAg X.ty f.type = false := by
      unfold isAg
      rcases flag_und X hff with ⟨kk, hu, _⟩ | ⟨hu, _⟩ | ⟨hu, _⟩ <;> rw [hu]
     have hinv : und X.ty f.type ≠ .invalid := by
      rcases flag_und X hff with ⟨kk, hu, _⟩ | ⟨hu, _⟩ | ⟨hu, _⟩ <;> rw [hu] <;> simp
     have hpart : ∀ (zs : Array Value) (hz : off < zs.size), (part f.type zs f.offset).run P w = .ok zs[off] w := by
      intro zs hz
      unfold part
      simp only [Sem.run_bind, run_isAgg X P hX hinv w, Result.andThen_ok, hag, Bool.false_eq_true, if_false, ho1, Array.getElem?_eq_getElem hz, Sem.run_pure]
     have hstep : (Op.eqFields (d + 1) xs ys (f :: fs)).run P w = if (!r) = true then .ok false w else (Op.eqFields (d + 1) xs ys fs).run P w := by
      rw [Op.eqFields, if_pos (hn f (List.mem_cons_self ..))]
      simp only [Sem.run_bind, hpart xs hlt, hpart ys hlt', Result.andThen_ok, h2, Sem.run_ite, Sem.run_pure]
     rw [h1] at h0 ⊢
     cases r with
     | false => exact ⟨false, rfl, by rw [hstep]; rfl⟩
     | true =>
      have hih := fields_ok hX hr d hx hy fs (off + 1) l' hfl (fun f hf => hn f (List.mem_cons_of_mem _ hf)) (by simp at hsx; omega) (by simp at hsy; omega) h0
      obtain ⟨r', h3, h4⟩ := hih
      exact ⟨r', h3, by rw [hstep]; exact h4⟩
    ·cases hf
theorem brel_agg {c W : Nat} {v : Value} (h : BRel G c v) (ha : isAgg c W = true) (hW : 128 ≤ W) : ∃ bits cs, v = .agg cs ∧ Row G bits cs ∧ c = bits + 2 ^ W ∧ W = 128 * cs.size ∧ bits < 2 ^ W := by
 obtain ⟨x, hx, hc⟩ := (isAgg_iff _ _).1 ha
 have hp := Nat.two_pow_pos W
 cases h with
 | none => omega
 | one _ _ h hlt =>
  have : 2 ^ 128 ≤ 2 ^ W := Nat.pow_le_pow_right (by decide) hW
  omega
 | agg bits cs hr hs hb =>
  have hWe : W = 128 * cs.size := by
   rcases Nat.lt_trichotomy W (128 * cs.size) with h | h | h
   ·have h1 : 2 ^ (W + 1) ≤ 2 ^ (128 * cs.size) := Nat.pow_le_pow_right (by decide) h
    rw [Nat.pow_succ] at h1; omega
   ·exact h
   ·have h1 : 2 ^ (128 * cs.size + 1) ≤ 2 ^ W := Nat.pow_le_pow_right (by decide) h
    rw [Nat.pow_succ] at h1; omega
  rw [hWe]
  exact ⟨bits, cs, rfl, hr, rfl, rfl, hb⟩
theorem row_top {bits : Nat} {cs : Array Value} (h : Row G bits cs) (hb : bits < 2 ^ (128 * cs.size)) : Row G (bits + 2 ^ (128 * cs.size)) cs := by
 intro i v hv
 have hi : i < cs.size := (Array.getElem?_eq_some_iff.1 hv).1
 have := h i v hv
 have e : bits + 2 ^ (128 * cs.size) = bits + 1 <<< (128 * cs.size) := by rw [Nat.shiftLeft_eq, Nat.one_mul]
 rw [e, cell_cat _ _ _ _ hb, if_pos hi]
 exact this
theorem eqS_ok (hX : XOk X P) (hr : HR X G S w) {t : TypeId} {l : List Nat} (he : t ∈ X.eqs) (hl : flags X.ty t = some l) {x y : Nat} {u v : Value} (hx : BRel G x u) (hy : BRel G y v) (h0 : eqS l (128 * szOf X.ty t) x y S ≠ 0) :
  ∃ cs ds r, u = .agg cs ∧ v = .agg ds ∧ eqS l (128 * szOf X.ty t) x y S = sel r 17 1 ∧ ∀ d, (Op.equalIn (d + 2) t u v).run P w = .ok r w := by
 have e : eqS l (128 * szOf X.ty t) x y S = Bool.rec (motive := fun _ => Nat) 0 (eqL S l x y) (Bool.rec (motive := fun _ => Bool) false (isAgg y (128 * szOf X.ty t)) (isAgg x (128 * szOf X.ty t))) := by rw [← eqL_eq]; rfl
 rw [e] at h0 ⊢
 obtain ⟨h1, h2⟩ := arm0 rfl h0
 obtain ⟨h3, h4⟩ := and_of' h1
 rw [← h2] at h0 ⊢
 obtain ⟨hs1, hs2, hs3⟩ := hX.eqs t he
 cases hu : und X.ty t <;> simp only [flags, hu] at hl <;> first | (cases hl; done) | skip
 rename_i fs
 split at hl
 ·rename_i hlen
  have hP := hX.und (t := t) (by rw [hu]; simp)
  rw [hu] at hP
  have hfo : P.fieldsOf t = fs := by unfold Program.fieldsOf; rw [hP]
  rw [hfo] at hs3
  obtain ⟨hlen, hz⟩ := hlen
  have hW : 128 ≤ 128 * szOf X.ty t := by omega
  ·obtain ⟨bx, cs, rfl, r1, rfl, w1, b1⟩ := brel_agg hx h4 hW
   obtain ⟨by_, ds, rfl, r2, rfl, w2, b2⟩ := brel_agg hy h3 hW
   rw [w1] at b1
   rw [w2] at b2
   have hcs : cs.size = szOf X.ty t := by omega
   have hds : ds.size = szOf X.ty t := by omega
   have key := fun d => fields_ok X P hX hr d (row_top r1 b1) (row_top r2 b2) fs.toList 0 l hl hs3 (by omega) (by omega)
   rw [← w1, ← w2] at key
   simp only [Nat.mul_zero, Nat.shiftRight_zero] at key
   obtain ⟨r, h5, _⟩ := key 0 h0
   refine ⟨cs, ds, r, rfl, rfl, h5, fun d => ?_⟩
   rw [run_equalIn_struct w (d + 1) t cs ds (by rw [hfo]; exact hP) hs1, hfo]
   obtain ⟨r', h6, h7⟩ := key d h0
   have : r' = r := by
    rw [h5] at h6
    cases r <;> cases r' <;> first | rfl | exact absurd h6 (by decide)
   rw [← this]; exact h7
 ·cases hl
end
end Go.Vm
namespace Go.Vm
open Go
def GivesB (P : Program) (w : World) (G : Gh) (s : Sem Value) (c bd : Nat) : Prop := ∃ u, s.run P w = .ok u w ∧ BRel G c u ∧ c < 2 ^ bd
theorem Gives.b {P : Program} {w : World} {G : Gh} {s : Sem Value} {c : Nat} (h : Gives P w G s c) : GivesB P w G s c 128 := h
theorem gives_v {P : Program} {w : World} {G : Gh} {s : Sem Value} {c : Nat} {u : Value} (h : VRel G c u) (hc : c < 2 ^ 128) (hr : s.run P w = .ok u w) : Gives P w G s c := ⟨u, hr, .one _ _ h hc, hc⟩
theorem two_code {G : Gh} {c : Nat} {v : Value} (h : BRel G c v) (hc : c < 2 ^ 128) (ht : c % 32 = 2) : ∃ n : Nat, v = .int .i64 n ∧ va c = n ∧ n < 9223372036854775808 := by
 have hi := h.inv (by omega) hc
 rw [ht] at hi
 obtain ⟨n, h1, h2, h3⟩ := hi
 exact ⟨n, h1, by rw [va_eq]; omega, h3⟩
section
variable {b ex len cap sz off : Nat}
theorem sl_len (hb : b < 16777216) (he : ex ≤ 1) (hl : len ≤ cap) (hc : cap < 1048576) (hs : sz < 1024) : lenS (slC b ex len cap sz off) = len := by
 have e : ∀ c, lenS c = c / 1073741824 % 1048576 := fun c => by unfold lenS; rw [land_20, shr_eq]
 rw [e]; unfold slC; omega
theorem sl_cap (hb : b < 16777216) (he : ex ≤ 1) (hl : len ≤ cap) (hc : cap < 1048576) (hs : sz < 1024) : capS (slC b ex len cap sz off) = cap := by
 have e : ∀ c, capS c = c / 1125899906842624 % 1048576 := fun c => by unfold capS; rw [land_20, shr_eq]
 rw [e]; unfold slC; omega
theorem sl_sz (hb : b < 16777216) (he : ex ≤ 1) (hl : len ≤ cap) (hc : cap < 1048576) (hs : sz < 1024) : szS (slC b ex len cap sz off) = sz := by
 have e : ∀ c, szS c = c / 1180591620717411303424 % 1024 := fun c => by unfold szS; rw [land_10, shr_eq]
 rw [e]; unfold slC; omega
theorem sl_off (hb : b < 16777216) (he : ex ≤ 1) (hl : len ≤ cap) (hc : cap < 1048576) (hs : sz < 1024) : offS (slC b ex len cap sz off) = off := by
 have e : ∀ c, offS c = c / 1208925819614629174706176 := fun c => by unfold offS; rw [shr_eq]
 rw [e]; unfold slC; omega
theorem sl_ex (hb : b < 16777216) (he : ex ≤ 1) (hl : len ≤ cap) (hc : cap < 1048576) (hs : sz < 1024) : Nat.land (Nat.shiftRight (slC b ex len cap sz off) 29) 1 = ex := by
 rw [land_1, shr_eq, show (2 : Nat) ^ 29 = 536870912 from rfl]; unfold slC; omega
theorem sl_blk (hb : b < 16777216) (he : ex ≤ 1) : blkOf (slC b ex len cap sz off) = b := by
 rw [blkOf_eq]; unfold slC; omega
theorem sl_low (hb : b < 16777216) : slC b ex len cap sz off % 536870912 = 23 + 32 * b := by
 unfold slC; omega
theorem sl_tag : slC b ex len cap sz off % 32 = 23 := by unfold slC; omega
theorem exS_eq (hb : b < 16777216) (he : ex ≤ 1) (hl : len ≤ cap) (hc : cap < 1048576) (hs : sz < 1024) : exS (slC b ex len cap sz off) = Nat.beq ex 1 := by
 unfold exS; rw [sl_ex hb he hl hc hs]
end
theorem isSl_iff (c : Nat) : isSl c = true ↔ c % 32 = 23 := by unfold isSl; rw [beq_iff, tg_eq]
theorem none_iff (c : Nat) : none? c = true ↔ c = 7 ∨ c = 9 := by
 unfold none?
 cases h : Nat.beq c 7 with
 | true => exact ⟨fun _ => .inl (beq_iff.1 h), fun _ => rfl⟩
 | false =>
  constructor
  ·intro h'; exact .inr (beq_iff.1 h')
  ·rintro (rfl | rfl)
   ·cases h
   ·rfl
theorem ptr_blk {b off : Nat} (hb : b < 16777216) : blkOf (ptrC b off) = b := by rw [blkOf_eq]; unfold ptrC; omega
theorem ptr_off {b off : Nat} (hb : b < 16777216) : offOf (ptrC b off) = off := by rw [offOf_eq]; unfold ptrC; omega
theorem ckSl_eq {b ex len cap sz off c : Nat} (h : ckSl b ex len cap sz off = c) (h0 : c ≠ 0) : off ≤ 16777215 ∧ cap ≤ 1048575 ∧ c = slC b ex len cap sz off := by
 obtain ⟨h1, h2⟩ := arm0 (show Bool.rec (motive := fun _ => Nat) 0 (mkSl b ex len cap sz off) (Bool.rec (motive := fun _ => Bool) false (Nat.ble off 16777215) (room cap)) = c from h) h0
 obtain ⟨h3, h4⟩ := and_of' h1
 exact ⟨ble_iff.1 h3, room_le h4, by rw [← mkSl_eq]; exact h2.symm⟩
section
variable (X : GX) (P : Program) {w : World} {G : Gh} {S : St}
theorem op_notB {x : Nat} {u : Value} (hx : BRel G x u) (h0 : notB x ≠ 0) : Gives P w G (Op.unary .not u) (notB x) := by
 have e : notB x = Bool.rec (motive := fun _ => Nat) (Bool.rec (motive := fun _ => Nat) 0 17 (Nat.beq x 1)) 1 (Nat.beq x 17) := rfl
 rw [e] at h0 ⊢
 rcases arm (c := Nat.beq x 17) (a := Bool.rec (motive := fun _ => Nat) 0 17 (Nat.beq x 1)) (b := 1) rfl with ⟨h1, h2⟩ | ⟨h1, h2⟩
 ·rw [← h2] at h0 ⊢
  obtain ⟨h3, h4⟩ := arm0 rfl h0
  have := beq_iff.1 h3; subst this
  obtain ⟨_, rfl⟩ := brel_code hx (by decide) (by decide) 1 rfl
  exact gives_bool (b := true) rfl rfl
 ·have := beq_iff.1 h1; subst this
  obtain ⟨_, rfl⟩ := brel_code hx (by decide) (by decide) 17 rfl
  exact gives_bool (b := false) rfl rfl
theorem op_negI {x : Nat} {u : Value} (hx : BRel G x u) (hbx : x < 2 ^ 128) (h0 : negI x ≠ 0) : Gives P w G (Op.unary .neg u) (negI x) := by
 have e : negI x = subI 2 x := rfl
 have e2 : subI 2 x = Bool.rec (motive := fun _ => Nat) 0 (Bool.rec (motive := fun _ => Nat) (down (Nat.sub (Nat.add (up 2) 18446744073709551616) (up x))) (Nat.add (Nat.sub 2 x) 2) (Bool.rec false (Nat.ble x 2) (nn2 2 2 x))) (is2 2 2 x) := rfl
 rw [e] at h0 ⊢
 obtain ⟨n, rfl, h2, h3⟩ := brel_i hx hbx (is2_of (by decide) (arm0 e2.symm h0).1).2
 obtain ⟨h4, h5⟩ := subI_eq (n := 0) (m := n) rfl h2 (by omega) h3 rfl h0
 exact gives_int h5 h4 (by simp [Op.unary, Op.intArith, ← Int.zero_sub, wrap_fits h5])
theorem allOnes_xor {b n : Nat} (h : n < 2 ^ b) : (2 ^ b - 1) ^^^ n = 2 ^ b - 1 - n := by
 apply Nat.eq_of_testBit_eq
 intro i
 rw [Nat.testBit_xor, Nat.testBit_two_pow_sub_one]
 have e : 2 ^ b - 1 - n = 2 ^ b - (n + 1) := by omega
 rw [e, Nat.testBit_two_pow_sub_succ h]
 by_cases hi : i < b
 ·simp [hi]
 ·have : n.testBit i = false := Nat.testBit_lt_two_pow (Nat.lt_of_lt_of_le h (Nat.pow_le_pow_right (by decide) (by omega)))
  simp [hi, this]
theorem op_comU {k : IntKind} (hk : kTag k ≠ 0) (hk' : k ≠ .i64) {x : Nat} {u : Value} (hx : BRel G x u) (hbx : x < 2 ^ 128) (h0 : comU (kTag k) (kMod k) x ≠ 0) : Gives P w G (Op.unary .xor u) (comU (kTag k) (kMod k) x) := by
 have ht5 := kTag_le k
 have ht : kTag k < 32 := by omega
 obtain ⟨h1, h2⟩ := arm0 (show Bool.rec (motive := fun _ => Nat) 0 (mkN (kTag k) (Nat.sub (Nat.sub (kMod k) 1) (va x))) (nn (kTag k) x) = comU (kTag k) (kMod k) x from rfl) h0
 obtain ⟨n, rfl, h3, h4⟩ := brel_u hk hk' hx hbx (nn_iff.1 h1)
 rw [← h2, h3, va_tag ht]
 have hlt : kMod k - 1 - n < kMod k := by omega
 refine gives_int (k := k) (n := ((kMod k - 1 - n : Nat) : Int)) (fits_u hk hk' hlt) rfl ?_
 have hs : k.signed = false := by cases k <;> simp only [kTag] at hk <;> first | exact absurd rfl hk | exact absurd rfl hk' | rfl
 have hm : k.max = ((kMod k - 1 : Nat) : Int) := by cases k <;> simp only [kTag] at hk <;> first | exact absurd rfl hk | exact absurd rfl hk' | rfl
 have hl1 : kMod k - 1 < 2 ^ k.bits := by rw [← kMod_bits hk]; omega
 have hl2 : n < 2 ^ k.bits := by rw [← kMod_bits hk]; exact h4
 have e2 : (BitVec.ofInt k.bits ((kMod k - 1 : Nat) : Int) ^^^ BitVec.ofInt k.bits (n : Int)).toNat = kMod k - 1 - n := by
  rw [BitVec.toNat_xor, ofInt_nat hl1, ofInt_nat hl2, kMod_bits hk, allOnes_xor hl2]
 simp only [Op.unary, Op.intBits, hs, hm, Bool.false_eq_true, if_false, e2, wrap_u hk hk', Nat.mod_eq_of_lt hlt]
 rfl
theorem op_cvI (hX : XOk X P) {s d : TypeId} {k : IntKind} (hs : und X.ty s = .int k) (hd : und X.ty d = .int .i64) (hk : kTag k ≠ 0) {x : Nat} {u : Value} (hx : BRel G x u) (hbx : x < 2 ^ 128) (h0 : cvI (kTag k) x ≠ 0) :
  Gives P w G (Go.convert s d u) (cvI (kTag k) x) := by
 have ht5 := kTag_le k
 obtain ⟨h1, h2⟩ := arm0 (show Bool.rec (motive := fun _ => Nat) 0 (fit (mkN 2 (va x))) (nn (kTag k) x) = cvI (kTag k) x from rfl) h0
 have hn : ∃ n : Nat, u = .int k n ∧ va x = n := by
  have hm := nn_iff.1 h1
  by_cases hk' : k = .i64
  ·subst hk'
   obtain ⟨n, h3, h4, _⟩ := two_code hx hbx hm
   exact ⟨n, h3, h4⟩
  ·obtain ⟨n, h3, h4, _⟩ := brel_u hk hk' hx hbx hm
   exact ⟨n, h3, by rw [h4]; exact va_tag (by omega)⟩
 obtain ⟨n, rfl, hv⟩ := hn
 rw [← h2] at h0
 obtain ⟨h3, h4⟩ := fit_eq rfl h0
 rw [← h2, ← h4, hv]
 rw [hv] at h3
 have h3' : 2 + 32 * n ≤ 295147905179352825855 := h3
 have hf : fits .i64 (n : Int) := fits_i (by omega) (by omega)
 refine gives_int hf rfl ?_
 have r1 := hX.run_und (t := s) (by rw [hs]; simp) w
 have r2 := hX.run_und (t := d) (by rw [hd]; simp) w
 rw [hs] at r1
 rw [hd] at r2
 simp [Go.convert, r1, r2, Conv.intToInt, wrap_fits hf]
theorem op_cvU (hX : XOk X P) {s d : TypeId} {k j : IntKind} (hs : und X.ty s = .int k) (hd : und X.ty d = .int j) (hk : kTag k ≠ 0) (hj : kTag j ≠ 0) (hj' : j ≠ .i64) {x : Nat} {u : Value} (hx : BRel G x u) (hbx : x < 2 ^ 128) (h0 : cvU (kTag k) (kTag j) (kMod j) x ≠ 0) :
  Gives P w G (Go.convert s d u) (cvU (kTag k) (kTag j) (kMod j) x) := by
 have ht5 := kTag_le k
 obtain ⟨h1, h2⟩ := arm0 (show Bool.rec (motive := fun _ => Nat) 0 (mkN (kTag j) (Nat.mod (va x) (kMod j))) (nn (kTag k) x) = cvU (kTag k) (kTag j) (kMod j) x from rfl) h0
 have hn : ∃ n : Nat, u = .int k n ∧ va x = n := by
  have hm := nn_iff.1 h1
  by_cases hk' : k = .i64
  ·subst hk'
   obtain ⟨n, h3, h4, _⟩ := two_code hx hbx hm
   exact ⟨n, h3, h4⟩
  ·obtain ⟨n, h3, h4, _⟩ := brel_u hk hk' hx hbx hm
   exact ⟨n, h3, by rw [h4]; exact va_tag (by omega)⟩
 obtain ⟨n, rfl, hv⟩ := hn
 rw [← h2, hv]
 refine gives_int (k := j) (n := ((n % kMod j : Nat) : Int)) (fits_u hj hj' (Nat.mod_lt _ (kMod_pos hj))) rfl ?_
 have r1 := hX.run_und (t := s) (by rw [hs]; simp) w
 have r2 := hX.run_und (t := d) (by rw [hd]; simp) w
 rw [hs] at r1
 rw [hd] at r2
 simp [Go.convert, r1, r2, Conv.intToInt, wrap_u hj hj']
theorem op_pick {c x y : Nat} {p u v : Value} (hc : BRel G c p) (hx : BRel G x u) (hy : BRel G y v) (h0 : pick c x y ≠ 0) : ∃ b : Bool, p = .bool b ∧ BRel G (pick c x y) (if b then u else v) := by
 have e : pick c x y = Bool.rec (motive := fun _ => Nat) (Bool.rec (motive := fun _ => Nat) 0 y (Nat.beq c 1)) x (Nat.beq c 17) := rfl
 rw [e] at h0 ⊢
 rcases arm (c := Nat.beq c 17) (a := Bool.rec (motive := fun _ => Nat) 0 y (Nat.beq c 1)) (b := x) rfl with ⟨h1, h2⟩ | ⟨h1, h2⟩
 ·rw [← h2] at h0 ⊢
  obtain ⟨h3, h4⟩ := arm0 rfl h0
  have := beq_iff.1 h3; subst this
  obtain ⟨_, rfl⟩ := brel_code hc (by decide) (by decide) 1 rfl
  exact ⟨false, rfl, by rw [← h4]; exact hy⟩
 ·have := beq_iff.1 h1; subst this
  obtain ⟨_, rfl⟩ := brel_code hc (by decide) (by decide) 17 rfl
  exact ⟨true, rfl, by rw [← h2]; exact hx⟩
theorem addr_add (r o n : Nat) : (⟨r, o, none⟩ : Addr).add n = ⟨r, o + n, none⟩ := by
 unfold Addr.add; split <;> simp_all
theorem op_iaF (hX : XOk X P) {t e : TypeId} (hu : und X.ty t = .slice e) (hs : szOf X.ty e ≠ 0) {x i : Nat} {u v : Value} (hx : BRel G x u) (hi : BRel G i v) (hbx : x < 2 ^ 128) (hbi : i < 2 ^ 128) (h0 : iaF (szOf X.ty e) x i ≠ 0) :
  Gives P w G (Instr.indexAt t u v) (iaF (szOf X.ty e) x i) := by
 obtain ⟨h1, h2⟩ := arm0 (show Bool.rec (motive := fun _ => Nat) 0 (fit1 (Nat.add (Nat.sub (Nat.land x 536870911) 1) (Nat.shiftLeft (Nat.add (offS x) (Nat.mul (va i) (szOf X.ty e))) 29)))
  (Bool.rec (motive := fun _ => Bool) false (Bool.rec (motive := fun _ => Bool) false (ltb (va i) (lenS x)) (nn 2 i)) (isSl x)) = iaF (szOf X.ty e) x i from rfl) h0
 obtain ⟨h3, h4⟩ := and_of' h1
 obtain ⟨h5, h6⟩ := and_of' h3
 obtain ⟨b, ex, len, cap, sz, off, r, δ, z, rc, rfl, hg, hb, he, hl, hc, hsz, hr, hxc, hz, rfl⟩ := brel_code hx hbx (by intro h; subst h; cases h4) 23 ((isSl_iff x).1 h4)
 obtain ⟨n, rfl, hv, hn⟩ := two_code hi hbi (nn_iff.1 h6)
 rw [sl_len hb he hl hc hsz, hv, ltb_iff] at h5
 rw [← h2] at h0 ⊢
 rw [sl_off hb he hl hc hsz, hv, land_29, sl_low hb, shl_eq] at h0 ⊢
 have hcode : Nat.add (Nat.sub (23 + 32 * b) 1) (Nat.add off (Nat.mul n (szOf X.ty e)) * 2 ^ 29) = ptrC b (off + n * szOf X.ty e) := by
  unfold ptrC
  show 23 + 32 * b - 1 + (off + n * szOf X.ty e) * 536870912 = _
  omega
 rw [hcode] at h0 ⊢
 have hlt := fit1_lt (ptrC b (off + n * szOf X.ty e))
 rw [fit1_eq h0] at hlt ⊢
 refine gives_v (.ptr b _ r δ z hg hb) hlt ?_
 have r1 := hX.run_und (t := t) (by rw [hu]; simp) w
 rw [hu] at r1
 have hes : (X.ty e).isSome = true := by
  cases hx : X.ty e with
  | none => simp [szOf, hx] at hs
  | some i => rfl
 have r2 := hX.run_size hes w
 have hn0 : 0 ≤ (n : Int) ∧ (n : Int) < (len : Int) := by omega
 simp [Instr.indexAt, asIntOf, r1, r2, hn0, addr_add, Nat.add_assoc]
 intro h; omega
theorem op_aaF (hX : XOk X P) {t e : TypeId} {len : Nat} (hu : und X.ty t = .array len e) (hs : szOf X.ty e ≠ 0) {x i : Nat} {u v : Value} (hx : BRel G x u) (hi : BRel G i v) (hbx : x < 2 ^ 128) (hbi : i < 2 ^ 128) (h0 : aaF len (szOf X.ty e) x i ≠ 0) :
  Gives P w G (Instr.indexAt t u v) (aaF len (szOf X.ty e) x i) := by
 obtain ⟨h1, h2⟩ := arm0 (show Bool.rec (motive := fun _ => Nat) 0 (fit1 (Nat.add x (Nat.shiftLeft (Nat.mul (va i) (szOf X.ty e)) 29))) (Bool.rec (motive := fun _ => Bool) false (Bool.rec (motive := fun _ => Bool) false (ltb (va i) len) (nn 2 i)) (isPtr x)) = aaF len (szOf X.ty e) x i from rfl) h0
 obtain ⟨h3, h4⟩ := and_of' h1
 obtain ⟨h5, h6⟩ := and_of' h3
 obtain ⟨b, off, r, δ, z, rfl, hg, hb, rfl⟩ := brel_ptr hx ((isPtr_iff x).1 h4) hbx
 obtain ⟨n, rfl, hv, hn⟩ := two_code hi hbi (nn_iff.1 h6)
 rw [hv, ltb_iff] at h5
 rw [← h2] at h0 ⊢
 rw [hv, shl_eq] at h0 ⊢
 have hcode : Nat.add (ptrC b off) (Nat.mul n (szOf X.ty e) * 2 ^ 29) = ptrC b (off + n * szOf X.ty e) := by
  unfold ptrC
  show 22 + 32 * b + 536870912 * off + n * szOf X.ty e * 536870912 = _
  omega
 rw [hcode] at h0 ⊢
 have hlt := fit1_lt (ptrC b (off + n * szOf X.ty e))
 rw [fit1_eq h0] at hlt ⊢
 refine gives_v (.ptr b _ r δ z hg hb) hlt ?_
 have r1 := hX.run_und (t := t) (by rw [hu]; simp) w
 rw [hu] at r1
 have hes : (X.ty e).isSome = true := by
  cases hx : X.ty e with
  | none => simp [szOf, hx] at hs
  | some i => rfl
 have r2 := hX.run_size hes w
 have hn0 : 0 ≤ (n : Int) ∧ (n : Int) < (len : Int) := by omega
 simp [Instr.indexAt, asIntOf, r1, r2, hn0, addr_add, Nat.add_assoc, Instr.sureAddr]
 intro h; omega
def OptR (c : Nat) (o : Option Value) : Prop := (o = none ∧ c = 0) ∨ ∃ v, o = some v ∧ c ≠ 0 ∧ (c % 32 = 2 → ∃ n : Nat, v = .int .i64 n ∧ va c = n)
theorem OptR.zn {c : Nat} {o : Option Value} (h : OptR c o) (hz : zn c = true) : (o = none ∧ c = 0) ∨ ∃ n : Nat, o = some (.int .i64 n) ∧ va c = n ∧ c ≠ 0 := by
 rcases h with h | ⟨v, h1, h2, h3⟩
 ·exact .inl h
 ·right
  have : c % 32 = 2 := by
   unfold Vm.zn at hz
   rw [beq_ne h2] at hz
   exact nn_iff.1 hz
  obtain ⟨n, rfl, h5⟩ := h3 this
  exact ⟨n, h1, h5, h2⟩
theorem run_bound {n y : Nat} (h : n ≤ y) (code : BoundsCode) (w : World) : (Instr.sliceBound (.int .i64 n) y code).run P w = .ok n w := by
 have : 0 ≤ (n : Int) ∧ (n : Int) ≤ (y : Int) := by omega
 simp [Instr.sliceBound, asIntOf, this]
theorem run_bounds {len cap l h m : Nat} {lo hi mx : Option Value} (hlo : (lo = none ∧ l = 0) ∨ lo = some (.int .i64 l)) (hhi : (hi = none ∧ h = len ∧ mx = none) ∨ hi = some (.int .i64 h)) (hmx : (mx = none ∧ m = cap) ∨ mx = some (.int .i64 m))
  (h1 : l ≤ h) (h2 : h ≤ m) (h3 : m ≤ cap) (b : Bool) (w : World) : (Instr.sliceBounds b len cap lo hi mx).run P w = .ok (l, h, m) w := by
 have bd := fun (n y : Nat) (hny : n ≤ y) (code : BoundsCode) => run_bound P hny code w
 rcases hlo with ⟨rfl, rfl⟩ | rfl <;> rcases hhi with ⟨rfl, rfl, rfl⟩ | rfl
 ·rcases hmx with ⟨_, rfl⟩ | h
  ·simp [Instr.sliceBounds]
  ·cases h
 ·rcases hmx with ⟨rfl, rfl⟩ | rfl
  ·simp [Instr.sliceBounds, bd h m h2]
  ·simp [Instr.sliceBounds, bd h m h2, bd m cap h3]
 ·rcases hmx with ⟨_, rfl⟩ | h
  ·simp [Instr.sliceBounds, bd l h h1]
  ·cases h
 ·rcases hmx with ⟨rfl, rfl⟩ | rfl
  ·simp [Instr.sliceBounds, bd h m h2, bd l h h1]
  ·simp [Instr.sliceBounds, bd h m h2, bd m cap h3, bd l h h1]
theorem run_slice (hX : XOk X P) {t e : TypeId} (hu : und X.ty t = .slice e) (hs : szOf X.ty e ≠ 0) {a : Option Addr} {len cap l h m : Nat} {lo hi mx : Option Value} (hb : (Instr.sliceBounds true len cap lo hi mx).run P w = .ok (l, h, m) w) :
  (Instr.sliceAt t (.slice a len cap) lo hi mx).run P w = .ok (.slice (if m = l then a else a.map (·.add (l * szOf X.ty e))) (h - l) (m - l)) w := by
 have r1 := hX.run_und (t := t) (by rw [hu]; simp) w
 rw [hu] at r1
 have hes : (X.ty e).isSome = true := by
  cases hx : X.ty e with
  | none => simp [szOf, hx] at hs
  | some i => rfl
 have r2 := hX.run_size hes w
 simp [Instr.sliceAt, Instr.slice, r1, r2, hb]
theorem op_slF (hX : XOk X P) {t e : TypeId} (hu : und X.ty t = .slice e) (hs : szOf X.ty e ≠ 0) {x lo hi mx : Nat} {u : Value} {vl vh vm : Option Value} (hx : BRel G x u) (hbx : x < 2 ^ 128) (hl : OptR lo vl) (hh : OptR hi vh) (hm : OptR mx vm)
  (hhm : vh = none → vm = none) (h0 : slF (szOf X.ty e) x lo hi mx ≠ 0) : Gives P w G (Instr.sliceAt t u vl vh vm) (slF (szOf X.ty e) x lo hi mx) := by
 obtain ⟨h1, h2⟩ := arm0 (show Bool.rec (motive := fun _ => Nat) 0
  (Bool.rec (motive := fun _ => Nat) (Bool.rec (motive := fun _ => Nat) 0 (Bool.rec (motive := fun _ => Nat) 0 x (Nat.beq (Nat.add (va lo) (Nat.add (va hi) (va mx))) 0)) (none? x))
   (Bool.rec (motive := fun _ => Nat) 0 (slGo (szOf X.ty e) x (Bool.rec (motive := fun _ => Nat) 1 (Nat.land (Nat.shiftRight x 29) 1) (Nat.beq mx 0)) (va lo)
    (Bool.rec (motive := fun _ => Nat) (va hi) (lenS x) (Nat.beq hi 0)) (Bool.rec (motive := fun _ => Nat) (va mx) (capS x) (Nat.beq mx 0))) (Nat.beq (szS x) (szOf X.ty e))) (isSl x))
  (Bool.rec (motive := fun _ => Bool) false (Bool.rec (motive := fun _ => Bool) false (zn mx) (zn hi)) (zn lo)) = slF (szOf X.ty e) x lo hi mx from rfl) h0
 obtain ⟨h3, hz1⟩ := and_of' h1
 obtain ⟨hz3, hz2⟩ := and_of' h3
 have hl' := hl.zn hz1
 have hh' := hh.zn hz2
 have hm' := hm.zn hz3
 have hlo : (vl = none ∧ va lo = 0) ∨ vl = some (.int .i64 (va lo)) := by
  rcases hl' with ⟨h4, h5⟩ | ⟨n, h4, h5, _⟩
  ·exact .inl ⟨h4, by rw [h5]; rfl⟩
  ·exact .inr (by rw [h5]; exact h4)
 rw [← h2] at h0 ⊢
 rcases arm (c := isSl x) rfl with ⟨h4, h5⟩ | ⟨h4, h5⟩
 ·
  rw [← h5] at h0 ⊢
  obtain ⟨h6, h7⟩ := arm0 rfl h0
  rw [← h7] at h0 ⊢
  obtain ⟨h8, h9⟩ := arm0 rfl h0
  rw [← h9]
  have hsum : va lo + (va hi + va mx) = 0 := beq_iff.1 h8
  have hl0 : va lo = 0 := by omega
  have hh0 : va hi = 0 := by omega
  have hm0 : va mx = 0 := by omega
  rw [hl0] at hlo
  rcases (none_iff x).1 h6 with rfl | rfl
  ·obtain ⟨_, rfl⟩ := brel_code hx hbx (by decide) 7 rfl
   refine gives_v .snil (by decide) ?_
   have hb : (Instr.sliceBounds true 0 0 vl vh vm).run P w = .ok (0, 0, 0) w := by
    refine run_bounds P hlo ?_ ?_ (Nat.le_refl _) (Nat.le_refl _) (Nat.le_refl _) true w
    ·rcases hh' with ⟨h10, _⟩ | ⟨n, h10, h11, _⟩
     ·exact .inl ⟨h10, rfl, hhm h10⟩
     ·rw [hh0] at h11; subst h11; exact .inr h10
    ·rcases hm' with ⟨h10, _⟩ | ⟨n, h10, h11, _⟩
     ·exact .inl ⟨h10, rfl⟩
     ·rw [hm0] at h11; subst h11; exact .inr h10
   rw [run_slice X P hX hu hs hb]; rfl
  ·obtain ⟨_, a, k, rfl⟩ := brel_code hx hbx (by decide) 9 rfl
   rcases hm' with ⟨h10, _⟩ | ⟨n, h10, h11, _⟩
   ·have hb : (Instr.sliceBounds true 0 k vl vh vm).run P w = .ok (0, 0, k) w := by
     refine run_bounds P hlo ?_ (.inl ⟨h10, rfl⟩) (Nat.le_refl _) (Nat.zero_le _) (Nat.le_refl _) true w
     rcases hh' with ⟨h12, _⟩ | ⟨n, h12, h13, _⟩
     ·exact .inl ⟨h12, rfl, h10⟩
     ·rw [hh0] at h13; subst h13; exact .inr h12
    refine gives_v (u := .slice (if k = 0 then some a else (some a).map (·.add (0 * szOf X.ty e))) (0 - 0) (k - 0)) ?_ (by decide) (run_slice X P hX hu hs hb)
    have : (if k = 0 then some a else (some a).map (·.add (0 * szOf X.ty e))) = some a := by
     split
     ·rfl
     ·simp [Addr.add]
    rw [this]; exact .sany a k
   ·rw [hm0] at h11; subst h11
    have hb : (Instr.sliceBounds true 0 k vl vh vm).run P w = .ok (0, 0, 0) w := by
     refine run_bounds P hlo ?_ (.inr h10) (Nat.le_refl _) (Nat.le_refl _) (Nat.zero_le _) true w
     rcases hh' with ⟨h12, _⟩ | ⟨n, h12, h13, _⟩
     ·exact .inl ⟨h12, rfl, hhm h12⟩
     ·rw [hh0] at h13; subst h13; exact .inr h12
    refine gives_v (u := .slice (if 0 = 0 then some a else (some a).map (·.add (0 * szOf X.ty e))) (0 - 0) (0 - 0)) ?_ (by decide) (run_slice X P hX hu hs hb)
    exact .sany a 0
 ·
  rw [← h5] at h0 ⊢
  obtain ⟨h6, h7⟩ := arm0 rfl h0
  rw [← h7] at h0 ⊢
  obtain ⟨b, ex, len, cap, sz, off, r, δ, z, rc, rfl, hg, hb, he, hlc, hc, hsz, hr, hxc, hz, rfl⟩ := brel_code hx hbx (by intro h; subst h; cases h4) 23 ((isSl_iff x).1 h4)
  rw [sl_sz hb he hlc hc hsz, beq_iff] at h6
  rw [sl_len hb he hlc hc hsz, sl_cap hb he hlc hc hsz, sl_ex hb he hlc hc hsz] at h0 ⊢
  generalize hl : va lo = l at hlo h0 ⊢
  obtain ⟨hv, ehv, hhi⟩ : ∃ h, Bool.rec (motive := fun _ => Nat) (va hi) len (Nat.beq hi 0) = h ∧ ((vh = none ∧ h = len ∧ vm = none) ∨ vh = some (.int .i64 h)) := by
   rcases hh' with ⟨h10, rfl⟩ | ⟨n, h10, h11, h12⟩
   ·exact ⟨len, rfl, .inl ⟨h10, rfl, hhm h10⟩⟩
   ·exact ⟨n, by rw [beq_ne h12]; exact h11, .inr h10⟩
  rw [ehv] at h0 ⊢
  have e3 : ∀ ex m, slGo (szOf X.ty e) (slC b ex len cap sz off) ex l hv m = Bool.rec (motive := fun _ => Nat) 0
   (Bool.rec (motive := fun _ => Nat) (ckSl (blkOf (slC b ex len cap sz off)) ex (Nat.sub hv l) (Nat.sub m l) (szOf X.ty e) (Nat.add (offS (slC b ex len cap sz off)) (Nat.mul l (szOf X.ty e))))
    (Bool.rec (motive := fun _ => Nat) 9 (ckSl (blkOf (slC b ex len cap sz off)) ex (Nat.sub hv l) (Nat.sub m l) (szOf X.ty e) (offS (slC b ex len cap sz off))) (Nat.beq ex 1))
    (Bool.rec (motive := fun _ => Bool) (Nat.beq m l) false (Nat.beq l 0)))
   (Bool.rec (motive := fun _ => Bool) false (Bool.rec (motive := fun _ => Bool) false (Nat.ble m (capS (slC b ex len cap sz off))) (Nat.ble hv m)) (Nat.ble l hv)) := fun _ _ => rfl
  have go : ∀ (ex' m rm : Nat), (ex' = 0 ∨ ex' = 1) → (ex' = 1 → rm = m) → m ≤ rm → rm ≤ rc → (ex' = 0 → rm = rc ∧ ex = 0) → ((vm = none ∧ rm = rc) ∨ vm = some (.int .i64 rm)) →
    slGo (szOf X.ty e) (slC b ex len cap sz off) ex' l hv m ≠ 0 → Gives P w G (Instr.sliceAt t (.slice (some ⟨r, δ + off, none⟩) len rc) vl vh vm) (slGo (szOf X.ty e) (slC b ex len cap sz off) ex' l hv m) := by
   intro ex' m rm hex' hexm hmr hrm hex0 hvm h0
   obtain ⟨h8, h9⟩ := arm0 (show Bool.rec (motive := fun _ => Nat) 0
    (Bool.rec (motive := fun _ => Nat) (ckSl (blkOf (slC b ex len cap sz off)) ex' (Nat.sub hv l) (Nat.sub m l) (szOf X.ty e) (Nat.add (offS (slC b ex len cap sz off)) (Nat.mul l (szOf X.ty e))))
     (Bool.rec (motive := fun _ => Nat) 9 (ckSl (blkOf (slC b ex len cap sz off)) ex' (Nat.sub hv l) (Nat.sub m l) (szOf X.ty e) (offS (slC b ex len cap sz off))) (Nat.beq ex' 1))
     (Bool.rec (motive := fun _ => Bool) (Nat.beq m l) false (Nat.beq l 0)))
    (Bool.rec (motive := fun _ => Bool) false (Bool.rec (motive := fun _ => Bool) false (Nat.ble m (capS (slC b ex len cap sz off))) (Nat.ble hv m)) (Nat.ble l hv)) = slGo (szOf X.ty e) (slC b ex len cap sz off) ex' l hv m from rfl) h0
   obtain ⟨h10, h11⟩ := and_of' h8
   obtain ⟨h12, h13⟩ := and_of' h10
   rw [ble_iff] at h11 h13 h12
   rw [sl_cap hb he hlc hc hsz] at h12
   have hbd : (Instr.sliceBounds true len rc vl vh vm).run P w = .ok (l, hv, rm) w := run_bounds P hlo hhi hvm h11 (by omega) hrm true w
   rw [← h9] at h0 ⊢
   rw [sl_blk hb he, sl_off hb he hlc hc hsz] at h0 ⊢
   have hsz' : szOf X.ty e < 1024 := by omega
   rcases arm (c := Bool.rec (motive := fun _ => Bool) (Nat.beq m l) false (Nat.beq l 0)) rfl with ⟨h14, h15⟩ | ⟨h14, h15⟩
   ·rw [← h15] at h0 ⊢
    obtain ⟨h16, h17, h18⟩ := ckSl_eq rfl h0
    rw [h18]
    have h16' : off + l * szOf X.ty e ≤ 16777215 := h16
    have h17' : m - l ≤ 1048575 := h17
    have hva : (.slice (if rm = l then some (⟨r, δ + off, none⟩ : Addr) else (some (⟨r, δ + off, none⟩ : Addr)).map (·.add (l * szOf X.ty e))) (hv - l) (rm - l) : Value) = .slice (some ⟨r, δ + (off + l * szOf X.ty e), none⟩) (hv - l) (rm - l) := by
     split
     ·rename_i hrl
      have hl0 : l = 0 := by
       rcases Nat.eq_zero_or_pos l with h | h
       ·exact h
       ·exfalso
        have hml : m = l := by omega
        rw [beq_ne (by omega : l ≠ 0), hml, Nat.beq_refl] at h14
        cases h14
      subst hl0; simp
     ·simp [addr_add, Nat.add_assoc]
    refine gives_v (u := .slice (some ⟨r, δ + (off + l * szOf X.ty e), none⟩) (hv - l) (rm - l)) ?_ ?_ ?_
    ·refine .sl b ex' (hv - l) (m - l) (szOf X.ty e) (off + l * szOf X.ty e) r δ z (rm - l) hg hb (by omega) (by omega) (by omega) hsz' (by omega) (fun h => by rw [hexm h]) (fun h => ?_)
     obtain ⟨h19, h20⟩ := hex0 h
     have := hz h20
     rw [← h6]
     have e1 : (rm - l) * sz = rm * sz - l * sz := Nat.sub_mul _ _ _
     have e2 : l * sz ≤ rm * sz := Nat.mul_le_mul_right _ (by omega)
     rw [h19] at e1 e2 ⊢
     omega
    ·have := @mkSl_lt b ex' (hv - l) (m - l) (szOf X.ty e) (off + l * szOf X.ty e) (by omega) (by omega) (by omega) (by omega) (by omega) h16'
     rw [mkSl_eq] at this
     exact this
    ·rw [run_slice X P hX hu hs hbd, hva]
   ·rw [← h15] at h0 ⊢
    have hl0 : l ≠ 0 := by
     intro h; subst h; cases h14
    rw [beq_ne hl0] at h14
    have hml : m = l := beq_iff.1 h14
    rcases hex' with rfl | rfl
    ·show Gives P w G _ 9
     obtain ⟨a', ha'⟩ : ∃ a', (if rm = l then some (⟨r, δ + off, none⟩ : Addr) else (some (⟨r, δ + off, none⟩ : Addr)).map (·.add (l * szOf X.ty e))) = some a' := by
      split
      ·exact ⟨_, rfl⟩
      ·exact ⟨_, rfl⟩
     refine gives_v (u := .slice (some a') 0 (rm - l)) (.sany a' _) (by decide) ?_
     rw [run_slice X P hX hu hs hbd, ha']
     congr 2; omega
    ·have h0' : ckSl b 1 (Nat.sub hv l) (Nat.sub m l) (szOf X.ty e) off ≠ 0 := h0
     show Gives P w G _ (ckSl b 1 (Nat.sub hv l) (Nat.sub m l) (szOf X.ty e) off)
     obtain ⟨h16, h17, h18⟩ := ckSl_eq rfl h0'
     rw [h18]
     have hrm' : rm = m := hexm rfl
     refine gives_v (u := .slice (some ⟨r, δ + off, none⟩) (hv - l) (rm - l)) ?_ ?_ ?_
     ·exact .sl b 1 (hv - l) (m - l) (szOf X.ty e) off r δ z (rm - l) hg hb (by omega) (by omega) (by omega) hsz' (by omega) (fun _ => by rw [hrm']) (fun h => by omega)
     ·have := @mkSl_lt b 1 (hv - l) (m - l) (szOf X.ty e) off (by omega) (by omega) (by omega) (by omega) (by omega) h16
      rw [mkSl_eq] at this
      exact this
     ·rw [run_slice X P hX hu hs hbd, if_pos (by omega)]
  rcases hm' with ⟨h10, rfl⟩ | ⟨n, h10, h11, h12⟩
  ·have e4 : Bool.rec (motive := fun _ => Nat) (va 0) cap (Nat.beq 0 0) = cap := rfl
   have e5 : Bool.rec (motive := fun _ => Nat) 1 ex (Nat.beq 0 0) = ex := rfl
   rw [e4, e5] at h0 ⊢
   exact go ex cap rc (by omega) hxc hr (Nat.le_refl _) (fun h => ⟨rfl, h⟩) (.inl ⟨h10, rfl⟩) h0
  ·rw [beq_ne h12] at h0 ⊢
   dsimp only at h0 ⊢
   rw [h11] at h0 ⊢
   have hle : n ≤ cap := by
    obtain ⟨h8, _⟩ := arm0 (show Bool.rec (motive := fun _ => Nat) 0
     (Bool.rec (motive := fun _ => Nat) (ckSl (blkOf (slC b ex len cap sz off)) 1 (Nat.sub hv l) (Nat.sub n l) (szOf X.ty e) (Nat.add (offS (slC b ex len cap sz off)) (Nat.mul l (szOf X.ty e))))
      (Bool.rec (motive := fun _ => Nat) 9 (ckSl (blkOf (slC b ex len cap sz off)) 1 (Nat.sub hv l) (Nat.sub n l) (szOf X.ty e) (offS (slC b ex len cap sz off))) (Nat.beq 1 1))
      (Bool.rec (motive := fun _ => Bool) (Nat.beq n l) false (Nat.beq l 0)))
     (Bool.rec (motive := fun _ => Bool) false (Bool.rec (motive := fun _ => Bool) false (Nat.ble n (capS (slC b ex len cap sz off))) (Nat.ble hv n)) (Nat.ble l hv)) = slGo (szOf X.ty e) (slC b ex len cap sz off) 1 l hv n from rfl) h0
    obtain ⟨h13, _⟩ := and_of' h8
    obtain ⟨h14, _⟩ := and_of' h13
    rw [ble_iff, sl_cap hb he hlc hc hsz] at h14
    exact h14
   exact go 1 n n (.inr rfl) (fun _ => rfl) (Nat.le_refl _) (by omega) (fun h => by omega) (.inr h10) h0
theorem op_slA (hX : XOk X P) {t e : TypeId} {n : Nat} (hu : und X.ty t = .array n e) (hs : szOf X.ty e ≠ 0) (hs' : szOf X.ty e ≤ 1023) {x : Nat} {u : Value} (hx : BRel G x u) (hbx : x < 2 ^ 128) (h0 : slA n (szOf X.ty e) x ≠ 0) :
  Gives P w G (Instr.sliceAt t u none none none) (slA n (szOf X.ty e) x) := by
 obtain ⟨h1, h2⟩ := arm0 (show Bool.rec (motive := fun _ => Nat) 0 (ckSl (blkOf x) 1 n n (szOf X.ty e) (offOf x)) (isPtr x) = slA n (szOf X.ty e) x from rfl) h0
 obtain ⟨b, off, r, δ, z, rfl, hg, hb, rfl⟩ := brel_ptr hx ((isPtr_iff x).1 h1) hbx
 rw [← h2] at h0 ⊢
 rw [ptr_blk hb, ptr_off hb] at h0 ⊢
 obtain ⟨h3, h4, h5⟩ := ckSl_eq rfl h0
 rw [h5]
 refine gives_v (u := .slice (some ⟨r, δ + off, none⟩) n n) ?_ ?_ ?_
 ·exact .sl b 1 n n (szOf X.ty e) off r δ z n hg hb (by omega) (Nat.le_refl _) (by omega) (by omega) (Nat.le_refl _) (fun _ => rfl) (fun h => by omega)
 ·have := @mkSl_lt b 1 n n (szOf X.ty e) off (by omega) (by omega) h4 h4 hs' h3
  rw [mkSl_eq] at this
  exact this
 ·have r1 := hX.run_und (t := t) (by rw [hu]; simp) w
  rw [hu] at r1
  have hes : (X.ty e).isSome = true := by
   cases hx : X.ty e with
   | none => simp [szOf, hx] at hs
   | some i => rfl
  have r2 := hX.run_size hes w
  simp [Instr.sliceAt, r1, r2, Instr.sliceBounds, Instr.sureAddr, Addr.add]
end
end Go.Vm
namespace Go.Vm
open Go
structure SetAt (cs : Array Value) (o : Nat) (vs cs' : Array Value) : Prop where
 size : cs'.size = cs.size
 get : ∀ i, cs'[i]? = if o ≤ i ∧ i < o + vs.size then vs[i - o]? else cs[i]?
theorem Row.set {G : Gh} {bits vb o : Nat} {cs vs cs' : Array Value} (h : Row G bits cs) (hv : Row G vb vs) (hb : vb < 2 ^ (128 * vs.size)) (hs : SetAt cs o vs cs') : Row G (pw bits (128 * o) (128 * vs.size) vb) cs' := by
 intro i v hi
 rw [hs.get i] at hi
 rw [cell_pw _ _ _ _ _ hb]
 split at hi
 ·rename_i hc; rw [if_pos hc]; exact hv _ _ hi
 ·rename_i hc; rw [if_neg hc]; exact h _ _ hi
theorem foldl_set (vs : List Value) : ∀ (off k : Nat) (cs : Array Value), off + k + vs.length ≤ cs.size →
  ((vs.zipIdx k).foldl (fun cs (c, j) => cs.setIfInBounds (off + j) c) cs).size = cs.size ∧ ∀ i, ((vs.zipIdx k).foldl (fun cs (c, j) => cs.setIfInBounds (off + j) c) cs)[i]? = if off + k ≤ i ∧ i < off + k + vs.length then vs[i - (off + k)]? else cs[i]? := by
 induction vs with
 | nil =>
  intro off k cs _
  refine ⟨rfl, fun i => ?_⟩
  rw [if_neg (by intro h; simp at h; omega)]; rfl
 | cons v vs ih =>
  intro off k cs hl
  simp only [List.length_cons] at hl
  obtain ⟨h1, h2⟩ := ih off (k + 1) (cs.setIfInBounds (off + k) v) (by simp; omega)
  simp only [List.zipIdx_cons, List.foldl_cons]
  refine ⟨by rw [h1]; simp, fun i => ?_⟩
  rw [h2]
  by_cases hi : i = off + k
  ·subst hi
   rw [if_neg (by omega), if_pos (by simp), Nat.sub_self]
   simp only [List.getElem?_cons_zero]
   rw [Array.getElem?_setIfInBounds, if_pos rfl, if_pos (by omega)]
  ·by_cases hr : off + (k + 1) ≤ i ∧ i < off + (k + 1) + vs.length
   ·rw [if_pos hr, if_pos (by simp; omega)]
    have e : i - (off + k) = (i - (off + (k + 1))) + 1 := by omega
    rw [e, List.getElem?_cons_succ]
   ·rw [if_neg hr, if_neg (by simp; omega)]
    rw [Array.getElem?_setIfInBounds, if_neg (fun h => hi h.symm)]
theorem setAt_fold (cs : Array Value) (off : Nat) (vs : Array Value) (h : off + vs.size ≤ cs.size) : SetAt cs off vs (vs.zipIdx.foldl (fun cs (c, j) => cs.setIfInBounds (off + j) c) cs) := by
 have e : vs.zipIdx.foldl (fun cs (c, j) => cs.setIfInBounds (off + j) c) cs = (vs.toList.zipIdx).foldl (fun cs (c, j) => cs.setIfInBounds (off + j) c) cs := by
  rw [← Array.foldl_toList, Array.toList_zipIdx]
 rw [e]
 obtain ⟨h1, h2⟩ := foldl_set vs.toList off 0 cs (by simpa using h)
 refine ⟨h1, fun i => ?_⟩
 rw [h2]
 simp
section
variable (X : GX) (P : Program) {w : World} {G : Gh} {S : St}
theorem cell_brel {c : Nat} {v : Value} (h : CRel G c v) (hb : c < 2 ^ 128) : BRel G c v := by
 rcases h.2 with h | h
 ·rw [h]; exact .none _
 ·exact .one _ _ h hb
theorem Row.sub {bits o n : Nat} {cs : Array Value} (h : Row G bits cs) (hn : o + n ≤ cs.size) : Row G (gw bits (128 * o) (128 * n)) (cs.extract o (o + n)) := by
 intro i v hi
 rw [Array.getElem?_extract] at hi
 split at hi
 ·rename_i hlt
  have : i < n := by omega
  rw [cell_gw _ _ _ _ this]
  exact h _ _ hi
 ·cases hi
theorem run_part (hX : XOk X P) {t : TypeId} (hs : szOf X.ty t ≠ 0) (hd : und X.ty t ≠ .invalid) {cs : Array Value} {off : Nat} (hn : off + szOf X.ty t ≤ cs.size) (w : World) :
  (part t cs off).run P w = .ok (if isAg X.ty t then .agg (cs.extract off (off + szOf X.ty t)) else cs.getD off undef) w := by
 have hes : (X.ty t).isSome = true := by
  cases hx : X.ty t with
  | none => simp [szOf, hx] at hs
  | some i => rfl
 unfold part
 simp only [Sem.run_bind, run_isAgg X P hX hd w, Result.andThen_ok]
 cases isAg X.ty t with
 | true => simp [hX.run_size hes w]
 | false =>
  have hlt : off < cs.size := by omega
  simp [Array.getElem?_eq_getElem hlt, Array.getD, hlt]
theorem op_fdN (hX : XOk X P) {t ft : TypeId} {fs : Array Field} {f : Field} {i : Nat} (hu : und X.ty t = .struct fs) (hf : fs[i]? = some f) (hs : szOf X.ty f.type ≠ 0) (hle : f.offset + szOf X.ty f.type ≤ szOf X.ty t) (hag : isAg X.ty f.type = true)
  {x : Nat} {u : Value} (hx : BRel G x u) (h0 : fdN (128 * szOf X.ty t) (128 * f.offset) (128 * szOf X.ty f.type) x ≠ 0) :
  GivesB P w G (Instr.field t u i) (fdN (128 * szOf X.ty t) (128 * f.offset) (128 * szOf X.ty f.type) x) (128 * szOf X.ty f.type + 1) := by
 obtain ⟨h1, h2⟩ := arm0 (show Bool.rec (motive := fun _ => Nat) 0 (Nat.add (gw x (128 * f.offset) (128 * szOf X.ty f.type)) (top (128 * szOf X.ty f.type))) (isAgg x (128 * szOf X.ty t)) = fdN (128 * szOf X.ty t) (128 * f.offset) (128 * szOf X.ty f.type) x from rfl) h0
 obtain ⟨bits, cs, rfl, hr, rfl, hW, hb⟩ := brel_agg hx h1 (by omega)
 have hcs : cs.size = szOf X.ty t := by omega
 have hd : und X.ty f.type ≠ .invalid := by
  intro h; unfold isAg at hag; rw [h] at hag; cases hag
 rw [← h2]
 have hrow := row_top hr (by rw [hW] at hb; exact hb)
 rw [← hW] at hrow
 have hsub := hrow.sub (o := f.offset) (n := szOf X.ty f.type) (by omega)
 have hsz : (cs.extract f.offset (f.offset + szOf X.ty f.type)).size = szOf X.ty f.type := by simp; omega
 have hlt : gw (bits + 2 ^ (128 * szOf X.ty t)) (128 * f.offset) (128 * szOf X.ty f.type) < 2 ^ (128 * szOf X.ty f.type) := gw_lt _ _ _
 refine ⟨.agg (cs.extract f.offset (f.offset + szOf X.ty f.type)), ?_, ?_, ?_⟩
 ·have r1 := hX.run_und (t := t) (by rw [hu]; simp) w
  rw [hu] at r1
  simp [Instr.field, r1, hf, asAgg, run_part X P hX hs hd (by omega : f.offset + szOf X.ty f.type ≤ cs.size) w, hag]
 ·have := BRel.agg _ _ hsub (by rw [hsz]; omega) (by rw [hsz]; exact hlt)
  rw [hsz] at this
  exact this
 ·show gw _ _ _ + 2 ^ (128 * szOf X.ty f.type) < _
  rw [Nat.pow_succ]; omega
theorem op_fd1 (hX : XOk X P) {t : TypeId} {fs : Array Field} {f : Field} {i : Nat} (hu : und X.ty t = .struct fs) (hf : fs[i]? = some f) (hs : szOf X.ty f.type ≠ 0) (hle : f.offset + szOf X.ty f.type ≤ szOf X.ty t) (hd : und X.ty f.type ≠ .invalid) (hag : isAg X.ty f.type = false)
  {x : Nat} {u : Value} (hx : BRel G x u) (h0 : fd1 (128 * szOf X.ty t) (128 * f.offset) x ≠ 0) :
  Gives P w G (Instr.field t u i) (fd1 (128 * szOf X.ty t) (128 * f.offset) x) := by
 obtain ⟨h1, h2⟩ := arm0 (show Bool.rec (motive := fun _ => Nat) 0 (g x (128 * f.offset)) (isAgg x (128 * szOf X.ty t)) = fd1 (128 * szOf X.ty t) (128 * f.offset) x from rfl) h0
 obtain ⟨bits, cs, rfl, hr, rfl, hW, hb⟩ := brel_agg hx h1 (by omega)
 have hcs : cs.size = szOf X.ty t := by omega
 have hrow := row_top hr (by rw [hW] at hb; exact hb)
 rw [← hW] at hrow
 have hlt : f.offset < cs.size := by omega
 have hc := hrow f.offset cs[f.offset] (Array.getElem?_eq_getElem hlt)
 rw [← h2, g_eq]
 refine ⟨cs[f.offset], ?_, cell_brel hc (cell_lt _ _), cell_lt _ _⟩
 have r1 := hX.run_und (t := t) (by rw [hu]; simp) w
 rw [hu] at r1
 simp [Instr.field, r1, hf, asAgg, run_part X P hX hs hd (by omega : f.offset + szOf X.ty f.type ≤ cs.size) w, hag, Array.getD, hlt]
theorem op_ixN (hX : XOk X P) {t e : TypeId} {len : Nat} (hu : und X.ty t = .array len e) (hs : szOf X.ty e ≠ 0) (hag : isAg X.ty e = true)
  {x i : Nat} {u v : Value} (hx : BRel G x u) (hi : BRel G i v) (hbi : i < 2 ^ 128) (h0 : ixN len (szOf X.ty e) x i ≠ 0) :
  GivesB P w G (Instr.index t u v) (ixN len (szOf X.ty e) x i) (128 * szOf X.ty e + 1) := by
 obtain ⟨h1, h2⟩ := arm0 (show Bool.rec (motive := fun _ => Nat) 0 (fdN (Nat.mul 128 (Nat.mul len (szOf X.ty e))) (Nat.mul 128 (Nat.mul (va i) (szOf X.ty e))) (Nat.mul 128 (szOf X.ty e)) x) (Bool.rec (motive := fun _ => Bool) false (ltb (va i) len) (nn 2 i)) = ixN len (szOf X.ty e) x i from rfl) h0
 obtain ⟨h3, h4⟩ := and_of' h1
 obtain ⟨n, rfl, hv, _⟩ := two_code hi hbi (nn_iff.1 h4)
 rw [hv, ltb_iff] at h3
 rw [← h2] at h0 ⊢
 rw [hv] at h0 ⊢
 have hle : n * szOf X.ty e + szOf X.ty e ≤ len * szOf X.ty e := by rw [← Nat.succ_mul]; exact Nat.mul_le_mul_right _ h3
 have h0' : fdN (128 * (len * szOf X.ty e)) (128 * (n * szOf X.ty e)) (128 * szOf X.ty e) x ≠ 0 := h0
 show GivesB P w G _ (fdN (128 * (len * szOf X.ty e)) (128 * (n * szOf X.ty e)) (128 * szOf X.ty e) x) _
 obtain ⟨h5, h6⟩ := arm0 (show Bool.rec (motive := fun _ => Nat) 0 (Nat.add (gw x (128 * (n * szOf X.ty e)) (128 * szOf X.ty e)) (top (128 * szOf X.ty e))) (isAgg x (128 * (len * szOf X.ty e))) = fdN (128 * (len * szOf X.ty e)) (128 * (n * szOf X.ty e)) (128 * szOf X.ty e) x from rfl) h0'
 obtain ⟨bits, cs, rfl, hr, rfl, hW, hb⟩ := brel_agg hx h5 (by omega)
 have hcs : cs.size = len * szOf X.ty e := by omega
 have hd : und X.ty e ≠ .invalid := by
  intro h; unfold isAg at hag; rw [h] at hag; cases hag
 rw [← h6]
 have hrow := row_top hr (by rw [hW] at hb; exact hb)
 rw [← hW] at hrow
 have hsub := hrow.sub (o := n * szOf X.ty e) (n := szOf X.ty e) (by omega)
 have hsz : (cs.extract (n * szOf X.ty e) (n * szOf X.ty e + szOf X.ty e)).size = szOf X.ty e := by simp; omega
 have hlt : gw (bits + 2 ^ (128 * (len * szOf X.ty e))) (128 * (n * szOf X.ty e)) (128 * szOf X.ty e) < 2 ^ (128 * szOf X.ty e) := gw_lt _ _ _
 have hes : (X.ty e).isSome = true := by
  cases hx : X.ty e with
  | none => simp [szOf, hx] at hs
  | some i => rfl
 refine ⟨.agg (cs.extract (n * szOf X.ty e) (n * szOf X.ty e + szOf X.ty e)), ?_, ?_, ?_⟩
 ·have r1 := hX.run_und (t := t) (by rw [hu]; simp) w
  rw [hu] at r1
  have hn0 : 0 ≤ (n : Int) ∧ (n : Int) < (len : Int) := by omega
  simp only [Instr.index, asIntOf, Sem.run_bind, Sem.run_pure, Result.andThen_ok, r1, if_pos hn0, hX.run_size hes w, Int.toNat_natCast, Sem.run_ite]
  rw [run_part X P hX hs hd (by omega : n * szOf X.ty e + szOf X.ty e ≤ cs.size) w, hag]; rfl
 ·have := BRel.agg _ _ hsub (by rw [hsz]; omega) (by rw [hsz]; exact hlt)
  rw [hsz] at this
  exact this
 ·show gw _ _ _ + 2 ^ (128 * szOf X.ty e) < _
  rw [Nat.pow_succ]; omega
theorem op_ix1 (hX : XOk X P) {t e : TypeId} {len : Nat} (hu : und X.ty t = .array len e) (hs : szOf X.ty e = 1) (hd : und X.ty e ≠ .invalid) (hag : isAg X.ty e = false)
  {x i : Nat} {u v : Value} (hx : BRel G x u) (hi : BRel G i v) (hbi : i < 2 ^ 128) (h0 : ix1 len x i ≠ 0) : Gives P w G (Instr.index t u v) (ix1 len x i) := by
 obtain ⟨h1, h2⟩ := arm0 (show Bool.rec (motive := fun _ => Nat) 0 (fd1 (Nat.mul 128 len) (Nat.mul 128 (va i)) x) (Bool.rec (motive := fun _ => Bool) false (ltb (va i) len) (nn 2 i)) = ix1 len x i from rfl) h0
 obtain ⟨h3, h4⟩ := and_of' h1
 obtain ⟨n, rfl, hv, _⟩ := two_code hi hbi (nn_iff.1 h4)
 rw [hv, ltb_iff] at h3
 rw [← h2] at h0 ⊢
 rw [hv] at h0 ⊢
 have h0' : fd1 (128 * len) (128 * n) x ≠ 0 := h0
 show Gives P w G _ (fd1 (128 * len) (128 * n) x)
 obtain ⟨h5, h6⟩ := arm0 (show Bool.rec (motive := fun _ => Nat) 0 (g x (128 * n)) (isAgg x (128 * len)) = fd1 (128 * len) (128 * n) x from rfl) h0'
 obtain ⟨bits, cs, rfl, hr, rfl, hW, hb⟩ := brel_agg hx h5 (by omega)
 have hcs : cs.size = len := by omega
 have hrow := row_top hr (by rw [hW] at hb; exact hb)
 rw [← hW] at hrow
 have hlt : n < cs.size := by omega
 have hc := hrow n cs[n] (Array.getElem?_eq_getElem hlt)
 rw [← h6, g_eq]
 refine ⟨cs[n], ?_, cell_brel hc (cell_lt _ _), cell_lt _ _⟩
 have hes : (X.ty e).isSome = true := by
  cases hx : X.ty e with
  | none => simp [szOf, hx] at hs
  | some i => rfl
 have r1 := hX.run_und (t := t) (by rw [hu]; simp) w
 rw [hu] at r1
 have hn0 : 0 ≤ (n : Int) ∧ (n : Int) < (len : Int) := by omega
 simp only [Instr.index, asIntOf, Sem.run_bind, Sem.run_pure, Result.andThen_ok, r1, if_pos hn0, hX.run_size hes w, Int.toNat_natCast, Sem.run_ite, hs, Nat.mul_one]
 rw [run_part X P hX (by omega) hd (by omega : n + szOf X.ty e ≤ cs.size) w, hag]
 simp [Array.getD, hlt]
theorem op_ixT (hX : XOk X P) (hr : HR X G S w) {t : TypeId} (hu : und X.ty t = .string) {x i : Nat} {u v : Value} (hx : BRel G x u) (hi : BRel G i v) (hbx : x < 2 ^ 128) (hbi : i < 2 ^ 128) (h0 : ixT x i S ≠ 0) : Gives P w G (Instr.index t u v) (ixT x i S) := by
 rcases txt_ok X hr hx hbx 0 (fun a => Bool.rec (motive := fun _ => Nat) 0 (g a (Nat.mul 128 (va i))) (Bool.rec (motive := fun _ => Bool) false (ltb (va i) (lenT x)) (nn 2 i))) with h1 | ⟨s, a, rfl, h2, h3, h4, _⟩
 ·exact absurd h1 h0
 ·have e : ixT x i S = Bool.rec (motive := fun _ => Nat) 0 (g a (Nat.mul 128 (va i))) (Bool.rec (motive := fun _ => Bool) false (ltb (va i) (lenT x)) (nn 2 i)) := h4
  rw [e] at h0 ⊢
  obtain ⟨h5, h6⟩ := arm0 rfl h0
  obtain ⟨h7, h8⟩ := and_of' h5
  obtain ⟨n, rfl, hv, _⟩ := two_code hi hbi (nn_iff.1 h8)
  rw [hv, ltb_iff, h3] at h7
  rw [← h6, hv, g_eq]
  have hc := h2.cell n s.data.toList[n] (List.getElem?_eq_getElem h7)
  have hc' : gw a (Nat.mul 128 n) 128 = 4 + 32 * (s.data.toList[n]).toNat := hc
  have hb8 : (s.data.toList[n]).toNat < 256 := UInt8.toNat_lt _
  refine gives_int (k := .u8) (n := ((s.data.toList[n]).toNat : Int)) (fits_u (by decide) (by decide) hb8) hc' ?_
  have r1 := hX.run_und (t := t) (by rw [hu]; simp) w
  rw [hu] at r1
  have hsz : n < s.size := by rw [Lib.size_eq]; exact h7
  have hget : s[n]? = some (s.data.toList[n]) := by
   rw [getElem?_pos s n hsz]; rfl
  simp [Instr.index, asIntOf, r1, hget]
theorem sc_iff {c : Nat} : sc c = true ↔ c ≠ 0 ∧ c ≠ 15 ∧ c < 2 ^ 128 := by
  have e : sc c = Bool.rec (motive := fun _ => Bool) (Bool.rec (motive := fun _ => Bool) (Nat.beq (Nat.shiftRight c 128) 0) false (Nat.beq c 15)) false (Nat.beq c 0) := rfl
  rw [e]
  cases h0 : Nat.beq c 0 with
  | true => simp [beq_iff.1 h0]
  | false =>
   have h0' : c ≠ 0 := fun h => by rw [h] at h0; cases h0
   cases h15 : Nat.beq c 15 with
   | true => simp [beq_iff.1 h15]
   | false =>
    have h15' : c ≠ 15 := fun h => by rw [h] at h15; cases h15
    dsimp only
    rw [beq_iff, shr_eq]
    constructor
    ·intro h
     refine ⟨h0', h15', ?_⟩
     have h2 : c / 2 ^ 128 = 0 := h
     rcases Nat.div_eq_zero_iff.1 h2 with h3 | h3
     ·omega
     ·exact h3
    ·rintro ⟨_, _, h⟩
     exact Nat.div_eq_of_lt h
theorem vrel_one {G : Gh} {c : Nat} {v : Value} (h : VRel G c v) (h15 : c ≠ 15) : v.oneCell' = true := by
  cases h with
  | undef => exact absurd rfl h15
  | clo b v hg hb hv => obtain ⟨_, _, _, rfl⟩ := hv; rfl
  | _ => rfl
theorem okP_part {c wd : Nat} {v : Value} (h : BRel G c v) (hc : okP wd c = true) (hw : 128 ≤ wd) : wd = 128 * v.cells.size ∧ Row G (raw c wd) v.cells ∧ raw c wd < 2 ^ wd ∧ 0 < v.cells.size := by
 have e : okP wd c = Bool.rec (motive := fun _ => Bool) (Bool.rec (motive := fun _ => Bool) false (sc c) (Nat.beq wd 128)) true (isAgg c wd) := rfl
 rw [e] at hc
 cases ha : isAgg c wd with
 | true =>
  obtain ⟨bits, cs, rfl, hr, rfl, hW, hb⟩ := brel_agg h ha hw
  rw [raw_top _ _ hb]
  refine ⟨hW, hr, hb, ?_⟩
  show 0 < cs.size
  omega
 | false =>
  rw [ha] at hc
  dsimp only at hc
  obtain ⟨h1, h2⟩ := and_of' hc
  have hw1 := beq_iff.1 h2
  subst hw1
  obtain ⟨h3, h4, h5⟩ := sc_iff.1 h1
  have hv := brel_small h h3 h5
  rw [raw_small _ _ h5]
  have hone : v.oneCell' = true := vrel_one hv h4
  have hcells : v.cells = #[v] := by cases v <;> first | rfl | cases hone
  rw [hcells]
  refine ⟨rfl, fun i u hi => ?_, h5, by simp⟩
  have : i = 0 ∧ u = v := by
   cases i with
   | zero => simpa using hi.symm
   | succ i => simp at hi
  obtain ⟨rfl, rfl⟩ := this
  have : cell c 0 = c := gw_all _ _ h5
  rw [this]
  exact ⟨hone, .inr hv⟩
end
end Go.Vm
namespace Go.Vm
open Go
section
variable (X : GX) (P : Program) {w : World} {G : Gh} {S : St}
theorem run_mapM {α β : Type} {f : α → Sem β} {g : α → β} : ∀ (l : List α), (∀ x ∈ l, (f x).run P w = .ok (g x) w) → (l.mapM f).run P w = .ok (l.map g) w
 | [], _ => by simp
 | a :: l, h => by
  have ih := run_mapM (f := f) (g := g) l fun x hx => h x (List.mem_cons_of_mem _ hx)
  simp [List.mapM_cons, h a (List.mem_cons_self ..), ih]
theorem run_mapMA {α β : Type} {f : α → Sem β} {g : α → β} (xs : Array α) (h : ∀ x ∈ xs.toList, (f x).run P w = .ok (g x) w) : (xs.mapM f).run P w = .ok (xs.map g) w := by
 rw [Array.mapM_eq_mapM_toList, Sem.run_map, run_mapM P xs.toList h]
 have e : (xs.toList.map g).toArray = xs.map g := Array.toList_inj.1 (by simp)
 simp only [Result.andThen_ok, e]
def ElemOk (d : TypeDesc) : Prop := match d with
  | .pointer e | .slice e | .array _ e | .chan _ e => (X.ty e).isSome = true
  | .map k e => (X.ty k).isSome = true ∧ (X.ty e).isSome = true
  | .struct fs => ∀ f ∈ fs.toList, (X.ty f.type).isSome = true
  | _ => True
theorem und_elem (hX : XOk X P) {t : TypeId} {d : TypeDesc} (hu : und X.ty t = d) : ElemOk X d := by
 unfold und at hu
 cases ht : X.ty t with
 | none => rw [ht] at hu; dsimp only at hu; subst hu; trivial
 | some i =>
  rw [ht] at hu
  dsimp only at hu
  have h1 := hX.elem t i ht
  cases hi : i.desc <;> rw [hi] at hu h1 <;> dsimp only at hu
  case named n u =>
   cases hj : X.ty u with
   | none => rw [hj] at hu; dsimp only at hu; subst hu; trivial
   | some j =>
    rw [hj] at hu
    dsimp only at hu
    have h2 := hX.elem u j hj
    have h3 := hX.flat t i ht n u hi j hj
    subst hu
    cases hd : j.desc <;> rw [hd] at h2 <;> first | exact h2 | trivial | (exact absurd hd (h3 _ _))
  all_goals (subst hu; first | exact h1 | trivial)
theorem zOk_of {t : TypeId} (h : zOk X.ty t = true) : ∃ i v, X.ty t = some i ∧ i.zero = some v ∧ v.cells.size = i.size ∧ (∀ c ∈ v.cells.toList, c.oneCell' = true) ∧ 0 < i.size ∧ zRow X t = cRow X v.cells.toList ∧ szOf X.ty t = i.size ∧ zVal X t = (cVal X v).1 ∧
  (isAg X.ty t = true → ∃ cs, v = .agg cs) ∧ (isAg X.ty t = false → v.cells = #[v]) := by
 unfold zOk at h
 cases ht : X.ty t with
 | none => rw [ht] at h; cases h
 | some i =>
  rw [ht] at h
  dsimp only at h
  cases hz : i.zero with
  | none => rw [hz] at h; cases h
  | some v =>
   rw [hz] at h
   dsimp only at h
   simp only [Bool.and_eq_true, beq_iff_eq] at h
   obtain ⟨⟨⟨h1, h2⟩, h3⟩, h4⟩ := h
   refine ⟨i, v, rfl, hz, h1, fun c hc => List.all_eq_true.1 h2 c hc, ble_iff.1 h3, ?_, ?_, ?_, fun h5 => ?_, fun h5 => ?_⟩
   ·unfold zRow; rw [ht]; simp only [Option.bind_some, hz]
   ·unfold szOf; rw [ht]
   ·unfold zVal; rw [ht]; simp only [Option.bind_some, hz]
   ·cases v <;> first | exact ⟨_, rfl⟩ | (rw [h5] at h4; cases h4)
   ·cases v <;> first | rfl | (rw [h5] at h4; cases h4)
theorem run_zero (hX : XOk X P) {t : TypeId} {i : TypeInfo} {v : Value} (ht : X.ty t = some i) (hz : i.zero = some v) (w : World) : (zeroValue t).run P w = .ok v w := by
 simp [zeroValue, typeInfo, hX.ty t i ht, hz]
theorem zRow_ok (hp : PoolOk X G) {t : TypeId} {v : Value} {i : TypeInfo} (h1 : v.cells.size = i.size) (h2 : ∀ c ∈ v.cells.toList, c.oneCell' = true) (h3 : zRow X t = cRow X v.cells.toList) : Row G (zRow X t) v.cells ∧ zRow X t < 2 ^ (128 * i.size) := by
 obtain ⟨h4, h5⟩ := cRow_ok (G := G) hp v.cells.toList
 rw [h3]
 refine ⟨fun j u hj => ?_, by rw [← h1, ← Array.length_toList]; exact h4⟩
 have hj' : v.cells.toList[j]? = some u := by simpa using hj
 rw [h5 j u hj']
 exact ⟨h2 u (List.mem_of_getElem? hj'), (cell_const hp u).1⟩
theorem fill_ok {ev : Operand → Value} {ρ : Operand → Nat × Nat} {pl : Nat → Option (Nat × TypeId)} {mp : Nat → Option (Nat × Nat)} (hmp : ∀ i o t, pl i = some (o, t) → mp i = some (o, szOf X.ty t)) :
  ∀ (ps : List (Nat × Operand)) (l : List ((Nat × Nat) × Nat)) (cs : Array Value) (bits : Nat), (∀ p ∈ ps, BRel G (ρ p.2).1 (ev p.2)) → dParts X ρ pl ps = some l → okL l = true → (∀ p ∈ l, p.1.1 + p.1.2 ≤ 128 * cs.size) → Row G bits cs → bits < 2 ^ (128 * cs.size) →
   ∃ cs', Instr.fill mp cs (ps.map fun p => (p.1, ev p.2)) = some cs' ∧ cs'.size = cs.size ∧ Row G (lay bits l) cs' ∧ lay bits l < 2 ^ (128 * cs.size)
 | [], l, cs, bits, _, hd, _, _, hr, hb => by
  simp only [dParts, Option.some.injEq] at hd
  subst hd
  exact ⟨cs, rfl, rfl, hr, hb⟩
 | (i, x) :: ps, l, cs, bits, hρ, hd, hok, hin, hr, hb => by
  unfold dParts at hd
  cases hpl : pl i with
  | none => rw [hpl] at hd; cases hd
  | some ot =>
   obtain ⟨o, t⟩ := ot
   cases hdr : dParts X ρ pl ps with
   | none => rw [hpl, hdr] at hd; cases hd
   | some r =>
    rw [hpl, hdr] at hd
    dsimp only at hd
    cases hz : Nat.beq (szOf X.ty t) 0 with
    | true => rw [hz] at hd; cases hd
    | false =>
     rw [hz] at hd
     cases hd
     have hz' : szOf X.ty t ≠ 0 := fun h => by rw [h] at hz; cases hz
     have e1 : okL (((128 * o, 128 * szOf X.ty t), (ρ x).1) :: r) = Bool.rec (motive := fun _ => Bool) false (okL r) (okP (128 * szOf X.ty t) (ρ x).1) := rfl
     rw [e1] at hok
     obtain ⟨h1, h2⟩ := and_of' hok
     obtain ⟨h3, h4, h5, h6⟩ := okP_part (hρ (i, x) (List.mem_cons_self ..)) h2 (by omega)
     dsimp only at h3 h4 h5 h6
     have hsz : (ev x).cells.size = szOf X.ty t := by omega
     have hin0 : 128 * o + 128 * szOf X.ty t ≤ 128 * cs.size := hin _ (List.mem_cons_self ..)
     have hset := setAt_fold cs o (ev x).cells (by omega)
     generalize hcs' : (ev x).cells.zipIdx.foldl (fun cs (c, j) => cs.setIfInBounds (o + j) c) cs = cs' at hset
     have hrow : Row G (pw bits (128 * o) (128 * szOf X.ty t) (raw (ρ x).1 (128 * szOf X.ty t))) cs' := by
      rw [← hsz]
      rw [← hsz] at h4 h5
      exact hr.set h4 h5 hset
     have hbits : pw bits (128 * o) (128 * szOf X.ty t) (raw (ρ x).1 (128 * szOf X.ty t)) < 2 ^ (128 * cs'.size) := by
      rw [hset.size]; exact pw_lt _ _ _ _ _ h5 hb hin0
     obtain ⟨cs'', h7, h8, h9, h10⟩ := fill_ok hmp ps r cs' _ (fun p hp => hρ p (List.mem_cons_of_mem _ hp)) hdr h1 (fun p hp => by rw [hset.size]; exact hin p (List.mem_cons_of_mem _ hp)) hrow hbits
     refine ⟨cs'', ?_, h8.trans hset.size, h9, by rw [← hset.size]; exact h10⟩
     show Instr.fill mp cs ((i, ev x) :: ps.map fun p => (p.1, ev p.2)) = some cs''
     rw [Instr.fill, hmp i o t hpl]
     dsimp only
     rw [if_neg (by simp [hsz]; omega), hcs', h7]
theorem op_bld (hX : XOk X P) (hp : PoolOk X G) {ev : Operand → Value} {ρ : Operand → Nat × Nat} {t : TypeId} {ps : Array (Nat × Operand)} {l : List ((Nat × Nat) × Nat)} (hρ : ∀ p ∈ ps.toList, BRel G (ρ p.2).1 (ev p.2)) (hz : zOk X.ty t = true) (hag : isAg X.ty t = true)
  (hd : dParts X ρ (place X.ty t) ps.toList = some l) (hin : ∀ p ∈ l, p.1.1 + p.1.2 ≤ 128 * szOf X.ty t) (h0 : bld (128 * szOf X.ty t) (zRow X t) l ≠ 0) :
  GivesB P w G (Instr.build t (ps.map fun (i, x) => (i, ev x))) (bld (128 * szOf X.ty t) (zRow X t) l) (128 * szOf X.ty t + 1) := by
 obtain ⟨i, v, ht, hzv, h1, h2, h3, h4, h5, h6, h7, h8⟩ := zOk_of X hz
 obtain ⟨cz, rfl⟩ := h7 hag
 obtain ⟨hzr, hzl⟩ := zRow_ok X hp h1 h2 h4
 obtain ⟨h9, h10⟩ := arm0 (show Bool.rec (motive := fun _ => Nat) 0 (Nat.add (lay (zRow X t) l) (top (128 * szOf X.ty t))) (okL l) = bld (128 * szOf X.ty t) (zRow X t) l from rfl) h0
 have hcz : cz.size = szOf X.ty t := by rw [h5]; exact h1
 have hz1 := run_zero X P hX ht hzv w
 have fin : ∀ (mp : Nat → Option (Nat × Nat)), (∀ i o t', place X.ty t i = some (o, t') → mp i = some (o, szOf X.ty t')) → ∃ cs', Instr.fill mp cz (ps.toList.map fun p => (p.1, ev p.2)) = some cs' ∧ cs'.size = szOf X.ty t ∧ BRel G (bld (128 * szOf X.ty t) (zRow X t) l) (.agg cs') ∧ bld (128 * szOf X.ty t) (zRow X t) l < 2 ^ (128 * szOf X.ty t + 1) := by
  intro mp hmp
  obtain ⟨cs', h11, h12, h13, h14⟩ := fill_ok X hmp ps.toList l cz (zRow X t) hρ hd h9 (by rw [hcz]; exact hin) hzr (by rw [hcz, h5]; exact hzl)
  rw [hcz] at h12 h14
  refine ⟨cs', h11, h12, ?_, ?_⟩
  ·have := BRel.agg _ _ h13 (by omega) (by rw [h12]; exact h14)
   rw [h12] at this
   rw [← h10]; exact this
  ·rw [← h10]
   show lay (zRow X t) l + 2 ^ (128 * szOf X.ty t) < _
   rw [Nat.pow_succ]; omega
 have hlist : (ps.map fun (i, x) => (i, ev x)).toList = ps.toList.map fun p => (p.1, ev p.2) := by simp
 have hud : und X.ty t ≠ .invalid := by intro h; unfold isAg at hag; rw [h] at hag; cases hag
 have r1 := hX.run_und hud w
 cases hu : und X.ty t <;> (unfold isAg at hag; rw [hu] at hag) <;> first | (cases hag; done) | skip
 case struct fs =>
  rw [hu] at r1
  have hel : ElemOk X _ := und_elem X P hX hu
  dsimp only [ElemOk] at hel
  obtain ⟨cs', h11, h12, h13, h14⟩ := fin (fun i => (fs.map fun f => (f.offset, szOf X.ty f.type))[i]?) (fun i o t' hpl => by
   unfold place at hpl
   rw [hu] at hpl
   dsimp only at hpl ⊢
   rw [Array.getElem?_map]
   cases hf : fs[i]? with
   | none => rw [hf] at hpl; cases hpl
   | some f => rw [hf] at hpl; cases hpl; rfl)
  refine ⟨.agg cs', ?_, h13, h14⟩
  have hm := run_mapMA P (w := w) (f := fun f : Field => (do pure (f.offset, ← sizeOf f.type) : Sem (Nat × Nat))) (g := fun f => (f.offset, szOf X.ty f.type)) fs (fun f hf => by simp [hX.run_size (hel f hf) w])
  unfold Instr.build
  simp only [Sem.run_bind, hz1, Result.andThen_ok, r1, hm, hlist]
  rw [show (Value.agg cz).cells = cz from rfl, h11]
  rfl
 case array n e =>
  rw [hu] at r1
  have hel : ElemOk X _ := und_elem X P hX hu
  dsimp only [ElemOk] at hel
  obtain ⟨cs', h11, h12, h13, h14⟩ := fin (fun i => some (i * szOf X.ty e, szOf X.ty e)) (fun i o t' hpl => by
   unfold place at hpl
   rw [hu] at hpl
   dsimp only at hpl ⊢
   cases hpl; rfl)
  refine ⟨.agg cs', ?_, h13, h14⟩
  unfold Instr.build
  simp only [Sem.run_bind, hz1, Result.andThen_ok, r1, hX.run_size hel w, hlist]
  rw [show (Value.agg cz).cells = cz from rfl, h11]
  rfl
end
end Go.Vm
namespace Go.Vm
open Go
structure Turned (w : World) (r : Nat) (ob : Obj) (w' : World) : Prop where
 os : w'.os = w.os
 tape : w'.tape = w.tape
 output : w'.output = w.output
 size : w'.heap.size = w.heap.size
 at_ : w'.heap[r]? = some ob
 other : ∀ k, k ≠ r → w'.heap[k]? = w.heap[k]?
theorem Turned.refl {w : World} {r : Nat} {ob : Obj} (h : w.heap[r]? = some ob) : Turned w r ob w := ⟨rfl, rfl, rfl, rfl, h, fun _ _ => rfl⟩
theorem Turned.trans {w w' w'' : World} {r : Nat} {a b : Obj} (h : Turned w r a w') (h' : Turned w' r b w'') : Turned w r b w'' :=
 ⟨h'.os.trans h.os, h'.tape.trans h.tape, h'.output.trans h.output, h'.size.trans h.size, h'.at_, fun k hk => (h'.other k hk).trans (h.other k hk)⟩
theorem turned_setCell {w : World} {r j : Nat} {cs : Array Value} {el : TypeId} {fz : Nat × Nat} {v : Value} (h : w.heap[r]? = some (.cells cs el fz)) : Turned w r (.cells (cs.setIfInBounds j v) el fz) (w.setCell ⟨r, j, none⟩ v) := by
 have hlt := (Array.getElem?_eq_some_iff.1 h).1
 refine ⟨rfl, rfl, rfl, by simp, ?_, fun k hk => ?_⟩
 ·simp only [World.setCell, Array.getElem?_modify, if_pos, h]; simp
 ·simp only [World.setCell, Array.getElem?_modify]
  rw [if_neg (Ne.symm hk)]
theorem run_storeCells (P : Program) (r o : Nat) (el : TypeId) (fz : Nat × Nat) : ∀ (vs : List Value) (i : Nat) (cs : Array Value) (w : World), w.heap[r]? = some (.cells cs el fz) → (∀ j, o + i ≤ j → j < o + i + vs.length → ¬ (fz.1 ≤ j ∧ j < fz.2)) →
  o + i + vs.length ≤ cs.size → (∀ v ∈ vs, v.oneCell' = true) →
  ∃ cs' w', (storeCells ⟨r, o, none⟩ vs i).run P w = .ok () w' ∧ Turned w r (.cells cs' el fz) w' ∧ cs'.size = cs.size ∧ ∀ k, cs'[k]? = if o + i ≤ k ∧ k < o + i + vs.length then vs[k - (o + i)]? else cs[k]?
 | [], i, cs, w, hg, _, _, _ => ⟨cs, w, rfl, .refl hg, rfl, fun k => by rw [if_neg (by intro h; simp at h; omega)]⟩
 | v :: vs, i, cs, w, hg, hfz, hl, h1 => by
  simp only [List.length_cons] at hl hfz
  have hlt : o + i < cs.size := by omega
  have hcell : w.cell? ⟨r, o + i, none⟩ = some cs[o + i] := by simp [World.cell?, hg, hlt]
  have hfro : w.frozen? ⟨r, o + i, none⟩ = false := by
   have := hfz (o + i) (by omega) (by omega)
   simp only [World.frozen?, hg, Bool.and_eq_false_iff, decide_eq_false_iff_not]
   by_cases h : fz.1 ≤ o + i
   ·exact .inr fun h' => this ⟨h, h'⟩
   ·exact .inl h
  have hst : (store ((⟨r, o, none⟩ : Addr).add i) v).run P w = .ok () (w.setCell ⟨r, o + i, none⟩ v) := by
   rw [addr_add, run_store P w _ v _ (h1 v (by simp)), hcell]
   simp [hfro]
  have ht := turned_setCell (j := o + i) (v := v) hg
  obtain ⟨cs', w', h2, h3, h4, h5⟩ := run_storeCells P r o el fz vs (i + 1) (cs.setIfInBounds (o + i) v) _ ht.at_ (fun j h6 h7 => hfz j (by omega) (by omega)) (by simp; omega) (fun x hx => h1 x (by simp [hx]))
  refine ⟨cs', w', ?_, ht.trans h3, by rw [h4]; simp, fun k => ?_⟩
  ·simp only [storeCells, Sem.run_bind, hst, Result.andThen_ok, h2]
  ·rw [h5]
   simp only [List.length_cons]
   by_cases hk : k = o + i
   ·subst hk
    rw [if_neg (by omega), if_pos (by omega), Nat.sub_self, Array.getElem?_setIfInBounds, if_pos rfl, if_pos hlt]
    rfl
   ·by_cases hr : o + (i + 1) ≤ k ∧ k < o + (i + 1) + vs.length
    ·rw [if_pos hr, if_pos (by omega)]
     have e : k - (o + i) = (k - (o + (i + 1))) + 1 := by omega
     rw [e, List.getElem?_cons_succ]
    ·rw [if_neg hr, if_neg (by omega), Array.getElem?_setIfInBounds, if_neg (Ne.symm hk)]
section
variable (X : GX) (P : Program) {w : World} {G : Gh} {S : St}
theorem HR.at_ (hr : HR X G S w) {b r δ z : Nat} (hg : G b = some (.row r δ z)) : ∃ n ro tip bits cs el fz, S.blk b = .mk 0 n ro tip bits ∧ n ≤ z ∧ ro ≤ n ∧ w.heap[r]? = some (.cells cs el fz) ∧ cs.size = δ + z ∧
  (∀ i v, i < n → cs[δ + i]? = some v → CRel G (cell bits i) v) ∧ (∀ i, i < δ + z → ¬ (fz.1 ≤ i ∧ i < fz.2)) := by
 obtain ⟨n, ro, tip, bits, h1, h2, h3, cs, el, fz, h4, h5, h6, h7⟩ := hr.row b r δ z hg
 exact ⟨n, ro, tip, bits, cs, el, fz, h1, h2, h3, h4, h5, h6, h7⟩
theorem obj_cells {B : Blk} {cs : Array Value} {el : TypeId} {fz : Nat × Nat} (h : Object G B (.cells cs el fz)) : False := by
 cases B with
 | mk k a b c bits => rcases h with ⟨_, es, h, _⟩ | ⟨_, buf, s, rr, h, _⟩ <;> cases h
theorem HR.write (hr : HR X G S w) {b r δ z n ro tip bits off vb : Nat} {vs cs cs' : Array Value} {el : TypeId} {fz : Nat × Nat} {S' : St} {w' : World} (hg : G b = some (.row r δ z)) (hB : S.blk b = .mk 0 n ro tip bits)
  (hoff : ro ≤ off) (hin : off + vs.size ≤ n) (hrow : Row G vb vs) (hvb : vb < 2 ^ (128 * vs.size)) (hh : w.heap[r]? = some (.cells cs el fz)) (hset : SetAt cs (δ + off) vs cs')
  (hc : S'.cnt = S.cnt) (hb : ∀ k, S'.blk k = if k = b then .mk 0 n ro tip (pw bits (128 * off) (128 * vs.size) vb) else S.blk k) (hw : Turned w r (.cells cs' el fz) w') : HR X G S' w' ∧ Ext G S w G S' w' := by
 have hblt : b < S.cnt := hr.dom b _ hg
 have hsame : ∀ k, k ≠ b → S'.blk k = S.blk k := fun k hk => by rw [hb, if_neg hk]
 have back : ∀ k n' ro' tip' bits', S'.blk k = .mk 0 n' ro' tip' bits' → ∃ bits'', S.blk k = .mk 0 n' ro' tip' bits'' := by
  intro k n' ro' tip' bits' h
  by_cases e : k = b
  ·subst e; rw [hb, if_pos rfl] at h; cases h; exact ⟨_, hB⟩
  ·rw [hsame k e] at h; exact ⟨_, h⟩
 constructor
 ·refine ⟨fun k hk => ?_, fun k x hx => by rw [hc]; exact hr.dom k x hx, fun b' r' δ' z' hg' => ?_, fun b' v hg' => ?_, fun b' r' hg' => ?_, hr.one, ?_⟩
  ·rw [hsame k (by omega)]; exact hr.cln k (by omega)
  ·obtain ⟨n', ro', tip', bits', h1, h2, h3, cs0, el0, fz0, h4, h5, h6, h7⟩ := hr.row b' r' δ' z' hg'
   by_cases e : b' = b
   ·subst e
    rw [hg] at hg'; cases hg'
    rw [hB] at h1; cases h1
    rw [hh] at h4; cases h4
    refine ⟨n, ro, tip, _, by rw [hb, if_pos rfl], h2, h3, cs', el, fz, hw.at_, by rw [hset.size]; exact h5, fun i v hi hv => ?_, h7⟩
    rw [cell_pw _ _ _ _ _ hvb]
    rw [hset.get] at hv
    by_cases hc' : off ≤ i ∧ i < off + vs.size
    ·rw [if_pos hc']
     rw [if_pos (by omega)] at hv
     have e : δ + i - (δ + off) = i - off := by omega
     rw [e] at hv
     exact hrow _ _ hv
    ·rw [if_neg hc']
     rw [if_neg (by omega)] at hv
     exact h6 i v hi hv
   ·by_cases er : r' = r
    ·subst er
     rw [hh] at h4; cases h4
     refine ⟨n', ro', tip', bits', by rw [hsame b' e]; exact h1, h2, h3, cs', el, fz, hw.at_, by rw [hset.size]; exact h5, fun i v hi hv => ?_, h7⟩
     rw [hset.get] at hv
     by_cases hc' : δ + off ≤ δ' + i ∧ δ' + i < δ + off + vs.size
     ·exfalso
      have := (hr.apart b b' r' δ z δ' z' n ro tip bits n' ro' tip' bits' (Ne.symm e) hg hg' hB h1).1 (δ' + i - δ) i (by omega) hi (by omega)
      omega
     ·rw [if_neg hc'] at hv
      exact h6 i v hi hv
    ·exact ⟨n', ro', tip', bits', by rw [hsame b' e]; exact h1, h2, h3, cs0, el0, fz0, by rw [hw.other r' er]; exact h4, h5, h6, h7⟩
  ·rw [hsame b' (fun e => by subst e; rw [hg] at hg'; cases hg')]; exact hr.val b' v hg'
  ·obtain ⟨o, h1, h2⟩ := hr.obj b' r' hg'
   have hne : r' ≠ r := fun e => by subst e; rw [hh] at h1; cases h1; exact obj_cells h2
   rw [hsame b' (fun e => by subst e; rw [hg] at hg'; cases hg')]
   exact ⟨o, by rw [hw.other r' hne]; exact h1, h2⟩
  ·intro b1 b2 r' δ1 z1 δ2 z2 n1 ro1 tip1 bits1 n2 ro2 tip2 bits2 hne h1 h2 h3 h4
   obtain ⟨_, h3'⟩ := back _ _ _ _ _ h3
   obtain ⟨_, h4'⟩ := back _ _ _ _ _ h4
   exact hr.apart b1 b2 r' δ1 z1 δ2 z2 _ _ _ _ _ _ _ _ hne h1 h2 h3' h4'
 ·refine ⟨fun _ _ h => h, hw.os, hw.tape, hw.output, by rw [hw.size]; exact Nat.le_refl _, fun r' hr' hn => ?_, by rw [hc]; exact Nat.le_refl _, fun k hk hgk => ⟨hsame k (fun e => by subst e; rw [hg] at hgk; cases hgk), hgk⟩, fun b' x r' h h' _ => ⟨b', x, h, h'⟩⟩
  exact hw.other r' fun e => hn b _ hg (by rw [e]; rfl)
structure Grown1 (w : World) (ob : Obj) (w' : World) : Prop where
 os : w'.os = w.os
 tape : w'.tape = w.tape
 output : w'.output = w.output
 size : w'.heap.size = w.heap.size + 1
 at_ : w'.heap[w.heap.size]? = some ob
 other : ∀ k, k < w.heap.size → w'.heap[k]? = w.heap[k]?
theorem grown_alloc (w : World) (ob : Obj) : Grown1 w ob { w with heap := w.heap.push ob } :=
 ⟨rfl, rfl, rfl, by simp, by simp, fun k hk => by simp [Array.getElem?_push, Nat.ne_of_lt hk]⟩
def Gh.put (G : Gh) (b : Nat) (x : GB) : Gh := fun k => if k = b then some x else G k
theorem put_le {b : Nat} {x : GB} (h : G b = none) : Gh.le G (G.put b x) := fun k y hk => by
 unfold Gh.put
 by_cases e : k = b
 ·subst e; rw [h] at hk; cases hk
 ·rw [if_neg e]; exact hk
theorem put_at {b : Nat} {x : GB} : G.put b x b = some x := by simp [Gh.put]
theorem put_ne {b k : Nat} {x : GB} (h : k ≠ b) : G.put b x k = G k := by simp [Gh.put, h]
theorem HR.row_lt (hr : HR X G S w) {b r δ z : Nat} (hg : G b = some (.row r δ z)) : r < w.heap.size := by
 obtain ⟨_, _, _, _, _, _, _, _, _, _, h, _⟩ := hr.at_ X hg
 exact (Array.getElem?_eq_some_iff.1 h).1
theorem HR.obj_lt (hr : HR X G S w) {b r : Nat} (hg : G b = some (.obj r)) : r < w.heap.size := by
 obtain ⟨_, h, _⟩ := hr.obj b r hg
 exact (Array.getElem?_eq_some_iff.1 h).1
theorem HR.newrow (hr : HR X G S w) {b n ro tip bits z : Nat} {cs : Array Value} {el : TypeId} {fz : Nat × Nat} {w' : World} (hb : b < S.cnt) (hg : G b = none) (hB : S.blk b = .mk 0 n ro tip bits) (hn : n ≤ z) (hro : ro ≤ n) (hz : cs.size = z)
  (hrow : ∀ i v, i < n → cs[i]? = some v → CRel G (cell bits i) v) (hfz : ∀ i, i < z → ¬ (fz.1 ≤ i ∧ i < fz.2)) (hw : Grown1 w (.cells cs el fz) w') :
  HR X (G.put b (.row w.heap.size 0 z)) S w' ∧ Born G w b (G.put b (.row w.heap.size 0 z)) w' := by
 have hle : Gh.le G (G.put b (.row w.heap.size 0 z)) := put_le hg
 constructor
 ·refine ⟨hr.cln, fun k x hx => ?_, fun b' r' δ' z' hg' => ?_, fun b' v hg' => ?_, fun b' r' hg' => ?_, fun b1 b2 r' h1 h2 => ?_, ?_⟩
  ·by_cases e : k = b
   ·subst e; exact hb
   ·rw [put_ne e] at hx; exact hr.dom k x hx
  ·by_cases e : b' = b
   ·subst e
    rw [put_at] at hg'; cases hg'
    exact ⟨n, ro, tip, bits, hB, hn, hro, cs, el, fz, hw.at_, by omega, fun i v hi hv => (hrow i v hi (by simpa using hv)).mono hle, fun i hi => hfz i (by omega)⟩
   ·rw [put_ne e] at hg'
    obtain ⟨n', ro', tip', bits', h1, h2, h3, cs0, el0, fz0, h4, h5, h6, h7⟩ := hr.row b' r' δ' z' hg'
    exact ⟨n', ro', tip', bits', h1, h2, h3, cs0, el0, fz0, by rw [hw.other r' (hr.row_lt X hg')]; exact h4, h5, fun i v hi hv => (h6 i v hi hv).mono hle, h7⟩
  ·by_cases e : b' = b
   ·subst e; rw [put_at] at hg'; cases hg'
   ·rw [put_ne e] at hg'; exact (hr.val b' v hg').mono hle
  ·by_cases e : b' = b
   ·subst e; rw [put_at] at hg'; cases hg'
   ·rw [put_ne e] at hg'
    obtain ⟨o, h1, h2⟩ := hr.obj b' r' hg'
    exact ⟨o, by rw [hw.other r' (hr.obj_lt X hg')]; exact h1, h2.mono hle⟩
  ·have e1 : b1 ≠ b := fun e => by subst e; rw [put_at] at h1; cases h1
   have e2 : b2 ≠ b := fun e => by subst e; rw [put_at] at h2; cases h2
   rw [put_ne e1] at h1
   rw [put_ne e2] at h2
   exact hr.one b1 b2 r' h1 h2
  ·intro b1 b2 r' δ1 z1 δ2 z2 n1 ro1 tip1 bits1 n2 ro2 tip2 bits2 hne h1 h2 h3 h4
   by_cases e1 : b1 = b
   ·have e2 : b2 ≠ b := fun e => hne (e1.trans e.symm)
    rw [put_ne e2] at h2
    rw [e1, put_at] at h1; cases h1
    exact absurd (hr.row_lt X h2) (Nat.lt_irrefl _)
   ·rw [put_ne e1] at h1
    by_cases e2 : b2 = b
    ·rw [e2, put_at] at h2; cases h2
     exact absurd (hr.row_lt X h1) (Nat.lt_irrefl _)
    ·rw [put_ne e2] at h2
     exact hr.apart b1 b2 r' δ1 z1 δ2 z2 _ _ _ _ _ _ _ _ hne h1 h2 h3 h4
 ·refine ⟨hle, fun k hk => put_ne hk, hw.os, hw.tape, hw.output, by rw [hw.size]; omega, fun r' hr' => hw.other r' hr', fun x r' hx hxr => ?_⟩
  rw [put_at] at hx; cases hx
  have : w.heap.size = r' := Option.some.inj hxr
  omega
theorem HR.newval (hr : HR X G S w) {b : Nat} {v : Value} (hb : b < S.cnt) (hg : G b = none) (hB : Boxed X G (S.blk b) v) : HR X (G.put b (.val v)) S w ∧ Born G w b (G.put b (.val v)) w := by
 have hle : Gh.le G (G.put b (.val v)) := put_le hg
 constructor
 ·refine ⟨hr.cln, fun k x hx => ?_, fun b' r' δ' z' hg' => ?_, fun b' v' hg' => ?_, fun b' r' hg' => ?_, fun b1 b2 r' h1 h2 => ?_, ?_⟩
  ·by_cases e : k = b
   ·subst e; exact hb
   ·rw [put_ne e] at hx; exact hr.dom k x hx
  ·have e : b' ≠ b := fun e => by subst e; rw [put_at] at hg'; cases hg'
   rw [put_ne e] at hg'
   obtain ⟨n', ro', tip', bits', h1, h2, h3, cs0, el0, fz0, h4, h5, h6, h7⟩ := hr.row b' r' δ' z' hg'
   exact ⟨n', ro', tip', bits', h1, h2, h3, cs0, el0, fz0, h4, h5, fun i v hi hv => (h6 i v hi hv).mono hle, h7⟩
  ·by_cases e : b' = b
   ·subst e; rw [put_at] at hg'; cases hg'; exact hB.mono hle
   ·rw [put_ne e] at hg'; exact (hr.val b' v' hg').mono hle
  ·have e : b' ≠ b := fun e => by subst e; rw [put_at] at hg'; cases hg'
   rw [put_ne e] at hg'
   obtain ⟨o, h1, h2⟩ := hr.obj b' r' hg'
   exact ⟨o, h1, h2.mono hle⟩
  ·have e1 : b1 ≠ b := fun e => by subst e; rw [put_at] at h1; cases h1
   have e2 : b2 ≠ b := fun e => by subst e; rw [put_at] at h2; cases h2
   rw [put_ne e1] at h1
   rw [put_ne e2] at h2
   exact hr.one b1 b2 r' h1 h2
  ·intro b1 b2 r' δ1 z1 δ2 z2 n1 ro1 tip1 bits1 n2 ro2 tip2 bits2 hne h1 h2 h3 h4
   have e1 : b1 ≠ b := fun e => by subst e; rw [put_at] at h1; cases h1
   have e2 : b2 ≠ b := fun e => by subst e; rw [put_at] at h2; cases h2
   rw [put_ne e1] at h1
   rw [put_ne e2] at h2
   exact hr.apart b1 b2 r' δ1 z1 δ2 z2 _ _ _ _ _ _ _ _ hne h1 h2 h3 h4
 ·exact ⟨hle, fun k hk => put_ne hk, rfl, rfl, rfl, Nat.le_refl _, fun _ _ => rfl, fun x r' hx hxr => by rw [put_at] at hx; cases hx; cases hxr⟩
theorem HR.newobj (hr : HR X G S w) {b : Nat} {ob : Obj} {w' : World} (hb : b < S.cnt) (hg : G b = none) (hB : Object G (S.blk b) ob) (hw : Grown1 w ob w') : HR X (G.put b (.obj w.heap.size)) S w' ∧ Born G w b (G.put b (.obj w.heap.size)) w' := by
 have hle : Gh.le G (G.put b (.obj w.heap.size)) := put_le hg
 constructor
 ·refine ⟨hr.cln, fun k x hx => ?_, fun b' r' δ' z' hg' => ?_, fun b' v' hg' => ?_, fun b' r' hg' => ?_, fun b1 b2 r' h1 h2 => ?_, ?_⟩
  ·by_cases e : k = b
   ·subst e; exact hb
   ·rw [put_ne e] at hx; exact hr.dom k x hx
  ·have e : b' ≠ b := fun e => by subst e; rw [put_at] at hg'; cases hg'
   rw [put_ne e] at hg'
   obtain ⟨n', ro', tip', bits', h1, h2, h3, cs0, el0, fz0, h4, h5, h6, h7⟩ := hr.row b' r' δ' z' hg'
   exact ⟨n', ro', tip', bits', h1, h2, h3, cs0, el0, fz0, by rw [hw.other r' (hr.row_lt X hg')]; exact h4, h5, fun i v hi hv => (h6 i v hi hv).mono hle, h7⟩
  ·by_cases e : b' = b
   ·subst e; rw [put_at] at hg'; cases hg'
   ·rw [put_ne e] at hg'; exact (hr.val b' v' hg').mono hle
  ·by_cases e : b' = b
   ·subst e; rw [put_at] at hg'; cases hg'
    exact ⟨ob, hw.at_, hB.mono hle⟩
   ·rw [put_ne e] at hg'
    obtain ⟨o, h1, h2⟩ := hr.obj b' r' hg'
    exact ⟨o, by rw [hw.other r' (hr.obj_lt X hg')]; exact h1, h2.mono hle⟩
  ·by_cases e1 : b1 = b
   ·by_cases e2 : b2 = b
    ·rw [e1, e2]
    ·rw [put_ne e2] at h2
     rw [e1, put_at] at h1; cases h1
     exact absurd (hr.obj_lt X h2) (Nat.lt_irrefl _)
   ·rw [put_ne e1] at h1
    by_cases e2 : b2 = b
    ·rw [e2, put_at] at h2; cases h2
     exact absurd (hr.obj_lt X h1) (Nat.lt_irrefl _)
    ·rw [put_ne e2] at h2
     exact hr.one b1 b2 r' h1 h2
  ·intro b1 b2 r' δ1 z1 δ2 z2 n1 ro1 tip1 bits1 n2 ro2 tip2 bits2 hne h1 h2 h3 h4
   have e1 : b1 ≠ b := fun e => by subst e; rw [put_at] at h1; cases h1
   have e2 : b2 ≠ b := fun e => by subst e; rw [put_at] at h2; cases h2
   rw [put_ne e1] at h1
   rw [put_ne e2] at h2
   exact hr.apart b1 b2 r' δ1 z1 δ2 z2 _ _ _ _ _ _ _ _ hne h1 h2 h3 h4
 ·refine ⟨hle, fun k hk => put_ne hk, hw.os, hw.tape, hw.output, by rw [hw.size]; omega, fun r' hr' => hw.other r' hr', fun x r' hx hxr => ?_⟩
  rw [put_at] at hx; cases hx
  have : w.heap.size = r' := Option.some.inj hxr
  omega
theorem HR.setobj (hr : HR X G S w) {b r : Nat} {B : Blk} {ob : Obj} {S' : St} {w' : World} (hg : G b = some (.obj r)) (hc : S'.cnt = S.cnt) (hb : ∀ k, S'.blk k = if k = b then B else S.blk k) (hB : Object G B ob) (hw : Turned w r ob w') : HR X G S' w' ∧ Ext G S w G S' w' := by
 have hblt : b < S.cnt := hr.dom b _ hg
 have hsame : ∀ k, k ≠ b → S'.blk k = S.blk k := fun k hk => by rw [hb, if_neg hk]
 obtain ⟨o0, ho0, ho0'⟩ := hr.obj b r hg
 have hrow : ∀ {b' r' δ' z'}, G b' = some (.row r' δ' z') → b' ≠ b ∧ r' ≠ r := fun {b' r' δ' z'} h => by
  refine ⟨fun e => (by subst e; rw [hg] at h; cases h), fun e => ?_⟩
  subst e
  obtain ⟨_, _, _, _, _, _, _, _, _, _, h4, _⟩ := hr.at_ X h
  rw [ho0] at h4; cases h4; exact obj_cells ho0'
 constructor
 ·refine ⟨fun k hk => ?_, fun k x hx => by rw [hc]; exact hr.dom k x hx, fun b' r' δ' z' hg' => ?_, fun b' v hg' => ?_, fun b' r' hg' => ?_, hr.one, ?_⟩
  ·rw [hsame k (by omega)]; exact hr.cln k (by omega)
  ·obtain ⟨e1, e2⟩ := hrow hg'
   obtain ⟨n', ro', tip', bits', h1, h2, h3, cs0, el0, fz0, h4, h5, h6, h7⟩ := hr.row b' r' δ' z' hg'
   exact ⟨n', ro', tip', bits', by rw [hsame b' e1]; exact h1, h2, h3, cs0, el0, fz0, by rw [hw.other r' e2]; exact h4, h5, h6, h7⟩
  ·rw [hsame b' (fun e => by subst e; rw [hg] at hg'; cases hg')]; exact hr.val b' v hg'
  ·by_cases e : b' = b
   ·subst e
    rw [hg] at hg'; cases hg'
    exact ⟨ob, hw.at_, by rw [hb, if_pos rfl]; exact hB⟩
   ·obtain ⟨o, h1, h2⟩ := hr.obj b' r' hg'
    have hne : r' ≠ r := fun er => by subst er; exact e (hr.one b' b _ hg' hg)
    exact ⟨o, by rw [hw.other r' hne]; exact h1, by rw [hsame b' e]; exact h2⟩
  ·intro b1 b2 r' δ1 z1 δ2 z2 n1 ro1 tip1 bits1 n2 ro2 tip2 bits2 hne h1 h2 h3 h4
   rw [hsame b1 (hrow h1).1] at h3
   rw [hsame b2 (hrow h2).1] at h4
   exact hr.apart b1 b2 r' δ1 z1 δ2 z2 _ _ _ _ _ _ _ _ hne h1 h2 h3 h4
 ·refine ⟨fun _ _ h => h, hw.os, hw.tape, hw.output, by rw [hw.size]; exact Nat.le_refl _, fun r' hr' hn => ?_, by rw [hc]; exact Nat.le_refl _, fun k hk hgk => ⟨hsame k (fun e => by subst e; rw [hg] at hgk; cases hgk), hgk⟩, fun b' x r' h h' _ => ⟨b', x, h, h'⟩⟩
  exact hw.other r' fun e => hn b _ hg (by rw [e]; rfl)
end
end Go.Vm
namespace Go.Vm
open Go
section
variable (X : GX) (P : Program) {w : World} {G : Gh} {S : St}
theorem rdB_ok {R : Type} (hr : HR X G S w) {b r δ z off k : Nat} (hg : G b = some (.row r δ z)) (zz : R) (f : Nat → R) :
  rdB S b off (128 * k) zz f = zz ∨ ∃ n ro tip bits cs el fz, S.blk b = .mk 0 n ro tip bits ∧ n ≤ z ∧ ro ≤ n ∧ w.heap[r]? = some (.cells cs el fz) ∧ cs.size = δ + z ∧ (∀ i v, i < n → cs[δ + i]? = some v → CRel G (cell bits i) v) ∧ (∀ i, i < δ + z → ¬ (fz.1 ≤ i ∧ i < fz.2)) ∧
   off + k ≤ n ∧ rdB S b off (128 * k) zz f = f (gw bits (128 * off) (128 * k)) := by
 obtain ⟨n, ro, tip, bits, cs, el, fz, h1, h2, h3, h4, h5, h6, h7⟩ := hr.at_ X hg
 have e : rdB S b off (128 * k) zz f = Bool.rec (motive := fun _ => R) zz (f (gw bits (Nat.mul 128 off) (128 * k))) (Bool.rec (motive := fun _ => Bool) false (Nat.ble (Nat.add (Nat.mul 128 off) (128 * k)) (Nat.mul 128 n)) (Nat.beq 0 0)) := get_of h1
 rw [e]
 cases hb : Nat.ble (Nat.add (Nat.mul 128 off) (128 * k)) (Nat.mul 128 n) with
 | false => exact .inl rfl
 | true =>
  have hle : 128 * off + 128 * k ≤ 128 * n := ble_iff.1 hb
  exact .inr ⟨n, ro, tip, bits, cs, el, fz, h1, h2, h3, h4, h5, h6, h7, by omega, rfl⟩
theorem row_of {n δ o k : Nat} {bits : Nat} {cs : Array Value} (h : ∀ i v, i < n → cs[δ + i]? = some v → CRel G (cell bits i) v) (hk : o + k ≤ n) : Row G (gw bits (128 * o) (128 * k)) (cs.extract (δ + o) (δ + o + k)) := by
 intro i v hi
 rw [Array.getElem?_extract] at hi
 split at hi
 ·rename_i hlt
  have : i < k := by omega
  rw [cell_gw _ _ _ _ this]
  exact h (o + i) v (by omega) (by rw [← hi]; congr 1; omega)
 ·cases hi
theorem run_loadCells' {r o k : Nat} {cs : Array Value} {el : TypeId} {fz : Nat × Nat} (hh : w.heap[r]? = some (.cells cs el fz)) (hk : o + k ≤ cs.size) : (loadCells ⟨r, o, none⟩ k).run P w = .ok (cs.extract o (o + k)) w := by
 have hsz : (cs.extract o (o + k)).toList.length = k := by simp; omega
 have := run_loadCells_list (P := P) (w := w) ⟨r, o, none⟩ (cs.extract o (o + k)).toList (fun j v hj => by
  rw [addr_add]
  simp only [World.cell?, hh]
  have hj' : (cs.extract o (o + k))[j]? = some v := by rw [← Array.getElem?_toList]; exact hj
  rw [Array.getElem?_extract] at hj'
  split at hj'
  ·simpa using hj'
  ·cases hj')
 rw [hsz] at this
 rw [this]
theorem op_ld1 (hX : XOk X P) (hr : HR X G S w) {t : TypeId} (hd : und X.ty t ≠ .invalid) (hag : isAg X.ty t = false) {x : Nat} {u : Value} (hx : BRel G x u) (hbx : x < 2 ^ 128) (h0 : ld1 x S ≠ 0) : Gives P w G (Instr.loadAt t u) (ld1 x S) := by
 obtain ⟨h1, h2⟩ := arm0 (show Bool.rec (motive := fun _ => Nat) 0 (rdB S (blkOf x) (offOf x) 128 0 fun v => v) (isPtr x) = ld1 x S from rfl) h0
 obtain ⟨b, off, r, δ, z, rfl, hg, hb, rfl⟩ := brel_ptr hx ((isPtr_iff x).1 h1) hbx
 rw [← h2] at h0 ⊢
 rw [ptr_blk hb, ptr_off hb] at h0 ⊢
 rcases rdB_ok X hr (off := off) (k := 1) hg 0 (fun v => v) with h3 | ⟨n, ro, tip, bits, cs, el, fz, h3, h4, h5, h6, h7, h8, h9, h10, h11⟩
 ·exact absurd h3 h0
 ·have h11' : rdB S b off 128 0 (fun v => v) = cell bits off := h11
  rw [h11'] at h0 ⊢
  have hlt : δ + off < cs.size := by omega
  have hc := h8 off cs[δ + off] (by omega) (Array.getElem?_eq_getElem hlt)
  refine ⟨cs[δ + off], ?_, cell_brel hc (cell_lt _ _), cell_lt _ _⟩
  have hcell : w.cell? ⟨r, δ + off, none⟩ = some cs[δ + off] := by simp [World.cell?, h6, hlt]
  simp [Instr.loadAt, Instr.sureAddr, loadVar, run_isAgg X P hX hd w, hag, hcell]
theorem op_ldN (hX : XOk X P) (hr : HR X G S w) {t : TypeId} (hag : isAg X.ty t = true) (hs : szOf X.ty t ≠ 0) {x : Nat} {u : Value} (hx : BRel G x u) (hbx : x < 2 ^ 128) (h0 : ldN (128 * szOf X.ty t) x S ≠ 0) :
  GivesB P w G (Instr.loadAt t u) (ldN (128 * szOf X.ty t) x S) (128 * szOf X.ty t + 1) := by
 obtain ⟨h1, h2⟩ := arm0 (show Bool.rec (motive := fun _ => Nat) 0 (rdB S (blkOf x) (offOf x) (128 * szOf X.ty t) 0 fun v => Nat.add v (top (128 * szOf X.ty t))) (isPtr x) = ldN (128 * szOf X.ty t) x S from rfl) h0
 obtain ⟨b, off, r, δ, z, rfl, hg, hb, rfl⟩ := brel_ptr hx ((isPtr_iff x).1 h1) hbx
 rw [← h2] at h0 ⊢
 rw [ptr_blk hb, ptr_off hb] at h0 ⊢
 rcases rdB_ok X hr (off := off) (k := szOf X.ty t) hg 0 (fun v => Nat.add v (top (128 * szOf X.ty t))) with h3 | ⟨n, ro, tip, bits, cs, el, fz, h3, h4, h5, h6, h7, h8, h9, h10, h11⟩
 ·exact absurd h3 h0
 ·rw [h11]
  have hrow := row_of (o := off) (k := szOf X.ty t) h8 h10
  have hsz : (cs.extract (δ + off) (δ + off + szOf X.ty t)).size = szOf X.ty t := by simp; omega
  have hlt : gw bits (128 * off) (128 * szOf X.ty t) < 2 ^ (128 * szOf X.ty t) := gw_lt _ _ _
  have hd : und X.ty t ≠ .invalid := by
   intro h; unfold isAg at hag; rw [h] at hag; cases hag
  have hes : (X.ty t).isSome = true := by
   cases hx : X.ty t with
   | none => simp [szOf, hx] at hs
   | some i => rfl
  refine ⟨.agg (cs.extract (δ + off) (δ + off + szOf X.ty t)), ?_, ?_, ?_⟩
  ·simp [Instr.loadAt, Instr.sureAddr, loadVar, run_isAgg X P hX hd w, hag, hX.run_size hes w, run_loadCells' P h6 (by omega : δ + off + szOf X.ty t ≤ cs.size)]
  ·have := BRel.agg _ _ hrow (by rw [hsz]; omega) (by rw [hsz]; exact hlt)
   rw [hsz] at this
   exact this
  ·show gw _ _ _ + 2 ^ (128 * szOf X.ty t) < _
   rw [Nat.pow_succ]; omega
theorem wrB_ok (hr : HR X G S w) {b r δ z off vb : Nat} {vs : Array Value} (hg : G b = some (.row r δ z)) (hrow : Row G vb vs) (hvb : vb < 2 ^ (128 * vs.size)) (k : St → Res) :
  wrB b off (128 * vs.size) vb S k = .fl ∨ ∃ S' w', wrB b off (128 * vs.size) vb S k = k S' ∧ (storeCells ⟨r, δ + off, none⟩ vs.toList).run P w = .ok () w' ∧ HR X G S' w' ∧ Ext G S w G S' w' := by
 obtain ⟨n, ro, tip, bits, cs, el, fz, h1, h2, h3, h4, h5, h6, h7⟩ := hr.at_ X hg
 have e : wrB b off (128 * vs.size) vb S k = need (Bool.rec (motive := fun _ => Bool) false (Bool.rec (motive := fun _ => Bool) false (Nat.ble (Nat.add (Nat.mul 128 off) (128 * vs.size)) (Nat.mul 128 n)) (Nat.ble ro off)) (Nat.beq 0 0))
  (set S b (.mk 0 n ro tip (pw bits (Nat.mul 128 off) (128 * vs.size) vb)) .fl k) := get_of h1
 rw [e]
 rcases need_cases (Bool.rec (motive := fun _ => Bool) false (Bool.rec (motive := fun _ => Bool) false (Nat.ble (Nat.add (Nat.mul 128 off) (128 * vs.size)) (Nat.mul 128 n)) (Nat.ble ro off)) (Nat.beq 0 0)) (set S b (.mk 0 n ro tip (pw bits (Nat.mul 128 off) (128 * vs.size) vb)) .fl k) with h8 | ⟨h8, h9⟩
 ·exact .inl h8
 ·rw [h9]
  obtain ⟨h11, h12⟩ := and_of' h8
  have h11' : 128 * off + 128 * vs.size ≤ 128 * n := ble_iff.1 h11
  rw [ble_iff] at h12
  rcases set_cases S b (.mk 0 n ro tip (pw bits (Nat.mul 128 off) (128 * vs.size) vb)) Res.fl k with h13 | ⟨S', h13, h14, h15⟩
  ·exact .inl h13
  ·obtain ⟨cs', w', h16, h17, h18, h19⟩ := run_storeCells P r (δ + off) el fz vs.toList 0 cs w h4 (fun j h20 h21 => h7 j (by simp at h21; omega)) (by simp; omega) (fun v hv => by
    obtain ⟨i, hi⟩ := List.getElem?_of_mem hv
    exact (hrow i v (by simpa using hi)).1)
   obtain ⟨h20, h21⟩ := hr.write X hg h1 h12 (by omega) hrow hvb h4 (cs' := cs') ⟨h18, fun i => by rw [h19]; simp⟩ h14 h15 h17
   exact .inr ⟨S', w', h13, h16, h20, h21⟩
theorem st1_ok (hX : XOk X P) (hr : HR X G S w) {t : TypeId} (hs : szOf X.ty t = 1) {x y : Nat} {u v : Value} (hx : BRel G x u) (hy : BRel G y v) (hbx : x < 2 ^ 128) (k : St → Res) :
  st1 x y S k = .fl ∨ ∃ S' w', st1 x y S k = k S' ∧ (Instr.storeAt t u v).run P w = .ok () w' ∧ HR X G S' w' ∧ Ext G S w G S' w' := by
 have e : st1 x y S k = need (Bool.rec (motive := fun _ => Bool) false (sc y) (isPtr x)) (wrB (blkOf x) (offOf x) 128 y S k) := rfl
 rw [e]
 rcases need_cases (Bool.rec (motive := fun _ => Bool) false (sc y) (isPtr x)) (wrB (blkOf x) (offOf x) 128 y S k) with h1 | ⟨h1, h2⟩
 ·exact .inl h1
 ·rw [h2]
  obtain ⟨h3, h4⟩ := and_of' h1
  obtain ⟨b, off, r, δ, z, rfl, hg, hb, rfl⟩ := brel_ptr hx ((isPtr_iff x).1 h4) hbx
  rw [ptr_blk hb, ptr_off hb]
  obtain ⟨h5, h6, h7⟩ := sc_iff.1 h3
  have hv := brel_small hy h5 h7
  have hone := vrel_one hv h6
  have hcells : v.cells = #[v] := by cases v <;> first | rfl | cases hone
  have hrow : Row G y #[v] := by
   intro i u hi
   have : i = 0 ∧ u = v := by
    cases i with
    | zero => simpa using hi.symm
    | succ i => simp at hi
   obtain ⟨rfl, rfl⟩ := this
   have : cell y 0 = y := gw_all _ _ h7
   rw [this]; exact ⟨hone, .inr hv⟩
  rcases wrB_ok X P hr (off := off) (vs := #[v]) hg hrow h7 k with h8 | ⟨S', w', h8, h9, h10, h11⟩
  ·exact .inl h8
  ·have hes : (X.ty t).isSome = true := by
    cases hx : X.ty t with
    | none => simp [szOf, hx] at hs
    | some i => rfl
   refine .inr ⟨S', w', h8, ?_, h10, h11⟩
   simp only [Instr.storeAt, Instr.sureAddr, storeVar, Sem.run_bind, Sem.run_pure, Result.andThen_ok, hX.run_size hes w, hs, hcells]
   rw [if_neg (by simp)]
   exact h9
theorem stN_ok (hX : XOk X P) (hr : HR X G S w) {t : TypeId} (hs : szOf X.ty t ≠ 0) {x y : Nat} {u v : Value} (hx : BRel G x u) (hy : BRel G y v) (hbx : x < 2 ^ 128) (k : St → Res) :
  stN (128 * szOf X.ty t) x y S k = .fl ∨ ∃ S' w', stN (128 * szOf X.ty t) x y S k = k S' ∧ (Instr.storeAt t u v).run P w = .ok () w' ∧ HR X G S' w' ∧ Ext G S w G S' w' := by
 have e : stN (128 * szOf X.ty t) x y S k = need (Bool.rec (motive := fun _ => Bool) false (isAgg y (128 * szOf X.ty t)) (isPtr x)) (wrB (blkOf x) (offOf x) (128 * szOf X.ty t) (raw y (128 * szOf X.ty t)) S k) := rfl
 rw [e]
 rcases need_cases (Bool.rec (motive := fun _ => Bool) false (isAgg y (128 * szOf X.ty t)) (isPtr x)) (wrB (blkOf x) (offOf x) (128 * szOf X.ty t) (raw y (128 * szOf X.ty t)) S k) with h1 | ⟨h1, h2⟩
 ·exact .inl h1
 ·rw [h2]
  obtain ⟨h3, h4⟩ := and_of' h1
  obtain ⟨b, off, r, δ, z, rfl, hg, hb, rfl⟩ := brel_ptr hx ((isPtr_iff x).1 h4) hbx
  rw [ptr_blk hb, ptr_off hb]
  obtain ⟨bits, cs, rfl, hrow, rfl, hW, hbits⟩ := brel_agg hy h3 (by omega)
  rw [raw_top _ _ hbits]
  have hcs : szOf X.ty t = cs.size := by omega
  have hes : (X.ty t).isSome = true := by
   cases hx : X.ty t with
   | none => simp [szOf, hx] at hs
   | some i => rfl
  have hsz := hX.run_size hes w
  rw [hcs] at hbits hsz ⊢
  rcases wrB_ok X P hr (off := off) (vs := cs) hg hrow hbits k with h8 | ⟨S', w', h8, h9, h10, h11⟩
  ·exact .inl h8
  ·refine .inr ⟨S', w', h8, ?_, h10, h11⟩
   simp only [Instr.storeAt, Instr.sureAddr, storeVar, Sem.run_bind, Sem.run_pure, Result.andThen_ok, hsz]
   rw [if_neg (by simp [Value.cells])]
   exact h9
end
end Go.Vm
namespace Go.Vm
open Go
section
variable (X : GX) (P : Program) {w : World} {G : Gh}
def NewV (G : Gh) (w : World) (s : Sem Value) (B : Blk) (code : Nat → Nat) : Prop :=
 ∀ b S', b ≤ 16777215 → G b = none → b < S'.cnt → S'.blk b = B → HR X G S' w → ∃ u w' G', s.run P w = .ok u w' ∧ Born G w b G' w' ∧ HR X G' S' w' ∧ BRel G' (code b) u ∧ code b < 2 ^ 128
theorem mkP_eq (b : Nat) : mkP b = ptrC b 0 := by unfold mkP ptrC; rw [shl_eq]; show 22 + b * 2 ^ 5 = _; omega
theorem new_var {s : Sem Value} {t : TypeId} {cs : Array Value} {bits : Nat} (hrow : Row G bits cs) (hs : s.run P w = .ok (.pointer (some ⟨w.heap.size, 0, none⟩)) { w with heap := w.heap.push (.cells cs t) }) : NewV X P G w s (.mk 0 cs.size 0 1 bits) mkP := by
 intro b S' hb hg hlt hB hr
 obtain ⟨h1, h2⟩ := hr.newrow X (el := t) (fz := (0, 0)) hlt hg hB (Nat.le_refl _) (Nat.zero_le _) rfl (fun i v _ hv => hrow i v hv) (fun i _ => by omega) (grown_alloc w (.cells cs t (0, 0)))
 have hl := mkP_lt b hb
 refine ⟨_, _, _, hs, h2, h1, .one _ _ ?_ hl, hl⟩
 rw [mkP_eq]
 exact .ptr b 0 w.heap.size 0 cs.size put_at (by omega)
theorem new_alloc (hX : XOk X P) (hp : PoolOk X G) {t : TypeId} (hz : zOk X.ty t = true) : NewV X P G w (Instr.alloc t true (.tuple #[])) (.mk 0 (szOf X.ty t) 0 1 (zRow X t)) mkP := by
 obtain ⟨i, v, ht, hzv, h1, h2, h3, h4, h5, h6, h7, h8⟩ := zOk_of X hz
 obtain ⟨hzr, hzl⟩ := zRow_ok X hp h1 h2 h4
 have := new_var X P (w := w) (t := t) (s := Instr.alloc t true (.tuple #[])) hzr (by simp [Instr.alloc, run_zero X P hX ht hzv w, newVar, newRow])
 rw [h1, ← h5] at this
 exact this
theorem new_boxN {t : TypeId} {x : Nat} {v : Value} (hs : szOf X.ty t ≠ 0) (hx : BRel G x v) (ha : isAgg x (128 * szOf X.ty t) = true) : NewV X P G w (Instr.box t v) (.mk 0 (szOf X.ty t) 0 1 (raw x (128 * szOf X.ty t))) mkP := by
 obtain ⟨bits, cs, rfl, hrow, rfl, hW, hb⟩ := brel_agg hx ha (by omega)
 rw [raw_top _ _ hb]
 have hcs : szOf X.ty t = cs.size := by omega
 rw [hcs]
 exact new_var X P (t := t) hrow (by simp [Instr.box, newVar, newRow, Value.cells])
theorem sc_row {x : Nat} {v : Value} (hx : BRel G x v) (hsc : sc x = true) : v.cells = #[v] ∧ Row G x #[v] ∧ x < 2 ^ (128 * 1) ∧ VRel G x v ∧ v.oneCell' = true := by
 obtain ⟨h5, h6, h7⟩ := sc_iff.1 hsc
 have hv := brel_small hx h5 h7
 have hone := vrel_one hv h6
 refine ⟨(by cases v <;> first | rfl | cases hone), ?_, h7, hv, hone⟩
 intro i u hi
 have : i = 0 ∧ u = v := by
  cases i with
  | zero => simpa using hi.symm
  | succ i => simp at hi
 obtain ⟨rfl, rfl⟩ := this
 have : cell x 0 = x := gw_all _ _ h7
 rw [this]; exact ⟨hone, .inr hv⟩
theorem new_box1 {t : TypeId} {x : Nat} {v : Value} (hx : BRel G x v) (hsc : sc x = true) : NewV X P G w (Instr.box t v) (.mk 0 1 0 1 x) mkP := by
 obtain ⟨h1, h2, h3, h4, h5⟩ := sc_row hx hsc
 exact new_var X P (t := t) (cs := #[v]) h2 (by simp [Instr.box, newVar, newRow, h1])
theorem range0 (f : Nat → Value) : (Array.range 0).map f = #[] := Array.eq_empty_of_size_eq_zero (by simp)
theorem reps_row {z sz : Nat} {zc : Array Value} (hz : Row G z zc) (hzl : z < 2 ^ (128 * zc.size)) (hs : zc.size = sz) (hs0 : 0 < sz) (n : Nat) :
  Row G (reps z (128 * sz) n) ((Array.range (n * sz)).map (zc[· % zc.size]!)) ∧ reps z (128 * sz) n < 2 ^ (128 * (n * sz)) := by
 subst hs
 have key : ∀ n, reps z (128 * zc.size) n < 2 ^ (128 * (n * zc.size)) ∧ ∀ i, i < n * zc.size → cell (reps z (128 * zc.size) n) i = cell z (i % zc.size) := by
  intro n
  induction n with
  | zero => exact ⟨by show 0 < _; exact Nat.two_pow_pos _, fun i hi => by omega⟩
  | succ n ih =>
   obtain ⟨h1, h2⟩ := ih
   have e : reps z (128 * zc.size) (n + 1) = z + (reps z (128 * zc.size) n) <<< (128 * zc.size) := by rw [Nat.shiftLeft_eq]; rfl
   have em : (n + 1) * zc.size = n * zc.size + zc.size := Nat.succ_mul _ _
   constructor
   ·rw [e, Nat.shiftLeft_eq, em, Nat.mul_add, Nat.pow_add]
    have h3 : reps z (128 * zc.size) n * 2 ^ (128 * zc.size) + 2 ^ (128 * zc.size) ≤ 2 ^ (128 * (n * zc.size)) * 2 ^ (128 * zc.size) := by
     rw [← Nat.succ_mul]; exact Nat.mul_le_mul_right _ h1
    omega
   ·intro i hi
    rw [e, cell_cat _ _ _ _ hzl]
    by_cases hlt : i < zc.size
    ·rw [if_pos hlt, Nat.mod_eq_of_lt hlt]
    ·rw [if_neg hlt, h2 (i - zc.size) (by omega)]
     congr 1
     rw [← Nat.mod_eq_sub_mod (by omega)]
 obtain ⟨h1, h2⟩ := key n
 refine ⟨fun i v hi => ?_, h1⟩
 have hlt : i < n * zc.size := by
  have := (Array.getElem?_eq_some_iff.1 hi).1
  simpa using this
 rw [h2 i hlt]
 have hm : i % zc.size < zc.size := Nat.mod_lt _ hs0
 have hv : v = zc[i % zc.size] := by
  rw [Array.getElem?_map, Array.getElem?_range, if_pos hlt] at hi
  simp only [Option.map_some, Option.some.injEq] at hi
  rw [← hi, getElem!_pos zc _ hm]
 rw [hv]
 exact hz _ _ (Array.getElem?_eq_getElem hm)
theorem rep_eq (z w n : Nat) : rep z w n = reps z w n := by
 induction n with
 | zero => rfl
 | succ n ih =>
  show Nat.add z (Nat.shiftLeft (rep z w n) w) = z + reps z w n * 2 ^ w
  rw [ih, shl_eq]; rfl
theorem new_sl {s : Sem Value} {t : TypeId} {cs : Array Value} {bits len cap sz : Nat} (hrow : Row G bits cs) (hl : len ≤ cap) (hc : cap ≤ 1048575) (hsz : sz ≤ 1023)
  (hs : s.run P w = .ok (.slice (some ⟨w.heap.size, 0, none⟩) len cap) { w with heap := w.heap.push (.cells cs t) }) : NewV X P G w s (.mk 0 cs.size 0 1 bits) (fun b => mkSl b 1 len cap sz 0) := by
 intro b S' hb hg hlt hB hr
 obtain ⟨h1, h2⟩ := hr.newrow X (el := t) (fz := (0, 0)) hlt hg hB (Nat.le_refl _) (Nat.zero_le _) rfl (fun i v _ hv => hrow i v hv) (fun i _ => by omega) (grown_alloc w (.cells cs t (0, 0)))
 have hl' := @mkSl_lt b 1 len cap sz 0 hb (by omega) (by omega) hc hsz (by omega)
 refine ⟨_, _, _, hs, h2, h1, .one _ _ ?_ hl', hl'⟩
 show VRel _ (mkSl b 1 len cap sz 0) _
 rw [mkSl_eq]
 have := VRel.sl (G := G.put b (.row w.heap.size 0 cs.size)) b 1 len cap sz 0 w.heap.size 0 cs.size cap put_at (by omega) (by omega) hl (by omega) (by omega) (Nat.le_refl _) (fun _ => rfl) (fun h => by omega)
 exact this
theorem okBy_of {t : TypeId} (h : okBy X.ty t = true) : ∃ i, X.ty t = some i ∧ i.bytes ≤ 1048576 := by
 unfold okBy at h
 cases ht : X.ty t with
 | none => rw [ht] at h; cases h
 | some i => rw [ht] at h; exact ⟨i, rfl, ble_iff.1 h⟩
theorem run_info (hX : XOk X P) {t : TypeId} {i : TypeInfo} (h : X.ty t = some i) (w : World) : (typeInfo t).run P w = .ok i w := by simp [typeInfo, hX.ty t i h]
theorem new_mks (hX : XOk X P) (hp : PoolOk X G) {t e : TypeId} (hu : und X.ty t = .slice e) (hz : zOk X.ty e = true) (hby : okBy X.ty e = true) (hsz : szOf X.ty e ≤ 1023) {l c : Nat} {u v : Value} (hl : BRel G l u) (hc : BRel G c v) (hbl : l < 2 ^ 128) (hbc : c < 2 ^ 128)
  (ok : (Bool.rec (motive := fun _ => Bool) false (Bool.rec (motive := fun _ => Bool) false (Nat.ble (va l) (va c)) (room (va c))) (nn2 2 l c)) = true) :
  NewV X P G w (Instr.makeSlice t u v) (.mk 0 (Nat.mul (va c) (szOf X.ty e)) 0 1 (rep (zRow X e) (Nat.mul 128 (szOf X.ty e)) (va c))) (fun b => mkSl b 1 (va l) (va c) (szOf X.ty e) 0) := by
 obtain ⟨h1, h2⟩ := and_of' ok
 obtain ⟨h3, h4⟩ := and_of' h1
 obtain ⟨h5, h6⟩ := nn2_of (by decide) h2
 obtain ⟨nl, rfl, hvl, _⟩ := two_code hl hbl h5
 obtain ⟨nc, rfl, hvc, _⟩ := two_code hc hbc h6
 rw [hvl, hvc] at h3
 rw [hvc] at h4
 rw [hvl, hvc]
 rw [ble_iff] at h3
 have h4' := room_le h4
 obtain ⟨i, vz, ht, hzv, z1, z2, z3, z4, z5, z6, z7, z8⟩ := zOk_of X hz
 obtain ⟨hzr, hzl⟩ := zRow_ok X hp z1 z2 z4
 have hcs : vz.cells.size = szOf X.ty e := by rw [z5]; exact z1
 obtain ⟨r1, r2⟩ := reps_row hzr (by rw [z1]; exact hzl) hcs (by omega) nc
 rw [rep_eq]
 have ecs : ((Array.range (nc * szOf X.ty e)).map (vz.cells[· % vz.cells.size]!)).size = nc * szOf X.ty e := by simp
 have key := new_sl X P (w := w) (t := e) (s := Instr.makeSlice t (.int .i64 nl) (.int .i64 nc)) r1 (len := nl) (cap := nc) (sz := szOf X.ty e) h3 h4' hsz ?_
 ·rw [ecs] at key; exact key
 ·have ru := hX.run_und (t := t) (by rw [hu]; simp) w
  rw [hu] at ru
  obtain ⟨i', hi', hby'⟩ := okBy_of X hby
  rw [ht] at hi'; cases hi'
  have ri := run_info X P hX ht w
  have rs := hX.run_size (t := e) (by rw [ht]; rfl) w
  have rz := run_zero X P hX ht hzv w
  have wl : IntKind.i64.wrap (nl : Int) = nl := wrap_fits (fits_i (by omega) (by omega))
  have wc : IntKind.i64.wrap (nc : Int) = nc := wrap_fits (fits_i (by omega) (by omega))
  have hb1 : ¬ ((i.bytes : Int) * (nc : Int) > 2 ^ 48) := by
   have h7 : i.bytes * nc ≤ 1048576 * 1048575 := Nat.mul_le_mul hby' h4'
   have h8 : (i.bytes : Int) * (nc : Int) = ((i.bytes * nc : Nat) : Int) := (Int.natCast_mul _ _).symm
   rw [h8]; omega
  have hc0 : ¬ ((nc : Int) < 0) := by omega
  have hl0 : ¬ ((nl : Int) < 0) := by omega
  have hlc : ¬ ((nl : Int) > (nc : Int)) := by omega
  have hcond : (decide ((nc : Int) < 0) || decide ((i.bytes : Int) * (nc : Int) > 2 ^ 48) || decide ((nl : Int) < 0) || decide ((nl : Int) > (nc : Int))) = false := by
   simp [hb1]; omega
  unfold Instr.makeSlice
  simp only [Sem.run_bind, ru, Result.andThen_ok, asInt, asIntOf, Sem.run_pure, ri, wl, wc, hcond, Bool.false_eq_true, if_false, run_askRoom, rs, Int.toNat_natCast, Sem.run_ite, rz]
  by_cases hz0 : nc * szOf X.ty e = 0
  ·simp only [hz0, if_true, Sem.run_pure, Result.andThen_ok, range0]
   simp [newRow]
  ·simp [hz0, newRow]
theorem new_bsl (hX : XOk X P) (hp : PoolOk X G) {ev : Operand → Value} {ρ : Operand → Nat × Nat} {t e : TypeId} {n : Nat} {ps : Array (Nat × Operand)} {l : List ((Nat × Nat) × Nat)} (hρ : ∀ p ∈ ps.toList, BRel G (ρ p.2).1 (ev p.2)) (hu : und X.ty t = .slice e) (hz : zOk X.ty e = true)
  (hn : n ≤ 1048575) (hsz : szOf X.ty e ≤ 1023) (hns : n * szOf X.ty e ≤ 16777216) (hd : dParts X ρ (fun i => some (i * szOf X.ty e, e)) ps.toList = some l) (hin : ∀ p ∈ l, p.1.1 + p.1.2 ≤ 128 * (n * szOf X.ty e)) (hok : okL l = true) :
  NewV X P G w (Instr.buildSlice t n (ps.map fun (i, x) => (i, ev x))) (.mk 0 (Nat.mul n (szOf X.ty e)) 0 1 (lay (reps (zRow X e) (128 * szOf X.ty e) n) l)) (fun b => mkSl b 1 n n (szOf X.ty e) 0) := by
 obtain ⟨i, vz, ht, hzv, z1, z2, z3, z4, z5, z6, z7, z8⟩ := zOk_of X hz
 obtain ⟨hzr, hzl⟩ := zRow_ok X hp z1 z2 z4
 have hcs : vz.cells.size = szOf X.ty e := by rw [z5]; exact z1
 obtain ⟨r1, r2⟩ := reps_row hzr (by rw [z1]; exact hzl) hcs (by omega) n
 generalize hcz : ((Array.range (n * szOf X.ty e)).map (vz.cells[· % vz.cells.size]!)) = cz at r1
 have ecs : cz.size = n * szOf X.ty e := by rw [← hcz]; simp
 obtain ⟨cs', f1, f2, f3, f4⟩ := fill_ok X (mp := fun i => some (i * szOf X.ty e, szOf X.ty e)) (fun i o t' hpl => by cases hpl; rfl) ps.toList l cz (reps (zRow X e) (128 * szOf X.ty e) n) hρ hd hok (by rw [ecs]; exact hin) r1 (by rw [ecs]; exact r2)
 have key := new_sl X P (w := w) (t := e) (s := Instr.buildSlice t n (ps.map fun (i, x) => (i, ev x))) f3 (len := n) (cap := n) (sz := szOf X.ty e) (Nat.le_refl _) hn hsz ?_
 ·rw [f2, ecs] at key; exact key
 ·have ru := hX.run_und (t := t) (by rw [hu]; simp) w
  rw [hu] at ru
  have rs := hX.run_size (t := e) (by rw [ht]; rfl) w
  have rz := run_zero X P hX ht hzv w
  have hlist : (ps.map fun (i, x) => (i, ev x)).toList = ps.toList.map fun p => (p.1, ev p.2) := by simp
  have hgt : ¬ (n * szOf X.ty e > 2 ^ 24) := by omega
  unfold Instr.buildSlice
  simp only [Sem.run_bind, ru, Result.andThen_ok, rs, if_neg hgt, Sem.run_pure, hlist]
  by_cases hz0 : n * szOf X.ty e = 0
  ·have hcz0 : cz = #[] := Array.eq_empty_of_size_eq_zero (by omega)
   rw [hcz0] at f1
   simp only [hz0, if_true, Sem.run_bind, Sem.run_pure, Result.andThen_ok, range0, f1]
   simp [newRow]
  ·simp only [if_neg hz0, Sem.run_bind, rz, Result.andThen_ok, Sem.run_pure, hcz, f1]
   simp [newRow]
theorem okC_of {t : TypeId} (h : okC X.ty t = true) : und X.ty t ≠ .invalid ∧ ∀ ms, und X.ty t ≠ .interface ms := by
 unfold okC at h
 constructor
 ·intro e; rw [e] at h; cases h
 ·intro ms e; rw [e] at h; cases h
theorem run_mkI (hX : XOk X P) {t : TypeId} (h : okC X.ty t = true) (v : Value) : (Instr.makeInterface t v).run P w = .ok (.iface t v) w := by
 obtain ⟨h1, h2⟩ := okC_of X h
 have ru := hX.run_und h1 w
 unfold Instr.makeInterface
 simp only [Sem.run_bind, ru, Result.andThen_ok]
 rfl
theorem mkI_eq (b t : Nat) : Nat.add 30 (Nat.add (Nat.shiftLeft b 5) (Nat.shiftLeft t 29)) = 30 + 32 * b + 536870912 * t := by
 rw [shl_eq, shl_eq]; show 30 + (b * 2 ^ 5 + t * 2 ^ 29) = _; omega
theorem new_iface (hX : XOk X P) {t : TypeId} (h : okC X.ty t = true) (ht : t ≤ 16777215) {v : Value} {n bits : Nat} (hn : n = v.cells.size) (hrow : Row G bits v.cells) (hb : bits < 2 ^ (128 * n)) (h0 : 0 < n) {ag : Nat} (hv : (ag = 1 ∧ ∃ cs, v = .agg cs) ∨ (ag = 0 ∧ VRel G bits v)) :
  NewV X P G w (Instr.makeInterface t v) (.mk 2 n ag 0 bits) (fun b => Nat.add 30 (Nat.add (Nat.shiftLeft b 5) (Nat.shiftLeft t 29))) := by
 intro b S' hbb hg hlt hB hr
 obtain ⟨h1, h2⟩ := hr.newval X (v := v) hlt hg (by rw [hB]; exact .inr (.inl ⟨rfl, hn, hrow, hb, h0, hv⟩))
 have hl := mkI_lt t b ht hbb
 refine ⟨_, _, _, run_mkI X P hX h v, h2, h1, .one _ _ ?_ hl, hl⟩
 show VRel _ (Nat.add 30 (Nat.add (Nat.shiftLeft b 5) (Nat.shiftLeft t 29))) _
 rw [mkI_eq]
 exact .iface b t v put_at (by omega)
theorem new_map {t : TypeId} (kw vw : Nat) : NewV X P G w (Instr.makeMap t none) (.mk 4 0 kw vw 0) (fun b => Nat.add 26 (Nat.shiftLeft b 5)) := by
 intro b S' hbb hg hlt hB hr
 obtain ⟨h1, h2⟩ := hr.newobj X (ob := .map #[] 0) hlt hg (by rw [hB]; exact .inl ⟨rfl, #[], rfl, rfl, fun i e he => by simp at he⟩) (grown_alloc w (.map #[] 0))
 have hl := tagB_lt 26 b (by decide) hbb
 refine ⟨_, _, _, by simp [Instr.makeMap]; rfl, h2, h1, .one _ _ ?_ hl, hl⟩
 have e : Nat.add 26 (Nat.shiftLeft b 5) = 26 + 32 * b := by rw [shl_eq]; show 26 + b * 2 ^ 5 = _; omega
 show VRel _ (Nat.add 26 (Nat.shiftLeft b 5)) _
 rw [e]
 exact .map b w.heap.size put_at (by omega)
theorem new_chan (hX : XOk X P) {t e : TypeId} {d : ChanDir} (hu : und X.ty t = .chan d e) (hby : okBy X.ty e = true) (hs1 : szOf X.ty e ≠ 0) {n : Nat} {u : Value} (hn : BRel G n u) (hbn : n < 2 ^ 128) (ok : (Bool.rec (motive := fun _ => Bool) false (room (va n)) (nn 2 n)) = true) :
  NewV X P G w (Instr.makeChan t u) (.mk 5 (va n) 0 (Nat.mul 2 (128 * szOf X.ty e)) 0) (fun b => Nat.add 27 (Nat.shiftLeft b 5)) := by
 obtain ⟨h1, h2⟩ := and_of' ok
 obtain ⟨m, rfl, hv, _⟩ := two_code hn hbn (nn_iff.1 h2)
 rw [hv] at h1 ⊢
 have h1' := room_le h1
 intro b S' hbb hg hlt hB hr
 have hobj : Object G (.mk 5 m 0 (Nat.mul 2 (128 * szOf X.ty e)) 0) (.chan m #[] false 0 0 false) := by
  refine .inr ⟨rfl, #[], 0, 0, ?_, rfl, Nat.zero_le _, Nat.two_pow_pos _, (by show 128 ≤ 2 * (128 * szOf X.ty e) / 2; omega), fun i v hv => by simp at hv⟩
  have e0 : (2 * (128 * szOf X.ty e)) % 2 = 0 := Nat.mul_mod_right _ _
  show Obj.chan m #[] false 0 0 false = Obj.chan m #[] ((2 * (128 * szOf X.ty e)) % 2 == 1) 0 0 false
  rw [e0]; rfl
 obtain ⟨h3, h4⟩ := hr.newobj X (ob := .chan m #[] false 0 0 false) hlt hg (by rw [hB]; exact hobj) (grown_alloc w _)
 have hl := tagB_lt 27 b (by decide) hbb
 obtain ⟨i, hi, hby'⟩ := okBy_of X hby
 have ru := hX.run_und (t := t) (by rw [hu]; simp) w
 rw [hu] at ru
 refine ⟨.chan (some w.heap.size), _, _, ?_, h4, h3, .one _ _ ?_ hl, hl⟩
 ·have ri := run_info X P hX hi w
  have h7 : i.bytes * m ≤ 1048576 * 1048575 := Nat.mul_le_mul hby' h1'
  have h8 : (i.bytes : Int) * (m : Int) = ((i.bytes * m : Nat) : Int) := (Int.natCast_mul _ _).symm
  have hc : ¬ ((m : Int) < 0 ∨ (m : Int) > IntKind.i64.max ∨ (i.bytes : Int) * (m : Int) > 2 ^ 48 - 112) := by
   rw [h8]
   have : IntKind.i64.max = 9223372036854775807 := rfl
   omega
  unfold Instr.makeChan
  simp only [Sem.run_bind, asInt, asIntOf, Sem.run_pure, Result.andThen_ok, ru, ri, if_neg hc, run_newObj, Int.toNat_natCast]
 ·have e : Nat.add 27 (Nat.shiftLeft b 5) = 27 + 32 * b := by rw [shl_eq]; show 27 + b * 2 ^ 5 = _; omega
  show VRel _ (Nat.add 27 (Nat.shiftLeft b 5)) _
  rw [e]
  exact .chan b w.heap.size put_at (by omega)
theorem cat_ok {ev : Operand → Value} {ρ : Operand → Nat × Nat} : ∀ (os : List Operand) (ws : List Nat) (r : Nat), (∀ o ∈ os, BRel G (ρ o).1 (ev o) ∧ (ρ o).1 < 2 ^ (ρ o).2) → cat (os.map ρ) ws = some r → Packed G ws r (os.map ev) ∧ r < 2 ^ (sum ws) ∧ ws.length = os.length
 | [], [], r, _, h => by
  simp only [List.map_nil, cat, Option.some.injEq] at h
  subst h
  exact ⟨rfl, by decide, rfl⟩
 | [], _ :: _, r, _, h => by simp only [List.map_nil, cat] at h; cases h
 | o :: os, [], r, _, h => by
  have e : cat ((o :: os).map ρ) [] = none := by cases os <;> rfl
  rw [e] at h; cases h
 | [o], [w], r, hρ, h => by
  obtain ⟨h1, h2⟩ := hρ o (List.mem_cons_self ..)
  simp only [List.map_cons, List.map_nil, cat] at h
  split at h
  ·rename_i hle
   cases h
   have hlt : (ρ o).1 < 2 ^ w := Nat.lt_of_lt_of_le h2 (Nat.pow_le_pow_right (by decide) hle)
   refine ⟨⟨by rw [Nat.mod_eq_of_lt hlt]; exact h1, ?_⟩, by simpa [sum] using hlt, rfl⟩
   show (ρ o).1 >>> w = 0
   rw [Nat.shiftRight_eq_div_pow, Nat.div_eq_of_lt hlt]
  ·cases h
 | [o], w :: w' :: ws, r, hρ, h => by
  have e : cat ([o].map ρ) (w :: w' :: ws) = none := rfl
  rw [e] at h; cases h
 | o :: o' :: os, w :: ws, r, hρ, h => by
  obtain ⟨h1, h2⟩ := hρ o (List.mem_cons_self ..)
  have e : cat ((o :: o' :: os).map ρ) (w :: ws) = match cat ((o' :: os).map ρ) ws with
   | some r => if (ρ o).2 ≤ w then some (Nat.add (ρ o).1 (Nat.shiftLeft r w)) else none
   | none => none := rfl
  rw [e] at h
  cases hc : cat ((o' :: os).map ρ) ws with
  | none => rw [hc] at h; cases h
  | some r' =>
   rw [hc] at h
   dsimp only at h
   split at h
   ·rename_i hle
    cases h
    obtain ⟨h3, h4, h5⟩ := cat_ok (o' :: os) ws r' (fun x hx => hρ x (List.mem_cons_of_mem _ hx)) hc
    have hlt : (ρ o).1 < 2 ^ w := Nat.lt_of_lt_of_le h2 (Nat.pow_le_pow_right (by decide) hle)
    have e1 : Nat.add (ρ o).1 (Nat.shiftLeft r' w) = (ρ o).1 + 2 ^ w * r' := by rw [shl_eq, Nat.mul_comm]; rfl
    rw [e1]
    refine ⟨⟨?_, ?_⟩, ?_, by rw [List.length_cons, List.length_cons, h5]⟩
    ·rw [Nat.add_mul_mod_self_left, Nat.mod_eq_of_lt hlt]; exact h1
    ·have : ((ρ o).1 + 2 ^ w * r') >>> w = r' := by
      rw [Nat.shiftRight_eq_div_pow, Nat.add_mul_div_left _ _ (Nat.two_pow_pos w), Nat.div_eq_of_lt hlt, Nat.zero_add]
     rw [this]; exact h3
    ·show _ < 2 ^ (w + sum ws)
     rw [Nat.pow_add]
     have : 2 ^ w * r' + 2 ^ w ≤ 2 ^ w * 2 ^ sum ws := by rw [← Nat.mul_succ]; exact Nat.mul_le_mul_left _ h4
     omega
   ·cases h
theorem packed_split : ∀ (ws ws' : List Nat) (r : Nat) (vs vs' : List Value), ws.length = vs.length → Packed G (ws ++ ws') r (vs ++ vs') → Packed G ws (raw r (sum ws)) vs ∧ Packed G ws' (r >>> sum ws) vs'
 | [], ws', r, [], vs', _, h => by
  refine ⟨?_, by simpa [sum] using h⟩
  show r % 2 ^ 0 = 0
  simp [Nat.mod_one]
 | w :: ws, ws', r, v :: vs, vs', hl, h => by
  obtain ⟨h1, h2⟩ := h
  obtain ⟨h3, h4⟩ := packed_split ws ws' (r >>> w) vs vs' (by simpa using hl) h2
  have es : sum (w :: ws) = w + sum ws := rfl
  rw [es]
  refine ⟨⟨?_, ?_⟩, ?_⟩
  ·show BRel G (r % 2 ^ (w + sum ws) % 2 ^ w) v
   rw [Nat.pow_add, Nat.mod_mul_right_mod]; exact h1
  ·have : (r % 2 ^ (w + sum ws)) >>> w = raw (r >>> w) (sum ws) := by
    show _ = (r >>> w) % 2 ^ sum ws
    rw [Nat.shiftRight_eq_div_pow, Nat.shiftRight_eq_div_pow, Nat.pow_add, Nat.mod_mul_right_div_self]
   show Packed G ws ((r % 2 ^ (w + sum ws)) >>> w) vs
   rw [this]; exact h3
  ·rw [Nat.shiftRight_add]; exact h4
 | [], _, _, _ :: _, _, hl, _ => by simp at hl
 | _ :: _, _, _, [], _, hl, _ => by simp at hl
theorem new_func {ev : Operand → Value} {ρ : Operand → Nat × Nat} {f : FuncId} {fc : Func} (hf : X.fn f = some fc) {first captured : Array Operand} (hρ : ∀ o ∈ first.toList ++ captured.toList, BRel G (ρ o).1 (ev o) ∧ (ρ o).1 < 2 ^ (ρ o).2) {r : Nat}
  (hok : okW (rests X.ty fc first.size) = true) (hcap : captured.size = assoc X.cap f) (hc : cat ((first.toList ++ captured.toList).map ρ) ((fc.params.toList.take first.size).map (wid X.ty) ++ List.replicate captured.size 128) = some r) :
  NewV X P G w (Instr.makeFunc (.func f) (first.map ev) (captured.map ev)) (.mk (3 + 8 * encW (rests X.ty fc first.size)) f (sum ((fc.params.toList.take first.size).map (wid X.ty))) (128 * captured.size) r) (fun b => Nat.add 28 (Nat.shiftLeft b 5)) := by
 obtain ⟨h1, h2, h3⟩ := cat_ok _ _ r hρ hc
 have hlen : first.size ≤ fc.params.size := by
  simp only [List.length_append, List.length_map, List.length_take, List.length_replicate, Array.length_toList] at h3
  omega
 intro b S' hbb hg hlt hB hr
 rw [List.map_append] at h1
 obtain ⟨h4, h5⟩ := packed_split _ _ r (first.toList.map ev) (captured.toList.map ev) (by simp; omega) h1
 obtain ⟨h6, h7⟩ := hr.newval X (v := .func (.func f) (first.map ev) (captured.map ev)) hlt hg (by
  rw [hB]
  refine .inr (.inr (.inl ⟨by omega, fc, first.map ev, captured.map ev, hf, rfl, by simpa using hlen, by simp, by simpa using hok, by simpa using hcap, ?_, by simp, ?_, ?_⟩))
  ·simp
  ·simpa using h4
  ·simpa using h5)
 have hl := tagB_lt 28 b (by decide) hbb
 refine ⟨_, _, _, rfl, h7, h6, .one _ _ ?_ hl, hl⟩
 have e : Nat.add 28 (Nat.shiftLeft b 5) = 28 + 32 * b := by rw [shl_eq]; show 28 + b * 2 ^ 5 = _; omega
 show VRel _ (Nat.add 28 (Nat.shiftLeft b 5)) _
 rw [e]
 exact .clo b _ put_at (by omega) ⟨_, _, _, rfl⟩
theorem new_method {x : Nat} {v : Value} (hx : BRel G x v) (hbx : x < 2 ^ 128) (ok : isIf x = true) : NewV X P G w (Instr.makeFunc (.method X.meth) #[v] #[]) (.mk 6 0 0 0 x) (fun b => Nat.add 28 (Nat.shiftLeft b 5)) := by
 intro b S' hbb hg hlt hB hr
 have hi : x % 32 = 30 := by unfold isIf at ok; rw [beq_iff, tg_eq] at ok; exact ok
 have hv := brel_small hx (by omega) hbx
 obtain ⟨h6, h7⟩ := hr.newval X (v := .func (.method X.meth) #[v] #[]) hlt hg (by rw [hB]; exact .inr (.inr (.inr ⟨rfl, v, rfl, hv, ok, hbx⟩)))
 have hl := tagB_lt 28 b (by decide) hbb
 refine ⟨_, _, _, rfl, h7, h6, .one _ _ ?_ hl, hl⟩
 have e : Nat.add 28 (Nat.shiftLeft b 5) = 28 + 32 * b := by rw [shl_eq]; show 28 + b * 2 ^ 5 = _; omega
 show VRel _ (Nat.add 28 (Nat.shiftLeft b 5)) _
 rw [e]
 exact .clo b _ put_at (by omega) ⟨_, _, _, rfl⟩
end
end Go.Vm
namespace Go.Vm
open Go
section
variable (X : GX) (P : Program) {w : World} {G : Gh} {S : St}
def DoesV (G : Gh) (S : St) (w : World) (s : Sem Value) (bd : Nat) (f : (Nat → St → Res) → Res) : Prop :=
 ∀ k, f k = .fl ∨ ∃ x S' G' w' u, f k = k x S' ∧ s.run P w = .ok u w' ∧ Ext G S w G' S' w' ∧ HR X G' S' w' ∧ BRel G' x u ∧ x < 2 ^ bd
theorem eff_new (hr : HR X G S w) {run : Value → World → Prop} {B : Blk} {code : Nat → Nat} {cond : Nat → Bool} (k : Nat → St → Res) (hcond : ∀ b, cond b = true → b ≤ 16777215)
  (hN : ∀ b S', cond b = true → G b = none → b < S'.cnt → S'.blk b = B → HR X G S' w → ∃ u w' G', run u w' ∧ Born G w b G' w' ∧ HR X G' S' w' ∧ BRel G' (code b) u ∧ code b < 2 ^ 128) :
  (new S B .fl fun b S => need (cond b) (k (code b) S)) = .fl ∨ ∃ x S' G' w' u, (new S B .fl fun b S => need (cond b) (k (code b) S)) = k x S' ∧ run u w' ∧ Ext G S w G' S' w' ∧ HR X G' S' w' ∧ BRel G' x u ∧ x < 2 ^ 128 := by
 rcases new_cases S B Res.fl (fun b S => need (cond b) (k (code b) S)) with h1 | ⟨S', h1, h2, h3⟩
 ·exact .inl h1
 ·rw [h1]
  rcases need_cases (cond S.cnt) (k (code S.cnt) S') with h4 | ⟨h4, h5⟩
  ·exact .inl h4
  ·rw [h5]
   have hnone : G S.cnt = none := by
    cases hg : G S.cnt with
    | none => rfl
    | some x => have := hr.dom _ _ hg; omega
   obtain ⟨u, w', G', r1, r2, r3, r4, r5⟩ := hN S.cnt S' h4 hnone (by omega) (by rw [h3, if_pos rfl]) (HR.grow X hr h2 h3)
   exact .inr ⟨_, S', G', w', u, rfl, r1, (Ext.grow h2 h3).born r2 (Nat.le_refl _), r3, r4, r5⟩
theorem lnC_ok {x : Nat} {u : Value} (hx : BRel G x u) (hbx : x < 2 ^ 128) (k : Nat → Res) : lnC x k = .fl ∨ ∃ n, lnC x k = k n ∧ ((n = 0 ∧ ((x = 7 ∧ u = .slice none 0 0) ∨ (x = 9 ∧ ∃ a c, u = .slice (some a) 0 c))) ∨
  ∃ b ex cap sz off r δ z rc, x = slC b ex n cap sz off ∧ G b = some (.row r δ z) ∧ b < 16777216 ∧ ex ≤ 1 ∧ n ≤ cap ∧ cap < 1048576 ∧ sz < 1024 ∧ cap ≤ rc ∧ (ex = 1 → rc = cap) ∧ (ex = 0 → off + rc * sz ≤ z) ∧ u = .slice (some ⟨r, δ + off, none⟩) n rc) := by
 have e : lnC x k = Bool.rec (motive := fun _ => Res) (Bool.rec (motive := fun _ => Res) .fl (k 0) (none? x)) (k (lenS x)) (isSl x) := rfl
 rw [e]
 cases h : isSl x with
 | true =>
  have h' := (isSl_iff x).1 h
  obtain ⟨b, ex, len, cap, sz, off, r, δ, z, rc, rfl, hg, hb, he, hl, hc, hsz, hrc, hxc, hz, rfl⟩ := brel_code hx hbx (by omega) 23 h'
  exact .inr ⟨len, by rw [sl_len hb he hl hc hsz], .inr ⟨b, ex, cap, sz, off, r, δ, z, rc, rfl, hg, hb, he, hl, hc, hsz, hrc, hxc, hz, rfl⟩⟩
 | false =>
  dsimp only
  cases h2 : none? x with
  | false => exact .inl rfl
  | true =>
   rcases (none_iff x).1 h2 with rfl | rfl
   ·obtain ⟨_, rfl⟩ := brel_code hx hbx (by decide) 7 rfl
    exact .inr ⟨0, rfl, .inl ⟨rfl, .inl ⟨rfl, rfl⟩⟩⟩
   ·obtain ⟨_, a, c, rfl⟩ := brel_code hx hbx (by decide) 9 rfl
    exact .inr ⟨0, rfl, .inl ⟨rfl, .inr ⟨rfl, a, c, rfl⟩⟩⟩
def Reads (P : Program) (w : World) (G : Gh) (u : Value) (k : Nat) (v : Nat) : Prop :=
 ∃ vs : Array Value, vs.size = k ∧ Row G v vs ∧ v < 2 ^ (128 * k) ∧ ∀ w', w'.heap = w.heap → (match u with
  | .slice (some a) _ _ => loadCells a k
  | .slice none _ _ => pure #[]
  | _ => stuck "slice or string expected" : Sem (Array Value)).run P w' = .ok vs w'
theorem cells_ok (hr : HR X G S w) {x len n sz : Nat} {u : Value} (hn : n ≤ len) (hu : (len = 0 ∧ ((x = 7 ∧ u = .slice none 0 0) ∨ (x = 9 ∧ ∃ a c, u = .slice (some a) 0 c))) ∨
  ∃ b ex cap sz off r δ z rc, x = slC b ex len cap sz off ∧ G b = some (.row r δ z) ∧ b < 16777216 ∧ ex ≤ 1 ∧ len ≤ cap ∧ cap < 1048576 ∧ sz < 1024 ∧ cap ≤ rc ∧ (ex = 1 → rc = cap) ∧ (ex = 0 → off + rc * sz ≤ z) ∧ u = .slice (some ⟨r, δ + off, none⟩) len rc) (k : Nat → Res) :
  cells sz x n S k = .fl ∨ ∃ v, cells sz x n S k = k v ∧ Reads P w G u (n * sz) v := by
 have e : cells sz x n S k = Bool.rec (motive := fun _ => Res) (rdB S (blkOf x) (offS x) (Nat.mul 128 (Nat.mul n sz)) .fl k) (k 0) (Nat.beq n 0) := rfl
 rw [e]
 have row0 : Row G 0 #[] := fun i v h => by simp at h
 cases h0 : Nat.beq n 0 with
 | true =>
  have hn0 := beq_iff.1 h0
  subst hn0
  refine .inr ⟨0, rfl, #[], by simp, row0, Nat.two_pow_pos _, fun w' _ => ?_⟩
  rw [Nat.zero_mul]
  rcases hu with ⟨_, ⟨_, rfl⟩ | ⟨_, a, c, rfl⟩⟩ | ⟨b, ex, cap, sz', off, r, δ, z, rc, _, _, _, _, _, _, _, _, _, _, rfl⟩ <;> rfl
 | false =>
  have hn0 : n ≠ 0 := fun h => by rw [h] at h0; cases h0
  rcases hu with ⟨h1, _⟩ | ⟨b, ex, cap, sz', off, r, δ, z, rc, rfl, hg, hb, he, hl, hc, hsz, hrc, hxc, hz, rfl⟩
  ·omega
  ·dsimp only
   rw [sl_blk hb he, sl_off hb he hl hc hsz]
   rcases rdB_ok X hr (off := off) (k := n * sz) hg Res.fl k with h3 | ⟨m, ro, tip, bits, cs, el, fz, h3, h4, h5, h6, h7, h8, h9, h10, h11⟩
   ·exact .inl h3
   ·refine .inr ⟨_, h11, cs.extract (δ + off) (δ + off + n * sz), by simp; omega, row_of h8 h10, gw_lt _ _ _, fun w' hw' => ?_⟩
    exact run_loadCells' P (by rw [hw']; exact h6) (by omega)
theorem okU_spec : ∀ (n v : Nat) (vs : List Value), (∀ i x, vs[i]? = some x → x.oneCell' = true ∧ (cell v i = 0 ∨ VRel G (cell v i) x)) → vs.length = n → okU n v = true → ∃ l : List UInt8, vs = l.map (fun b => Value.int .u8 b.toNat) ∧ ∀ i b, l[i]? = some b → cell v i = 4 + 32 * b.toNat
 | 0, v, vs, _, hl, _ => by
  have : vs = [] := List.eq_nil_of_length_eq_zero hl
  subst this
  exact ⟨[], rfl, fun i b h => by simp at h⟩
 | n + 1, v, [], _, hl, _ => by simp at hl
 | n + 1, v, x :: vs, hr, hl, hk => by
  have e : okU (n + 1) v = Bool.rec (motive := fun _ => Bool) false (okU n (Nat.shiftRight v 128)) (nn 4 (g v 0)) := rfl
  rw [e] at hk
  obtain ⟨h1, h2⟩ := and_of' hk
  obtain ⟨l, h3, h4⟩ := okU_spec n (Nat.shiftRight v 128) vs (fun i y hy => by rw [cell_shift]; exact hr (i + 1) y (by simpa using hy)) (by simpa using hl) h1
  obtain ⟨_, h6⟩ := hr 0 x rfl
  rw [nn_iff, g0_eq] at h2
  rcases h6 with h6 | h6
  ·rw [h6] at h2; cases h2
  ·have hi := h6.inv
   rw [h2] at hi
   obtain ⟨m, rfl, h7, h8⟩ := hi
   refine ⟨UInt8.ofNat m :: l, ?_, ?_⟩
   ·have : (UInt8.ofNat m).toNat = m := by simp; omega
    simp only [List.map_cons, this, h3]
   ·intro i b hb
    cases i with
    | zero =>
     simp only [List.getElem?_cons_zero, Option.some.injEq] at hb
     subst hb
     have : (UInt8.ofNat m).toNat = m := by simp; omega
     rw [h7, this]
    | succ i =>
     have := h4 i b (by simpa using hb)
     rw [cell_shift] at this
     exact this
theorem run_pushes {msg : String} (l : List UInt8) (acc : ByteArray) (w : World) :
  (forIn (m := Sem) (l.map fun b : UInt8 => Value.int .u8 b.toNat) acc fun (c : Value) (s : ByteArray) => (match c with
   | .int .u8 n => (pure (ForInStep.yield (s.push (UInt8.ofNat n.toNat))) : Sem (ForInStep ByteArray))
   | _ => do stuck msg; pure (ForInStep.yield s))).run P w = .ok ⟨acc.data ++ l.toArray⟩ w := by
 induction l generalizing acc with
 | nil => simp
 | cons b l ih =>
  simp only [List.map_cons, List.forIn_cons, Sem.run_bind, Sem.run_pure, Result.andThen_ok]
  rw [ih]
  congr 2
  have : UInt8.ofNat (Int.toNat (b.toNat : Int)) = b := by simp
  rw [this]
  apply Array.toList_inj.1
  simp [ByteArray.push]
theorem empty_add (l : List UInt8) : ByteArray.empty.data ++ l.toArray = l.toArray := by show #[] ++ _ = _; simp
theorem room_le' {b : Nat} {c : Bool} (h : (Bool.rec (motive := fun _ => Bool) false (Nat.ble b 16777215) c) = true) : b ≤ 16777215 := ble_iff.1 (and_of' h).1
theorem mkT_eq (b len off : Nat) : mkT b len off = txC b len off := by
 unfold mkT txC
 simp only [shl_eq]
 show 24 + (b * 2 ^ 5 + (len * 2 ^ 29 + off * 2 ^ 53)) = _
 omega
theorem byT_ok (hX : XOk X P) (hr : HR X G S w) {s d e : TypeId} (hs : und X.ty s = .slice e) (hd : und X.ty d = .string) (he : und X.ty e = .int .u8) {x : Nat} {u : Value} (hx : BRel G x u) (hbx : x < 2 ^ 128) : DoesV X P G S w (Go.convert s d u) 128 (byT x S) := by
 intro k
 have e1 : byT x S k = lnC x fun n => cells 1 x n S fun v => need (okU n v) (new S (.mk 1 n 0 0 v) .fl fun b S => need (Bool.rec false (Nat.ble b 16777215) (room n)) (k (mkT b n 0) S)) := rfl
 rw [e1]
 rcases lnC_ok hx hbx (fun n => cells 1 x n S fun v => need (okU n v) (new S (.mk 1 n 0 0 v) .fl fun b S => need (Bool.rec false (Nat.ble b 16777215) (room n)) (k (mkT b n 0) S))) with h1 | ⟨n, h1, h2⟩
 ·exact .inl h1
 ·rw [h1]
  rcases cells_ok X P hr (sz := 1) (Nat.le_refl n) h2 (fun v => need (okU n v) (new S (.mk 1 n 0 0 v) .fl fun b S => need (Bool.rec false (Nat.ble b 16777215) (room n)) (k (mkT b n 0) S))) with h3 | ⟨v, h3, vs, hvs, hrow, hvl, hload⟩
  ·exact .inl h3
  ·rw [h3]
   rw [Nat.mul_one] at hvs hload
   rcases need_cases (okU n v) (new S (.mk 1 n 0 0 v) .fl fun b S => need (Bool.rec false (Nat.ble b 16777215) (room n)) (k (mkT b n 0) S)) with h4 | ⟨h4, h5⟩
   ·exact .inl h4
   ·rw [h5]
    obtain ⟨l, h6, h7⟩ := okU_spec n v vs.toList (fun i y hy => hrow i y (by simpa using hy)) (by simpa using hvs) h4
    have hln : l.length = n := by
     have := congrArg List.length h6
     simp at this; omega
    have hrun : (Go.convert s d u).run P w = .ok (.string ⟨l.toArray⟩) w := by
     have r1 := hX.run_und (t := s) (by rw [hs]; simp) w
     have r2 := hX.run_und (t := d) (by rw [hd]; simp) w
     have r3 := hX.run_und (t := e) (by rw [he]; simp) w
     rw [hs] at r1
     rw [hd] at r2
     rw [he] at r3
     have hl := hload w rfl
     rcases h2 with ⟨hn0, ⟨_, rfl⟩ | ⟨_, a, c, rfl⟩⟩ | ⟨b, ex, cap, sz', off, r, δ, z, rc, _, _, _, _, _, _, _, _, _, _, rfl⟩
     ·have : l = [] := List.eq_nil_of_length_eq_zero (by omega)
      subst this
      simp [Go.convert, r1, r2, r3, Conv.bytesToString]
      rfl
     ·have hl' : (loadCells a 0).run P w = .ok vs w := by rw [hn0] at hl; exact hl
      simp only [Go.convert, Sem.run_bind, r1, r2, r3, Result.andThen_ok, Conv.bytesToString, hl']
      rw [← Array.forIn_toList, h6]
      refine (congrArg (fun r => Result.andThen r _) (run_pushes P l ByteArray.empty w)).trans ?_
      show (Result.ok (Value.string ⟨ByteArray.empty.data ++ l.toArray⟩) w) = _
      rw [empty_add]
     ·have hl' : (loadCells ⟨r, δ + off, none⟩ n).run P w = .ok vs w := hl
      simp only [Go.convert, Sem.run_bind, r1, r2, r3, Result.andThen_ok, Conv.bytesToString, hl']
      rw [← Array.forIn_toList, h6]
      refine (congrArg (fun r => Result.andThen r _) (run_pushes P l ByteArray.empty w)).trans ?_
      show (Result.ok (Value.string ⟨ByteArray.empty.data ++ l.toArray⟩) w) = _
      rw [empty_add]
    refine eff_new X hr (run := fun u' w' => (Go.convert s d u).run P w = .ok u' w') (code := fun b => mkT b n 0) (cond := fun b => Bool.rec false (Nat.ble b 16777215) (room n)) k (fun b hb => room_le' hb) ?_
    intro b S' hc hg hlt hB hr'
    have hb := room_le' hc
    have hroom := room_le (and_of' hc).2
    have hsz : (⟨l.toArray⟩ : ByteArray).size = n := by show l.toArray.size = n; simp [hln]
    obtain ⟨h8, h9⟩ := hr'.newval X (v := .string ⟨l.toArray⟩) hlt hg (by
     rw [hB]
     refine .inl ⟨rfl, _, rfl, hsz.symm, fun i y hy => ?_⟩
     exact h7 i y (by simpa using hy))
    have hlc : mkT b n 0 < 2 ^ 128 := by rw [mkT_eq]; unfold txC; omega
    refine ⟨_, w, _, hrun, h9, h8, .one _ _ ?_ hlc, hlc⟩
    show VRel _ (mkT b n 0) _
    rw [mkT_eq]
    have := VRel.txt (G := G.put b (.val (.string ⟨l.toArray⟩))) b n 0 ⟨l.toArray⟩ put_at (by omega) (by omega) (by omega)
    rw [Nat.zero_add] at this
    have e3 : (⟨l.toArray⟩ : ByteArray).extract 0 n = ⟨l.toArray⟩ := by rw [← hsz]; exact ByteArray.extract_zero_size
    rw [e3] at this
    exact this
end
end Go.Vm
namespace Go.Vm
open Go
section
variable (X : GX) (P : Program) {w : World} {G : Gh} {S : St}
theorem nwS_eq (ex len sz ro bits : Nat) (S : St) (k : Nat → St → Res) : nwS ex len sz ro bits S k = new S (.mk 0 (Nat.mul len sz) ro 1 bits) .fl fun b S => need (Bool.rec false (Nat.ble b 16777215) (room len)) (k (mkSl b ex len len sz 0) S) := rfl
theorem nwS_ok (hr : HR X G S w) {run : Value → World → Prop} {len sz ro bits z cap : Nat} {cs : Array Value} {el : TypeId} {fz : Nat × Nat} {w' : World} (hro : ro ≤ len * sz) (hsz : sz ≤ 1023) (hcap : len ≤ cap) (hz : cs.size = z) (hcz : cap * sz ≤ z)
  (hrow : ∀ i v, i < len * sz → cs[i]? = some v → CRel G (cell bits i) v) (hfz : ∀ i, i < z → ¬ (fz.1 ≤ i ∧ i < fz.2)) (hw : Grown1 w (.cells cs el fz) w') (hrun : run (.slice (some ⟨w.heap.size, 0, none⟩) len cap) w') (k : Nat → St → Res) :
  nwS 0 len sz ro bits S k = .fl ∨ ∃ x S' G' w' u, nwS 0 len sz ro bits S k = k x S' ∧ run u w' ∧ Ext G S w G' S' w' ∧ HR X G' S' w' ∧ BRel G' x u ∧ x < 2 ^ 128 := by
 rw [nwS_eq]
 refine eff_new X hr (code := fun b => mkSl b 0 len len sz 0) (cond := fun b => Bool.rec false (Nat.ble b 16777215) (room len)) k (fun b hb => room_le' hb) ?_
 intro b S' hc hg hlt hB hr'
 have hb := room_le' hc
 have hroom := room_le (and_of' hc).2
 have hle : len * sz ≤ z := Nat.le_trans (Nat.mul_le_mul_right _ hcap) hcz
 obtain ⟨h1, h2⟩ := hr'.newrow X (el := el) (fz := fz) hlt hg hB hle hro hz hrow hfz hw
 have hl := @mkSl_lt b 0 len len sz 0 hb (by omega) hroom hroom hsz (by omega)
 refine ⟨_, w', _, hrun, h2, h1, .one _ _ ?_ hl, hl⟩
 show VRel _ (mkSl b 0 len len sz 0) _
 rw [mkSl_eq]
 have := VRel.sl (G := G.put b (.row w.heap.size 0 z)) b 0 len len sz 0 w.heap.size 0 z cap put_at (by omega) (by omega) (Nat.le_refl _) (by omega) (by omega) hcap (fun h => by omega) (fun _ => by omega)
 exact this
theorem grown_freeze (w : World) (d n : Nat) (cs : Array Value) (el : TypeId) : Grown1 w (.cells cs el (n, n + 1)) (({ w with drawn := d, heap := w.heap.push (.cells cs el (0, 0)) } : World).freeze { block := w.heap.size, off := n } 1) := by
 have e : (({ w with drawn := d, heap := w.heap.push (.cells cs el (0, 0)) } : World).freeze { block := w.heap.size, off := n } 1).heap = (w.heap.push (.cells cs el (0, 0))).modify w.heap.size fun
   | .cells c elem (lo, hi) => .cells c elem (if lo == hi then (n, n + 1) else (min lo n, max hi (n + 1)))
   | o => o := rfl
 refine ⟨rfl, rfl, rfl, by rw [e]; simp, ?_, fun k hk => ?_⟩
 ·rw [e, Array.getElem?_modify, if_pos rfl, Array.getElem?_push, if_pos rfl]; rfl
 ·rw [e, Array.getElem?_modify, if_neg (by omega), Array.getElem?_push, if_neg (by omega)]
theorem toB_ok (hX : XOk X P) (hr : HR X G S w) {s d e : TypeId} (hs : und X.ty s = .string) (hd : und X.ty d = .slice e) (he : und X.ty e = .int .u8) {x : Nat} {u : Value} (hx : BRel G x u) (hbx : x < 2 ^ 128) : DoesV X P G S w (Go.convert s d u) 128 (toB x S) := by
 intro k
 have e1 : toB x S k = txt S x .fl fun v => nwS 0 (lenT x) 1 0 v S k := rfl
 rw [e1]
 rcases txt_ok X hr hx hbx Res.fl (fun v => nwS 0 (lenT x) 1 0 v S k) with h1 | ⟨t, a, rfl, h2, h3, h4, _⟩
 ·exact .inl h1
 ·rw [h4, h3]
  have r1 := hX.run_und (t := s) (by rw [hs]; simp) w
  have r2 := hX.run_und (t := d) (by rw [hd]; simp) w
  have r3 := hX.run_und (t := e) (by rw [he]; simp) w
  rw [hs] at r1
  rw [hd] at r2
  rw [he] at r3
  generalize hcap : (Question.appendCap t.size 0 e).cut (w.tape w.drawn (.appendCap t.size 0 e)) = cap
  have hcle : t.size ≤ cap := by rw [← hcap]; simp only [Question.cut]; omega
  generalize hel : (t.data.map fun b => (Value.int .u8 b.toNat : Value)) ++ Array.replicate (cap - t.size) (.int .u8 0) = cs
  have hts : t.data.toList.length = t.size := (Lib.size_eq t).symm
  have hds : t.data.size = t.size := rfl
  have hsz : cs.size = cap := by rw [← hel]; simp; omega
  have hlt : w.heap.size < (w.heap.push (.cells cs e)).size := by simp
  refine nwS_ok X hr (run := fun u' w' => (Go.convert s d (.string t)).run P w = .ok u' w') (cs := cs) (el := e) (fz := (cap, cap + 1)) (z := cap) (cap := cap)
   (w' := ({ w with drawn := w.drawn + 1, heap := w.heap.push (.cells cs e (0, 0)) } : World).freeze { block := w.heap.size, off := cap } 1) (Nat.zero_le _) (by omega) (by omega) hsz (by omega) ?_ (fun i hi => by dsimp only; omega) ?_ ?_ k
  ·intro i v hi hv
   rw [Nat.mul_one] at hi
   have hib : i < t.data.size := by omega
   rw [← hel, Array.getElem?_append_left (by simpa using hib), Array.getElem?_map, Array.getElem?_eq_getElem hib] at hv
   simp only [Option.map_some, Option.some.injEq] at hv
   subst hv
   refine ⟨rfl, .inr ?_⟩
   have hget : t.data.toList[i]? = some t.data[i] := by simp [hib]
   rw [h2.cell i _ hget]
   exact .int .u8 (t.data[i].toNat : Int) (fits_u (by decide) (by decide) (UInt8.toNat_lt _))
  ·exact grown_freeze w _ cap cs e
  ·have hq : (Question.appendCap t.size 0 e).forced = false := rfl
   rw [hts]
   have hpush : (w.heap.push (Obj.cells cs e (0, 0)))[w.heap.size]? = some (Obj.cells cs e (0, 0)) := by simp
   simp only [Go.convert, Sem.run_bind, r1, r2, r3, Result.andThen_ok, Conv.stringToBytes, run_choose, hq, Bool.false_eq_true, if_false, hcap, hel, newRow, run_newObj, Sem.run_pure, markStringish, run_shape, World.shape?, hpush, run_freeze, hsz]
end
end Go.Vm
namespace Go.Vm
open Go
section
variable (X : GX) (P : Program) {w : World} {G : Gh} {S : St}
theorem nextcap_le (need cap : Nat) (h : cap < need) : Builtin.nextslicecap need cap ≤ 4 * need + 4096 := by
 unfold Builtin.nextslicecap
 have hg : ∀ (k c : Nat), c ≤ 2 * need + 1024 → Builtin.growBy need k c ≤ 4 * need + 4096 := by
  intro k
  induction k with
  | zero => intro c hc; simp only [Builtin.growBy]; omega
  | succ k ih =>
   intro c hc
   simp only [Builtin.growBy]
   split
   ·omega
   ·exact ih _ (by omega)
 split
 ·omega
 ·split
  ·omega
  ·exact hg 4 cap (by omega)
structure AppArg (P : Program) (w : World) (ats : Array TypeId) (e : TypeId) (sz : Nat) (vz : Value) (ux : Value) (n : Nat) (new : Array Value) : Prop where
 run : ∀ (base : Option Addr) (len rc : Nat) (t ty : TypeId), ats[0]? = some t → len ≤ 1048576 → (∀ w', (underlying t).run P w' = .ok (.slice e) w') →
  (len + n ≤ rc → ∀ w'', (match base with | some a => storeCells (a.add (len * sz)) new.toList | none => pure () : Sem Unit).run P w = .ok () w'' → (Builtin.append_ ats ty #[.slice base len rc, ux]).run P w = .ok (.slice base (len + n) rc) w'') ∧
  (¬ len + n ≤ rc → ∀ old : Array Value, (∀ w', w'.heap = w.heap → (Builtin.firstCells sz len (.slice base len rc)).run P w' = .ok old w') → ∃ newCap, len + n ≤ newCap ∧
   (Builtin.append_ ats ty #[.slice base len rc, ux]).run P w = .ok (.slice (some ⟨w.heap.size, 0, none⟩) (len + n) newCap) { w with drawn := w.drawn + 1, heap := w.heap.push (.cells (old ++ new ++ Builtin.zeroCells vz.cells (newCap - (len + n))) e) })
theorem app_slice (hX : XOk X P) {ats : Array TypeId} {u' e e' : TypeId} {sz n : Nat} {vz ux : Value} {new : Array Value} {ie : TypeInfo} (hu : ats[1]? = some u') (ru : ∀ w', (underlying u').run P w' = .ok (.slice e') w') (rs : ∀ w', (sizeOf e).run P w' = .ok sz w') (ri : ∀ w', (typeInfo e).run P w' = .ok ie w')
  (hby : ie.bytes ≤ 1048576) (rz : ∀ w', (zeroValue e).run P w' = .ok vz w') (hlen : (Builtin.lenOf ux).run P w = .ok n w) (hnew : ∀ w', w'.heap = w.heap → (Builtin.firstCells sz n ux).run P w' = .ok new w') (hnm : n ≤ 1048576) :
  AppArg P w ats e sz vz ux n new := by
 refine ⟨fun base len rc t ty ht hlm rt => ⟨fun hle w'' hst => ?_, fun hgt old hold => ?_⟩⟩
 ·unfold Builtin.append_
  have r1 := hnew w rfl
  simp only [List.getElem?_toArray, List.getElem?_cons_zero, List.getElem?_cons_succ, ht, hu, Sem.run_bind, rt, rs, ru, Result.andThen_ok, Sem.run_pure, Bool.false_eq_true, if_false, hlen, if_pos hle, Bool.not_false, if_true, r1]
  cases base with
  | none => simp only [Sem.run_pure] at hst; cases hst; rfl
  | some a => simp only [Sem.run_bind, hst, Result.andThen_ok, Sem.run_pure]
 ·generalize hcap : (Question.appendCap (len + n) rc e).cut (w.tape w.drawn (.appendCap (len + n) rc e)) = newCap
  have hcle : len + n ≤ newCap := by rw [← hcap]; simp only [Question.cut]; omega
  refine ⟨newCap, hcle, ?_⟩
  have hr : len + n ≤ 4194304 := by omega
  have hq : (Question.appendCap (len + n) rc e).forced = false := rfl
  have h1 := hnew { w with drawn := w.drawn + 1 } rfl
  have h2 := hold { w with drawn := w.drawn + 1 } rfl
  have hc1 : ¬ (((len + n : Nat) : Int) > IntKind.i64.max) := by
   have : IntKind.i64.max = 9223372036854775807 := rfl
   omega
  have hc2 : ¬ (Builtin.nextslicecap (len + n) rc * ie.bytes > 2 ^ 48) := by
   have h3 := nextcap_le (len + n) rc (by omega)
   have h4 : Builtin.nextslicecap (len + n) rc * ie.bytes ≤ 16781312 * 1048576 := Nat.mul_le_mul (by omega) hby
   omega
  unfold Builtin.append_
  simp only [List.getElem?_toArray, List.getElem?_cons_zero, List.getElem?_cons_succ, ht, hu, Sem.run_bind, rt, rs, ru, Result.andThen_ok, Sem.run_pure, Bool.false_eq_true, if_false, hlen, if_neg hgt, Bool.not_false, if_true, ri, hc1, false_and, if_neg hc2, run_choose, hq, hcap, run_askRoom, h2, h1, rz, newRow, run_newObj, Sem.run_ite]
theorem app_zeros (hX : XOk X P) {ats : Array TypeId} {u' e : TypeId} {k : IntKind} {sz n : Nat} {vz : Value} {new : Array Value} {ie : TypeInfo} (hu : ats[1]? = some u') (ru : ∀ w', (underlying u').run P w' = .ok (.int k) w') (rs : ∀ w', (sizeOf e).run P w' = .ok sz w') (ri : ∀ w', (typeInfo e).run P w' = .ok ie w')
  (hby : ie.bytes ≤ 1048576) (rz : ∀ w', (zeroValue e).run P w' = .ok vz w') (hn : n ≤ 1048575) (hnew : new = if n * sz = 0 then #[] else Builtin.zeroCells vz.cells n) :
  AppArg P w ats e sz vz (.int .i64 n) n new := by
 have wn : IntKind.i64.wrap (n : Int) = n := wrap_fits (fits_i (by omega) (by omega))
 have hb1 : ¬ ((n : Int) * (ie.bytes : Int) > 2 ^ 48) := by
  have h7 : n * ie.bytes ≤ 1048575 * 1048576 := Nat.mul_le_mul hn hby
  have h8 : (n : Int) * (ie.bytes : Int) = ((n * ie.bytes : Nat) : Int) := (Int.natCast_mul _ _).symm
  rw [h8]; omega
 have hn0 : ¬ ((n : Int) < 0) := by omega
 refine ⟨fun base len rc t ty ht hlm rt => ⟨fun hle w'' hst => ?_, fun hgt old hold => ?_⟩⟩
 ·have r1 : (if n * sz = 0 then pure #[] else (do pure (Builtin.zeroCells (← zeroValue e).cells n)) : Sem (Array Value)).run P w = .ok new w := by
   rw [hnew]; split <;> simp [rz]
  unfold Builtin.append_
  simp only [List.getElem?_toArray, List.getElem?_cons_zero, List.getElem?_cons_succ, ht, hu, Sem.run_bind, rt, rs, ru, ri, Result.andThen_ok, Sem.run_pure, if_true, asInt, asIntOf, wn, if_neg hn0, if_neg hb1, Int.toNat_natCast, if_pos hle, Bool.not_true, Bool.false_eq_true, if_false, r1]
  cases base with
  | none => simp only [Sem.run_pure] at hst; cases hst; rfl
  | some a => simp only [Sem.run_bind, hst, Result.andThen_ok, Sem.run_pure]
 ·generalize hcap : (Question.appendCap (len + n) rc e).cut (w.tape w.drawn (.appendCap (len + n) rc e)) = newCap
  have hcle : len + n ≤ newCap := by rw [← hcap]; simp only [Question.cut]; omega
  refine ⟨newCap, hcle, ?_⟩
  have hr : len + n ≤ 4194304 := by omega
  have hq : (Question.appendCap (len + n) rc e).forced = false := rfl
  have r1 : ∀ w, (if n * sz = 0 then pure #[] else (do pure (Builtin.zeroCells (← zeroValue e).cells n)) : Sem (Array Value)).run P w = .ok new w := by
   intro w; rw [hnew]; split <;> simp [rz]
  have h2 := hold { w with drawn := w.drawn + 1 } rfl
  have hc1 : ¬ (((len + n : Nat) : Int) > IntKind.i64.max) := by
   have : IntKind.i64.max = 9223372036854775807 := rfl
   omega
  have hc2 : ¬ (Builtin.nextslicecap (len + n) rc * ie.bytes > 2 ^ 48) := by
   have h3 := nextcap_le (len + n) rc (by omega)
   have h4 : Builtin.nextslicecap (len + n) rc * ie.bytes ≤ 16781312 * 1048576 := Nat.mul_le_mul (by omega) hby
   omega
  unfold Builtin.append_
  simp only [List.getElem?_toArray, List.getElem?_cons_zero, List.getElem?_cons_succ, ht, hu, Sem.run_bind, rt, rs, ru, ri, Result.andThen_ok, Sem.run_pure, if_true, asInt, asIntOf, wn, if_neg hn0, if_neg hb1, Int.toNat_natCast, if_neg hgt, Bool.not_true, Bool.false_eq_true, if_false, hc1, false_and, if_neg hc2, run_choose, hq, hcap, run_askRoom, h2, r1, rz, newRow, run_newObj]
end
end Go.Vm
namespace Go.Vm
open Go
section
variable (X : GX) (P : Program) {w : World} {G : Gh} {S : St}
theorem HR.retire (hr : HR X G S w) {b r δ z n ro bits : Nat} {S' : St} (hg : G b = some (.row r δ z)) (hB : S.blk b = .mk 0 n ro 1 bits) (hc : S'.cnt = S.cnt) (hb : ∀ k, S'.blk k = if k = b then .mk 0 n n 0 bits else S.blk k) :
  HR X G S' w ∧ Ext G S w G S' w ∧ ∀ b' δ' z' n' ro' tip' bits', b' ≠ b → G b' = some (.row r δ' z') → S'.blk b' = .mk 0 n' ro' tip' bits' → δ' + n' ≤ δ + n ∧ tip' ≠ 1 := by
 have hblt : b < S.cnt := hr.dom b _ hg
 have hsame : ∀ k, k ≠ b → S'.blk k = S.blk k := fun k hk => by rw [hb, if_neg hk]
 have hbb : S'.blk b = .mk 0 n n 0 bits := by rw [hb, if_pos rfl]
 refine ⟨⟨fun k hk => ?_, fun k x hx => by rw [hc]; exact hr.dom k x hx, fun b' r' δ' z' hg' => ?_, fun b' v hg' => ?_, fun b' r' hg' => ?_, hr.one, ?_⟩, ?_, ?_⟩
 ·rw [hsame k (by omega)]; exact hr.cln k (by omega)
 ·obtain ⟨n', ro', tip', bits', h1, h2, h3, cs0, el0, fz0, h4, h5, h6, h7⟩ := hr.row b' r' δ' z' hg'
  by_cases e : b' = b
  ·subst e
   rw [hg] at hg'; cases hg'
   rw [hB] at h1; cases h1
   exact ⟨n, n, 0, bits, hbb, h2, Nat.le_refl _, cs0, el0, fz0, h4, h5, h6, h7⟩
  ·exact ⟨n', ro', tip', bits', by rw [hsame b' e]; exact h1, h2, h3, cs0, el0, fz0, h4, h5, h6, h7⟩
 ·rw [hsame b' (fun e => by subst e; rw [hg] at hg'; cases hg')]; exact hr.val b' v hg'
 ·obtain ⟨o, h1, h2⟩ := hr.obj b' r' hg'
  exact ⟨o, h1, by rw [hsame b' (fun e => by subst e; rw [hg] at hg'; cases hg')]; exact h2⟩
 ·intro b1 b2 r' δ1 z1 δ2 z2 n1 ro1 tip1 bits1 n2 ro2 tip2 bits2 hne h1 h2 h3 h4
  by_cases e1 : b1 = b
  ·have e2 : b2 ≠ b := fun e => hne (e1.trans e.symm)
   subst e1
   rw [hbb] at h3; cases h3
   rw [hsame b2 e2] at h4
   rw [hg] at h1; cases h1
   have := (hr.apart b1 b2 _ _ _ _ _ _ _ _ _ _ _ _ _ hne hg h2 hB h4).1
   exact ⟨fun i j hi hj hij => ⟨hi, (this i j hi hj hij).2⟩, fun h => by cases h⟩
  ·rw [hsame b1 e1] at h3
   by_cases e2 : b2 = b
   ·subst e2
    rw [hbb] at h4; cases h4
    rw [hg] at h2; cases h2
    have := hr.apart b1 b2 _ _ _ _ _ _ _ _ _ _ _ _ _ hne h1 hg h3 hB
    exact ⟨fun i j hi hj hij => ⟨(this.1 i j hi hj hij).1, hj⟩, fun h => ⟨(this.2 h).1, by decide⟩⟩
   ·rw [hsame b2 e2] at h4
    exact hr.apart b1 b2 r' δ1 z1 δ2 z2 _ _ _ _ _ _ _ _ hne h1 h2 h3 h4
 ·exact ⟨fun _ _ h => h, rfl, rfl, rfl, Nat.le_refl _, fun _ _ _ => rfl, by rw [hc]; exact Nat.le_refl _, fun k hk hgk => ⟨hsame k (fun e => by subst e; rw [hg] at hgk; cases hgk), hgk⟩, fun b' x r' h h' _ => ⟨b', x, h, h'⟩⟩
 ·intro b' δ' z' n' ro' tip' bits' hne hg' hB'
  rw [hsame b' hne] at hB'
  exact (hr.apart b b' r δ z δ' z' _ _ _ _ _ _ _ _ (Ne.symm hne) hg hg' hB hB').2 rfl
theorem HR.share (hr : HR X G S w) {b r δ z a bits b2 n2 ro2 bits2 off : Nat} {new cs cs' : Array Value} {el : TypeId} {fz : Nat × Nat} {w' : World} (hg : G b = some (.row r δ z)) (hB : S.blk b = .mk 0 a a 0 bits)
  (hoth : ∀ b' δ' z' n' ro' tip' bits', b' ≠ b → G b' = some (.row r δ' z') → S.blk b' = .mk 0 n' ro' tip' bits' → δ' + n' ≤ δ + a ∧ tip' ≠ 1)
  (hlt2 : b2 < S.cnt) (hg2 : G b2 = none) (hB2 : S.blk b2 = .mk 0 n2 ro2 1 bits2) (hn2 : off + n2 ≤ z) (ha : off + ro2 = a) (hro : ro2 ≤ n2) (hcell : ∀ i v, i < n2 → cs'[δ + off + i]? = some v → CRel G (cell bits2 i) v)
  (hh : w.heap[r]? = some (.cells cs el fz)) (hset : SetAt cs (δ + a) new cs') (hw : Turned w r (.cells cs' el fz) w') {S1 : St} (hc1 : S1.cnt = b2) (hs1 : ∀ k, k ≠ b2 → S.blk k = S1.blk k) :
  HR X (G.put b2 (.row r (δ + off) (z - off))) S w' ∧ Ext G S1 w (G.put b2 (.row r (δ + off) (z - off))) S w' := by
 have hle : Gh.le G (G.put b2 (.row r (δ + off) (z - off))) := put_le hg2
 have hne2 : ∀ {k x}, G k = some x → k ≠ b2 := fun h e => by subst e; rw [hg2] at h; cases h
 have hbne : b ≠ b2 := hne2 hg
 obtain ⟨n0, ro0, tip0, bits0, h01, h02, h03, cs0, el0, fz0, h04, h05, h06, h07⟩ := hr.row b r δ z hg
 rw [hB] at h01; cases h01
 rw [hh] at h04; cases h04
 have ahead_ : ∀ b' δ' z' n' ro' tip' bits', G b' = some (.row r δ' z') → S.blk b' = .mk 0 n' ro' tip' bits' → δ' + n' ≤ δ + a := by
  intro b' δ' z' n' ro' tip' bits' hg' hB'
  by_cases e : b' = b
  ·subst e; rw [hg] at hg'; cases hg'; rw [hB] at hB'; cases hB'; exact Nat.le_refl _
  ·exact (hoth b' δ' z' n' ro' tip' bits' e hg' hB').1
 constructor
 ·refine ⟨hr.cln, fun k x hx => ?_, fun b' r' δ' z' hg' => ?_, fun b' v hg' => ?_, fun b' r' hg' => ?_, fun b1 b3 r' h1 h3 => ?_, ?_⟩
  ·by_cases e : k = b2
   ·subst e; exact hlt2
   ·rw [put_ne e] at hx; exact hr.dom k x hx
  ·by_cases e : b' = b2
   ·subst e
    rw [put_at] at hg'; cases hg'
    exact ⟨n2, ro2, 1, bits2, hB2, by omega, hro, cs', el, fz, hw.at_, by rw [hset.size]; omega, fun i v hi hv => (hcell i v hi hv).mono hle, fun i hi => h07 i (by omega)⟩
   ·rw [put_ne e] at hg'
    obtain ⟨n', ro', tip', bits', h1, h2, h3, cs1, el1, fz1, h4, h5, h6, h7⟩ := hr.row b' r' δ' z' hg'
    by_cases er : r' = r
    ·subst er
     rw [hh] at h4; cases h4
     have hah := ahead_ b' δ' z' _ _ _ _ hg' h1
     refine ⟨n', ro', tip', bits', h1, h2, h3, cs', el, fz, hw.at_, by rw [hset.size]; exact h5, fun i v hi hv => ?_, h7⟩
     rw [hset.get, if_neg (by omega)] at hv
     exact (h6 i v hi hv).mono hle
    ·exact ⟨n', ro', tip', bits', h1, h2, h3, cs1, el1, fz1, by rw [hw.other r' er]; exact h4, h5, fun i v hi hv => (h6 i v hi hv).mono hle, h7⟩
  ·by_cases e : b' = b2
   ·subst e; rw [put_at] at hg'; cases hg'
   ·rw [put_ne e] at hg'; exact (hr.val b' v hg').mono hle
  ·by_cases e : b' = b2
   ·subst e; rw [put_at] at hg'; cases hg'
   ·rw [put_ne e] at hg'
    obtain ⟨o, h1, h2⟩ := hr.obj b' r' hg'
    have hne : r' ≠ r := fun e => by subst e; rw [hh] at h1; cases h1; exact obj_cells h2
    exact ⟨o, by rw [hw.other r' hne]; exact h1, h2.mono hle⟩
  ·have e1 : b1 ≠ b2 := fun e => by subst e; rw [put_at] at h1; cases h1
   have e3 : b3 ≠ b2 := fun e => by subst e; rw [put_at] at h3; cases h3
   rw [put_ne e1] at h1
   rw [put_ne e3] at h3
   exact hr.one b1 b3 r' h1 h3
  ·intro b1 b3 r' δ1 z1 δ3 z3 n1 ro1 tip1 bits1 n3 ro3 tip3 bits3 hne h1 h3 hB1 hB3
   have meet : ∀ b' δ' z' n' ro' tip' bits', b' ≠ b2 → G b' = some (.row r δ' z') → S.blk b' = .mk 0 n' ro' tip' bits' → ∀ i j, i < n' → j < n2 → δ' + i = δ + off + j → i < ro' ∧ j < ro2 := by
    intro b' δ' z' n' ro' tip' bits' hnb hg' hB' i j hi hj hij
    have hah := ahead_ b' δ' z' n' ro' tip' bits' hg' hB'
    have hj2 : j < ro2 := by omega
    by_cases e : b' = b
    ·subst e; rw [hg] at hg'; cases hg'; rw [hB] at hB'; cases hB'
     exact ⟨hi, hj2⟩
    ·have := (hr.apart b' b r δ' z' δ z _ _ _ _ _ _ _ _ e hg' hg hB' hB).1 i (off + j) hi (by omega) (by omega)
     exact ⟨this.1, hj2⟩
   by_cases e1 : b1 = b2
   ·have e3 : b3 ≠ b2 := fun e => hne (e1.trans e.symm)
    rw [put_ne e3] at h3
    subst e1
    rw [put_at] at h1; cases h1
    rw [hB2] at hB1; cases hB1
    refine ⟨fun i j hi hj hij => ?_, fun _ => ?_⟩
    ·have := meet b3 δ3 z3 n3 ro3 tip3 bits3 e3 h3 hB3 j i hj hi hij.symm
     exact ⟨this.2, this.1⟩
    ·have hah := ahead_ b3 δ3 z3 n3 ro3 tip3 bits3 h3 hB3
     refine ⟨by omega, ?_⟩
     by_cases e : b3 = b
     ·subst e; rw [hB] at hB3; cases hB3; decide
     ·exact (hoth b3 δ3 z3 n3 ro3 tip3 bits3 e h3 hB3).2
   ·rw [put_ne e1] at h1
    by_cases e3 : b3 = b2
    ·subst e3
     rw [put_at] at h3; cases h3
     rw [hB2] at hB3; cases hB3
     refine ⟨fun i j hi hj hij => meet b1 δ1 z1 n1 ro1 tip1 bits1 e1 h1 hB1 i j hi hj hij, fun ht => ?_⟩
     exfalso
     by_cases e : b1 = b
     ·subst e; rw [hB] at hB1; cases hB1; cases ht
     ·exact (hoth b1 δ1 z1 n1 ro1 tip1 bits1 e h1 hB1).2 ht
    ·rw [put_ne e3] at h3
     exact hr.apart b1 b3 r' δ1 z1 δ3 z3 _ _ _ _ _ _ _ _ hne h1 h3 hB1 hB3
 ·refine ⟨hle, hw.os, hw.tape, hw.output, by rw [hw.size]; exact Nat.le_refl _, fun r' hr' hn => hw.other r' fun e => hn b _ hg (by rw [e]; rfl), by omega, fun k hk hgk => ⟨hs1 k (by omega), by rw [put_ne (by omega)]; exact hgk⟩, fun b' x r' h h' hlt => ?_⟩
  ·by_cases e : b' = b2
   ·subst e; rw [put_at] at h; cases h
    exact ⟨b, _, hg, h'⟩
   ·rw [put_ne e] at h; exact ⟨b', x, h, h'⟩
end
end Go.Vm
namespace Go.Vm
open Go
section
variable (X : GX) (P : Program) {w : World} {G : Gh} {S : St}
theorem zeroCells_size (z : Array Value) (n : Nat) : (Builtin.zeroCells z n).size = n * z.size := by simp [Builtin.zeroCells]
theorem row_cat {x y : Nat} {a b : Array Value} (hx : Row G x a) (hy : Row G y b) (hl : x < 2 ^ (128 * a.size)) : Row G (x + y <<< (128 * a.size)) (a ++ b) := by
 intro i v hi
 rw [cell_cat _ _ _ _ hl]
 by_cases h : i < a.size
 ·rw [if_pos h]
  rw [Array.getElem?_append_left h] at hi
  exact hx i v hi
 ·rw [if_neg h]
  rw [Array.getElem?_append_right (by omega)] at hi
  exact hy _ v hi
theorem apGo_ok (hX : XOk X P) (hr : HR X G S w) {t e : TypeId} {ats : Array TypeId} {ty : TypeId} {vz : Value} (hu : und X.ty t = .slice e) (hat : ats[0]? = some t) (hsz : szOf X.ty e ≤ 1023) (hs0 : szOf X.ty e ≠ 0) (hvz : vz.cells.size = szOf X.ty e)
  {s : Nat} {u ux : Value} (hs : BRel G s u) (hbs : s < 2 ^ 128) {n v : Nat} {newc : Array Value} (hnew : newc.size = n * szOf X.ty e) (hrow : Row G v newc) (hv : v < 2 ^ (128 * (n * szOf X.ty e))) (happ : AppArg P w ats e (szOf X.ty e) vz ux n newc) :
  DoesV X P G S w (Builtin.append_ ats ty #[u, ux]) 128 (apGo (szOf X.ty e) s n v S) := by
 intro k
 have rt : ∀ w', (underlying t).run P w' = .ok (.slice e) w' := fun w' => by have := hX.run_und (t := t) (by rw [hu]; simp) w'; rw [hu] at this; exact this
 generalize hsze : szOf X.ty e = sz at *
 have e1 : apGo sz s n v S k = Bool.rec (motive := fun _ => Res) (need (Nat.beq s 7) (Bool.rec (motive := fun _ => Res) (nwS 0 n sz 0 v S k) (k 7 S) (Nat.beq n 0)))
  (need (Nat.beq (szS s) sz) (Bool.rec (motive := fun _ => Res)
   (cells sz s (lenS s) S fun old =>
    Bool.rec (motive := fun _ => Res)
     (get S (blkOf s) fun kd a _ tip bits => need (Bool.rec false (Bool.rec false (Nat.beq (Nat.add (offS s) (Nat.mul (lenS s) sz)) a) (Nat.beq tip 1)) (Nat.beq kd 0))
      (set S (blkOf s) (.mk 0 a a 0 bits) .fl fun S =>
       nwS 0 (Nat.add (lenS s) n) sz (Nat.mul (lenS s) sz) (Nat.add old (Nat.shiftLeft v (Nat.mul 128 (Nat.mul (lenS s) sz)))) S k))
     (nwS 0 (Nat.add (lenS s) n) sz 0 (Nat.add old (Nat.shiftLeft v (Nat.mul 128 (Nat.mul (lenS s) sz)))) S k) (exS s))
   (Bool.rec (motive := fun _ => Res) (wrB (blkOf s) (Nat.add (offS s) (Nat.mul (lenS s) sz)) (Nat.mul 128 (Nat.mul n sz)) v S (k (Nat.add s (Nat.shiftLeft n 30)))) (k s S) (Nat.beq n 0))
   (Nat.ble (Nat.add (lenS s) n) (capS s)))) (isSl s) := rfl
 rw [e1]
 have fresh : ∀ {S' : St}, HR X G S' w → ∀ {base : Option Addr} {len rc ro old : Nat} {vs : Array Value}, vs.size = len * sz → Row G old vs → old < 2 ^ (128 * (len * sz)) → ro ≤ (len + n) * sz → (∀ w', w'.heap = w.heap → (Builtin.firstCells sz len (.slice base len rc)).run P w' = .ok vs w') → ¬ len + n ≤ rc → len ≤ 1048576 →
   nwS 0 (len + n) sz ro (old + v <<< (128 * (len * sz))) S' k = .fl ∨ ∃ x S'' G' w' u', nwS 0 (len + n) sz ro (old + v <<< (128 * (len * sz))) S' k = k x S'' ∧ (Builtin.append_ ats ty #[.slice base len rc, ux]).run P w = .ok u' w' ∧ Ext G S' w G' S'' w' ∧ HR X G' S'' w' ∧ BRel G' x u' ∧ x < 2 ^ 128 := by
  intro S' hr' base len rc ro old vs hvs hvr hvl hro hfc hgt hlm
  obtain ⟨newCap, hcle, hrun⟩ := (happ.run base len rc t ty hat hlm rt).2 hgt vs hfc
  have hm : (len + n) * sz = len * sz + n * sz := Nat.add_mul _ _ _
  have hm2 : newCap * sz = (len + n) * sz + (newCap - (len + n)) * sz := by rw [← Nat.add_mul]; congr 1; omega
  refine nwS_ok X hr' (run := fun u' w' => (Builtin.append_ ats ty #[.slice base len rc, ux]).run P w = .ok u' w') (cs := vs ++ newc ++ Builtin.zeroCells vz.cells (newCap - (len + n))) (el := e) (fz := (0, 0)) (z := newCap * sz) (cap := newCap)
   (w' := { w with drawn := w.drawn + 1, heap := w.heap.push (.cells (vs ++ newc ++ Builtin.zeroCells vz.cells (newCap - (len + n))) e) }) hro hsz hcle ?_ (Nat.le_refl _) ?_ (fun i _ => by omega) ?_ hrun k
  ·simp only [Array.size_append, zeroCells_size, hvs, hnew, hvz]; omega
  ·intro i y hi hy
   rw [Array.getElem?_append_left (by simp only [Array.size_append, hvs, hnew]; omega)] at hy
   have := row_cat hvr hrow (by rw [hvs]; exact hvl) i y hy
   rw [hvs] at this; exact this
  ·exact ⟨rfl, rfl, rfl, by simp, by simp, fun k hk => by simp [Array.getElem?_push, Nat.ne_of_lt hk]⟩
 cases hsl : isSl s with
 | false =>
  dsimp only
  rcases need_cases (Nat.beq s 7) (Bool.rec (motive := fun _ => Res) (nwS 0 n sz 0 v S k) (k 7 S) (Nat.beq n 0)) with h1 | ⟨h1, h2⟩
  ·exact .inl h1
  ·rw [h2]
   have := beq_iff.1 h1; subst this
   obtain ⟨_, rfl⟩ := brel_code hs hbs (by decide) 7 rfl
   cases h0 : Nat.beq n 0 with
   | true =>
    have := beq_iff.1 h0; subst this
    refine .inr ⟨7, S, G, w, .slice none 0 0, rfl, ?_, .refl _ _ _, hr, hs, hbs⟩
    exact (happ.run none 0 0 t ty hat (by omega) rt).1 (by omega) w rfl
   | false =>
    have hn0 : n ≠ 0 := fun h => by rw [h] at h0; cases h0
    have row0 : Row G 0 #[] := fun i v h => by simp at h
    have := fresh hr (base := none) (len := 0) (rc := 0) (ro := 0) (old := 0) (vs := #[]) (by simp) row0 (Nat.two_pow_pos _) (Nat.zero_le _) (fun w' _ => rfl) (by omega) (by omega)
    rw [Nat.zero_add, Nat.zero_mul, Nat.mul_zero, Nat.shiftLeft_zero, Nat.zero_add] at this
    exact this
 | true =>
  dsimp only
  rcases need_cases (Nat.beq (szS s) sz) (Bool.rec (motive := fun _ => Res)
   (cells sz s (lenS s) S fun old =>
    Bool.rec (motive := fun _ => Res)
     (get S (blkOf s) fun kd a _ tip bits => need (Bool.rec false (Bool.rec false (Nat.beq (Nat.add (offS s) (Nat.mul (lenS s) sz)) a) (Nat.beq tip 1)) (Nat.beq kd 0))
      (set S (blkOf s) (.mk 0 a a 0 bits) .fl fun S =>
       nwS 0 (Nat.add (lenS s) n) sz (Nat.mul (lenS s) sz) (Nat.add old (Nat.shiftLeft v (Nat.mul 128 (Nat.mul (lenS s) sz)))) S k))
     (nwS 0 (Nat.add (lenS s) n) sz 0 (Nat.add old (Nat.shiftLeft v (Nat.mul 128 (Nat.mul (lenS s) sz)))) S k) (exS s))
   (Bool.rec (motive := fun _ => Res) (wrB (blkOf s) (Nat.add (offS s) (Nat.mul (lenS s) sz)) (Nat.mul 128 (Nat.mul n sz)) v S (k (Nat.add s (Nat.shiftLeft n 30)))) (k s S) (Nat.beq n 0))
   (Nat.ble (Nat.add (lenS s) n) (capS s))) with h1 | ⟨h1, h2⟩
  ·exact .inl h1
  ·rw [h2]
   obtain ⟨b, ex, len, cap, sz', off, r, δ, z, rc, rfl, hg, hb, he, hl, hc, hsz', hrc, hxc, hz, rfl⟩ := brel_code hs hbs (by intro h; subst h; cases hsl) 23 ((isSl_iff s).1 hsl)
   rw [sl_sz hb he hl hc hsz', beq_iff] at h1
   subst h1
   rw [sl_len hb he hl hc hsz', sl_cap hb he hl hc hsz', sl_off hb he hl hc hsz', sl_blk hb he, exS_eq hb he hl hc hsz']
   show Bool.rec (motive := fun _ => Res) _ _ (Nat.ble (len + n) cap) = .fl ∨ ∃ x S' G' w' u', Bool.rec (motive := fun _ => Res) _ _ (Nat.ble (len + n) cap) = k x S' ∧ _
   cases hfit : Nat.ble (len + n) cap with
   | true =>
    rw [ble_iff] at hfit
    dsimp only
    cases h0 : Nat.beq n 0 with
    | true =>
     have := beq_iff.1 h0; subst this
     have hnil : newc = #[] := Array.eq_empty_of_size_eq_zero (by omega)
     refine .inr ⟨_, S, G, w, _, rfl, ?_, .refl _ _ _, hr, hs, hbs⟩
     have := (happ.run (some ⟨r, δ + off, none⟩) len rc t ty hat (by omega) rt).1 (by omega) w (by rw [hnil]; rfl)
     exact this
    | false =>
     have hn0 : n ≠ 0 := fun h => by rw [h] at h0; cases h0
     dsimp only
     have hsz2 : newc.size = n * sz' := hnew
     have key := wrB_ok X P hr (off := off + len * sz') (vs := newc) (vb := v) hg hrow (by rw [hsz2]; exact hv) (k (Nat.add (slC b ex len cap sz' off) (Nat.shiftLeft n 30)))
     rw [hsz2] at key
     rcases key with h3 | ⟨S', w', h3, h4, h5, h6⟩
     ·exact .inl h3
     ·have hcode : Nat.add (slC b ex len cap sz' off) (Nat.shiftLeft n 30) = slC b ex (len + n) cap sz' off := by
       rw [shl_eq]
       show slC b ex len cap sz' off + n * 1073741824 = _
       unfold slC; omega
      rw [hcode] at h3
      have hlt : slC b ex (len + n) cap sz' off < 2 ^ 128 := by
       have h8 : slC b ex len cap sz' off < 2 ^ 128 := hbs
       unfold slC at h8 ⊢
       have : 1208925819614629174706176 * off < 2 ^ 128 := by omega
       omega
      refine .inr ⟨_, S', G, w', .slice (some ⟨r, δ + off, none⟩) (len + n) rc, by rw [hcode]; exact h3, ?_, h6, h5, .one _ _ ?_ hlt, hlt⟩
      ·refine (happ.run (some ⟨r, δ + off, none⟩) len rc t ty hat (by omega) rt).1 (by omega) w' ?_
       dsimp only
       rw [addr_add, Nat.add_assoc]; exact h4
      ·exact .sl b ex (len + n) cap sz' off r δ z rc hg hb he (by omega) hc hsz' hrc hxc hz
   | false =>
    have hfit' : cap < len + n := ble_false hfit
    dsimp only
    have hcell := cells_ok X P hr (x := slC b ex len cap sz' off) (len := len) (n := len) (sz := sz') (u := .slice (some ⟨r, δ + off, none⟩) len rc) (Nat.le_refl _) (.inr ⟨b, ex, cap, sz', off, r, δ, z, rc, rfl, hg, hb, he, hl, hc, hsz', hrc, hxc, hz, rfl⟩)
     (fun old => Bool.rec (motive := fun _ => Res)
      (get S b fun kd a _ tip bits => need (Bool.rec false (Bool.rec false (Nat.beq (Nat.add off (Nat.mul len sz')) a) (Nat.beq tip 1)) (Nat.beq kd 0))
       (set S b (.mk 0 a a 0 bits) .fl fun S => nwS 0 (Nat.add len n) sz' (Nat.mul len sz') (Nat.add old (Nat.shiftLeft v (Nat.mul 128 (Nat.mul len sz')))) S k))
      (nwS 0 (Nat.add len n) sz' 0 (Nat.add old (Nat.shiftLeft v (Nat.mul 128 (Nat.mul len sz')))) S k) (Nat.beq ex 1))
    rcases hcell with h3 | ⟨old, h3, vs, hvs, hvr, hvl, hload⟩
    ·exact .inl h3
    ·rw [h3]
     have hfc : ∀ w', w'.heap = w.heap → (Builtin.firstCells sz' len (.slice (some ⟨r, δ + off, none⟩) len rc)).run P w' = .ok vs w' := fun w' hw' => hload w' hw'
     cases hex : Nat.beq ex 1 with
     | true =>
      have hex1 := beq_iff.1 hex
      dsimp only
      exact fresh hr (base := some ⟨r, δ + off, none⟩) (len := len) (rc := rc) (ro := 0) hvs hvr hvl (Nat.zero_le _) hfc (by rw [hxc hex1]; omega) (by omega)
     | false =>
      have hex0 : ex = 0 := by
       have : ex ≠ 1 := fun h => by rw [h] at hex; cases hex
       omega
      dsimp only
      obtain ⟨a, ro, tip, bits, cs, el, fz, g1, g2, g3, g4, g5, g6, g7⟩ := hr.at_ X hg
      rw [get_of g1]
      rcases need_cases (Bool.rec (motive := fun _ => Bool) false (Bool.rec (motive := fun _ => Bool) false (Nat.beq (Nat.add off (Nat.mul len sz')) a) (Nat.beq tip 1)) (Nat.beq 0 0))
       (set S b (.mk 0 a a 0 bits) .fl fun S => nwS 0 (Nat.add len n) sz' (Nat.mul len sz') (Nat.add old (Nat.shiftLeft v (Nat.mul 128 (Nat.mul len sz')))) S k) with h4 | ⟨h4, h5⟩
      ·exact .inl h4
      ·rw [h5]
       obtain ⟨h6, h7⟩ := and_of' h4
       have ha : off + len * sz' = a := beq_iff.1 h6
       have htip := beq_iff.1 h7
       subst htip
       rcases set_cases S b (.mk 0 a a 0 bits) Res.fl (fun S => nwS 0 (Nat.add len n) sz' (Nat.mul len sz') (Nat.add old (Nat.shiftLeft v (Nat.mul 128 (Nat.mul len sz')))) S k) with h8 | ⟨S1, h8, h9, h10⟩
       ·exact .inl h8
       ·rw [h8]
        obtain ⟨hr1, hx1, hoth⟩ := hr.retire X hg g1 h9 h10
        have hm : (len + n) * sz' = len * sz' + n * sz' := Nat.add_mul _ _ _
        by_cases hreal : len + n ≤ rc
        ·
         rw [nwS_eq]
         rcases new_cases S1 (.mk 0 (Nat.mul (Nat.add len n) sz') (Nat.mul len sz') 1 (Nat.add old (Nat.shiftLeft v (Nat.mul 128 (Nat.mul len sz'))))) Res.fl
          (fun b S => need (Bool.rec false (Nat.ble b 16777215) (room (Nat.add len n))) (k (mkSl b 0 (Nat.add len n) (Nat.add len n) sz' 0) S)) with h11 | ⟨S2, h11, h12, h13⟩
         ·exact .inl h11
         ·rw [h11]
          rcases need_cases (Bool.rec false (Nat.ble S1.cnt 16777215) (room (Nat.add len n))) (k (mkSl S1.cnt 0 (Nat.add len n) (Nat.add len n) sz' 0) S2) with h14 | ⟨h14, h15⟩
          ·exact .inl h14
          ·rw [h15]
           have hb2 := room_le' h14
           have hroom : len + n ≤ 1048575 := room_le (and_of' h14).2
           have hz' := hz hex0
           have hle1 : (len + n) * sz' ≤ rc * sz' := Nat.mul_le_mul_right _ hreal
           have hg2 : G S1.cnt = none := by
            cases hgg : G S1.cnt with
            | none => rfl
            | some x => have := hr1.dom _ _ hgg; omega
           have hr2 := HR.grow X hr1 h12 h13
           have hbS2 : ∀ kk, kk ≠ S1.cnt → S2.blk kk = S1.blk kk := fun kk hkk => by rw [h13, if_neg hkk]
           have hbne : b ≠ S1.cnt := fun e => by rw [← e, hg] at hg2; cases hg2
           obtain ⟨cs', w', h16, h17, h18, h19⟩ := run_storeCells P r (δ + a) el fz newc.toList 0 cs w g4 (fun j h20 h21 => g7 j (by simp at h21; omega)) (by simp; omega) (fun y hy => by
            obtain ⟨i, hi⟩ := List.getElem?_of_mem hy
            exact (hrow i y (by simpa using hi)).1)
           have hset : SetAt cs (δ + a) newc cs' := ⟨h18, fun i => by rw [h19]; simp⟩
           have hS1b : S1.blk b = .mk 0 a a 0 bits := by rw [h10, if_pos rfl]
           obtain ⟨h20, h21⟩ := hr2.share X (b := b) (b2 := S1.cnt) (n2 := (len + n) * sz') (ro2 := len * sz') (off := off) (new := newc) (a := a) hg (by rw [hbS2 b hbne]; exact hS1b)
            (fun b' δ' z' n' ro' tip' bits' hne hg' hB' => by
             refine hoth b' δ' z' n' ro' tip' bits' hne hg' ?_
             rw [← hbS2 b' (fun e => by rw [e, hg2] at hg'; cases hg')]; exact hB')
            (by omega) hg2 (by rw [h13, if_pos rfl]; rfl) (by omega) ha (by omega) (fun i y hi hy => by
             rw [hset.get] at hy
             show CRel G (cell (old + v <<< (128 * (len * sz'))) i) y
             rw [cell_cat _ _ _ _ hvl]
             by_cases hil : i < len * sz'
             ·rw [if_pos hil]
              rw [if_neg (by omega)] at hy
              have hvi : vs[i]? = some y := by
               have hl0 := hfc w rfl
               have hl1 : (loadCells ⟨r, δ + off, none⟩ (len * sz')).run P w = .ok vs w := hl0
               rw [run_loadCells' P g4 (by omega)] at hl1
               cases hl1
               rw [Array.getElem?_extract, if_pos (by omega)]; exact hy
              exact hvr i y hvi
             ·rw [if_neg hil]
              rw [if_pos (by omega)] at hy
              have e3 : δ + off + i - (δ + a) = i - len * sz' := by omega
              rw [e3] at hy
              exact hrow _ y hy) g4 hset h17 (S1 := S1) rfl hbS2
           have hlc := @mkSl_lt S1.cnt 0 (len + n) (len + n) sz' 0 hb2 (by omega) hroom hroom hsz (by omega)
           refine .inr ⟨_, S2, _, w', .slice (some ⟨r, δ + off, none⟩) (len + n) rc, rfl, ?_, hx1.trans h21, h20, .one _ _ ?_ hlc, hlc⟩
           ·refine (happ.run (some ⟨r, δ + off, none⟩) len rc t ty hat (by omega) rt).1 hreal w' ?_
            dsimp only
            rw [addr_add]
            have e4 : δ + off + len * sz' = δ + a := by omega
            rw [e4]; exact h16
           ·show VRel _ (mkSl S1.cnt 0 (len + n) (len + n) sz' 0) _
            rw [mkSl_eq]
            have := VRel.sl (G := G.put S1.cnt (.row r (δ + off) (z - off))) S1.cnt 0 (len + n) (len + n) sz' 0 r (δ + off) (z - off) rc put_at (by omega) (by omega) (Nat.le_refl _) (by omega) (by omega) hreal (fun h => by omega) (fun _ => by omega)
            exact this
        ·
         rcases fresh hr1 (base := some ⟨r, δ + off, none⟩) (len := len) (rc := rc) (ro := len * sz') (old := old) hvs hvr hvl (by omega) hfc hreal (by omega) with h11 | ⟨x, S2, G2, w2, u2, h11, h12, h13, h14, h15, h16⟩
         ·exact .inl h11
         ·exact .inr ⟨x, S2, G2, w2, u2, h11, h12, hx1.trans h13, h14, h15, h16⟩
end
end Go.Vm
namespace Go.Vm
open Go
section
variable (X : GX) (P : Program) {w : World} {G : Gh} {S : St}
structure ElemT (P : Program) (X : GX) (G : Gh) (e : TypeId) (ie : TypeInfo) (vz : Value) : Prop where
 size : ∀ w, (sizeOf e).run P w = .ok (szOf X.ty e) w
 info : ∀ w, (typeInfo e).run P w = .ok ie w
 zero : ∀ w, (zeroValue e).run P w = .ok vz w
 cells : vz.cells.size = szOf X.ty e
 pos : szOf X.ty e ≠ 0
 row : Row G (zRow X e) vz.cells
 lt : zRow X e < 2 ^ (128 * szOf X.ty e)
theorem elem_of (hX : XOk X P) (hp : PoolOk X G) {e : TypeId} (hz : zOk X.ty e = true) : ∃ ie vz, ElemT P X G e ie vz ∧ X.ty e = some ie := by
 obtain ⟨i, vz, ht, hzv, z1, z2, z3, z4, z5, z6, z7, z8⟩ := zOk_of X hz
 obtain ⟨hzr, hzl⟩ := zRow_ok X hp z1 z2 z4
 exact ⟨i, vz, ⟨hX.run_size (by rw [ht]; rfl), run_info X P hX ht, run_zero X P hX ht hzv, by rw [z5]; exact z1, by omega, hzr, by rw [z5]; exact hzl⟩, ht⟩
theorem apS_ok (hX : XOk X P) (hp : PoolOk X G) (hr : HR X G S w) {t u' e e' : TypeId} {ats : Array TypeId} {ty : TypeId} (hu : und X.ty t = .slice e) (hu' : und X.ty u' = .slice e') (hat : ats[0]? = some t) (hat' : ats[1]? = some u') (hz : zOk X.ty e = true) (hby : okBy X.ty e = true) (hsz : szOf X.ty e ≤ 1023)
  {s x : Nat} {u ux : Value} (hs : BRel G s u) (hbs : s < 2 ^ 128) (hx : BRel G x ux) (hbx : x < 2 ^ 128) : DoesV X P G S w (Builtin.append_ ats ty #[u, ux]) 128 (apS (szOf X.ty e) s x S) := by
 intro k
 have e1 : apS (szOf X.ty e) s x S k = lnC x fun n => cells (szOf X.ty e) x n S fun v => apGo (szOf X.ty e) s n v S k := rfl
 rw [e1]
 rcases lnC_ok hx hbx (fun n => cells (szOf X.ty e) x n S fun v => apGo (szOf X.ty e) s n v S k) with h1 | ⟨n, h1, h2⟩
 ·exact .inl h1
 ·rw [h1]
  rcases cells_ok X P hr (sz := szOf X.ty e) (Nat.le_refl n) h2 (fun v => apGo (szOf X.ty e) s n v S k) with h3 | ⟨v, h3, vs, hvs, hrow, hvl, hload⟩
  ·exact .inl h3
  ·rw [h3]
   obtain ⟨ie, vz, hE, hie⟩ := elem_of X P hX hp hz
   obtain ⟨ie', hie', hby'⟩ := okBy_of X hby
   rw [hie] at hie'; cases hie'
   have ru : ∀ w', (underlying u').run P w' = .ok (.slice e') w' := fun w' => by have := hX.run_und (t := u') (by rw [hu']; simp) w'; rw [hu'] at this; exact this
   have hlen : (Builtin.lenOf ux).run P w = .ok n w := by
    rcases h2 with ⟨rfl, ⟨_, rfl⟩ | ⟨_, a, c, rfl⟩⟩ | ⟨b, ex, cap, sz', off, r, δ, z, rc, _, _, _, _, _, _, _, _, _, _, rfl⟩ <;> rfl
   have hn : n ≤ 1048576 := by
    rcases h2 with ⟨rfl, _⟩ | ⟨b, ex, cap, sz', off, r, δ, z, rc, _, _, _, _, h8, h9, _⟩
    ·omega
    ·omega
   have hfc : ∀ w', w'.heap = w.heap → (Builtin.firstCells (szOf X.ty e) n ux).run P w' = .ok vs w' := by
    intro w' hw'
    have := hload w' hw'
    rcases h2 with ⟨rfl, ⟨_, rfl⟩ | ⟨_, a, c, rfl⟩⟩ | ⟨b, ex, cap, sz', off, r, δ, z, rc, _, _, _, _, _, _, _, _, _, _, rfl⟩ <;> exact this
   exact apGo_ok X P hX hr hu hat hsz hE.pos hE.cells hs hbs hvs hrow hvl (app_slice X P hX hat' ru hE.size hE.info hby' hE.zero hlen hfc hn) k
theorem apZ_ok (hX : XOk X P) (hp : PoolOk X G) (hr : HR X G S w) {t u' e : TypeId} {ki : IntKind} {ats : Array TypeId} {ty : TypeId} (hu : und X.ty t = .slice e) (hu' : und X.ty u' = .int ki) (hat : ats[0]? = some t) (hat' : ats[1]? = some u') (hz : zOk X.ty e = true) (hby : okBy X.ty e = true) (hsz : szOf X.ty e ≤ 1023)
  {s x : Nat} {u ux : Value} (hs : BRel G s u) (hbs : s < 2 ^ 128) (hx : BRel G x ux) (hbx : x < 2 ^ 128) : DoesV X P G S w (Builtin.append_ ats ty #[u, ux]) 128 (apZ (szOf X.ty e) (zRow X e) s x S) := by
 intro k
 have e1 : apZ (szOf X.ty e) (zRow X e) s x S k = need (nn 2 x) (need (room (va x)) (apGo (szOf X.ty e) s (va x) (rep (zRow X e) (Nat.mul 128 (szOf X.ty e)) (va x)) S k)) := rfl
 rw [e1]
 rcases need_cases (nn 2 x) (need (room (va x)) (apGo (szOf X.ty e) s (va x) (rep (zRow X e) (Nat.mul 128 (szOf X.ty e)) (va x)) S k)) with h1 | ⟨h1, h2⟩
 ·exact .inl h1
 ·rw [h2]
  rcases need_cases (room (va x)) (apGo (szOf X.ty e) s (va x) (rep (zRow X e) (Nat.mul 128 (szOf X.ty e)) (va x)) S k) with h3 | ⟨h3, h4⟩
  ·exact .inl h3
  ·rw [h4]
   obtain ⟨n, rfl, hv, _⟩ := two_code hx hbx (nn_iff.1 h1)
   rw [hv] at h3 ⊢
   have hn := room_le h3
   obtain ⟨ie, vz, hE, hie⟩ := elem_of X P hX hp hz
   obtain ⟨ie', hie', hby'⟩ := okBy_of X hby
   rw [hie] at hie'; cases hie'
   have ru : ∀ w', (underlying u').run P w' = .ok (.int ki) w' := fun w' => by have := hX.run_und (t := u') (by rw [hu']; simp) w'; rw [hu'] at this; exact this
   obtain ⟨r1, r2⟩ := reps_row hE.row (by rw [hE.cells]; exact hE.lt) hE.cells (by have := hE.pos; omega) n
   have ezc : ((Array.range (n * szOf X.ty e)).map (vz.cells[· % vz.cells.size]!)) = if n * szOf X.ty e = 0 then #[] else Builtin.zeroCells vz.cells n := by
    split
    ·rename_i h0; rw [h0, range0]
    ·rw [← hE.cells]; rfl
   rw [rep_eq]
   exact apGo_ok X P hX hr hu hat hsz hE.pos hE.cells hs hbs (newc := ((Array.range (n * szOf X.ty e)).map (vz.cells[· % vz.cells.size]!))) (by simp) r1 r2 (app_zeros X P hX hat' ru hE.size hE.info hby' hE.zero hn ezc) k
theorem cpy_ok (hX : XOk X P) (hr : HR X G S w) {t e : TypeId} {ats : Array TypeId} {ty : TypeId} (hu : und X.ty t = .slice e) (hat : ats[0]? = some t) (hs0 : szOf X.ty e ≠ 0)
  {d s : Nat} {ud us : Value} (hd : BRel G d ud) (hbd : d < 2 ^ 128) (hs : BRel G s us) (hbs : s < 2 ^ 128) : DoesV X P G S w (Builtin.copy_ ats ty #[ud, us]) 128 (cpy (szOf X.ty e) d s S) := by
 intro k
 have hes : (X.ty e).isSome = true := by
  cases hx : X.ty e with
  | none => simp [szOf, hx] at hs0
  | some i => rfl
 have rt := hX.run_und (t := t) (by rw [hu]; simp) w
 rw [hu] at rt
 have rs := hX.run_size hes w
 generalize hsze : szOf X.ty e = sz at *
 have e1 : cpy sz d s S k = lnC d fun m => lnC s fun n => (fun n => cells sz s n S fun v =>
  Bool.rec (motive := fun _ => Res) (wrB (blkOf d) (offS d) (Nat.mul 128 (Nat.mul n sz)) v S (k (mkN 2 n))) (k 2 S) (Nat.beq n 0)) (Bool.rec (motive := fun _ => Nat) n m (Nat.ble m n)) := rfl
 rw [e1]
 rcases lnC_ok hd hbd (fun m => lnC s fun n => (fun n => cells sz s n S fun v =>
  Bool.rec (motive := fun _ => Res) (wrB (blkOf d) (offS d) (Nat.mul 128 (Nat.mul n sz)) v S (k (mkN 2 n))) (k 2 S) (Nat.beq n 0)) (Bool.rec (motive := fun _ => Nat) n m (Nat.ble m n))) with h1 | ⟨m, h1, h2⟩
 ·exact .inl h1
 ·rw [h1]
  rcases lnC_ok hs hbs (fun n => (fun n => cells sz s n S fun v =>
   Bool.rec (motive := fun _ => Res) (wrB (blkOf d) (offS d) (Nat.mul 128 (Nat.mul n sz)) v S (k (mkN 2 n))) (k 2 S) (Nat.beq n 0)) (Bool.rec (motive := fun _ => Nat) n m (Nat.ble m n))) with h3 | ⟨n, h3, h4⟩
  ·exact .inl h3
  ·rw [h3]
   have hmin : Bool.rec (motive := fun _ => Nat) n m (Nat.ble m n) = Nat.min n m := by
    cases hb : Nat.ble m n with
    | true => rw [ble_iff] at hb; show m = min n m; omega
    | false => have := ble_false hb; show n = min n m; omega
   rw [hmin]
   dsimp only
   generalize hq : Nat.min n m = q
   have hqn : q ≤ n := by rw [← hq]; exact Nat.min_le_left _ _
   have hqm : q ≤ m := by rw [← hq]; exact Nat.min_le_right _ _
   rcases cells_ok X P hr (sz := sz) hqn h4 (fun v => Bool.rec (motive := fun _ => Res) (wrB (blkOf d) (offS d) (Nat.mul 128 (Nat.mul q sz)) v S (k (mkN 2 q))) (k 2 S) (Nat.beq q 0)) with h5 | ⟨v, h5, vs, hvs, hrow, hvl, hload⟩
   ·exact .inl h5
   ·rw [h5]
    have hlen : (Builtin.lenOf us).run P w = .ok n w := by
     rcases h4 with ⟨rfl, ⟨_, rfl⟩ | ⟨_, a, c, rfl⟩⟩ | ⟨b, ex, cap, sz', off, r, δ, z, rc, _, _, _, _, _, _, _, _, _, _, rfl⟩ <;> rfl
    have hfc : (Builtin.firstCells sz q us).run P w = .ok vs w := by
     have := hload w rfl
     rcases h4 with ⟨rfl, ⟨_, rfl⟩ | ⟨_, a, c, rfl⟩⟩ | ⟨b, ex, cap, sz', off, r, δ, z, rc, _, _, _, _, _, _, _, _, _, _, rfl⟩ <;> exact this
    have hqb : q ≤ 1048576 := by
     rcases h4 with ⟨rfl, _⟩ | ⟨b, ex, cap, sz', off, r, δ, z, rc, _, _, _, _, h8, h9, _⟩ <;> omega
    have hd2 : ∃ base c, ud = .slice base m c := by
     rcases h2 with ⟨rfl, ⟨_, rfl⟩ | ⟨_, a, c, rfl⟩⟩ | ⟨b, ex, cap, sz', off, r, δ, z, rc, _, _, _, _, _, _, _, _, _, _, rfl⟩ <;> exact ⟨_, _, rfl⟩
    have hmn : Nat.min n m = q := hq
    have hrunG : ∀ (w' : World), (∀ base c, ud = .slice base m c → (match base with | some a => storeCells a vs.toList | none => pure () : Sem Unit).run P w = .ok () w') → (Builtin.copy_ ats ty #[ud, us]).run P w = .ok (.int .i64 q) w' := by
     intro w' hst
     obtain ⟨base, c, rfl⟩ := hd2
     have hst' := hst base c rfl
     unfold Builtin.copy_
     simp only [List.getElem?_toArray, List.getElem?_cons_zero, List.getElem?_cons_succ, hat, Sem.run_bind, rt, Result.andThen_ok, hlen, hmn, rs, hfc, goInt]
     cases base with
     | none => simp only [Sem.run_pure] at hst'; cases hst'; rfl
     | some a => simp only [Sem.run_bind, hst', Result.andThen_ok, Sem.run_pure]
    have hfit : fits .i64 (q : Int) := fits_i (by omega) (by omega)
    cases h0 : Nat.beq q 0 with
    | true =>
     have hq0 := beq_iff.1 h0
     subst hq0
     have hnil : vs = #[] := Array.eq_empty_of_size_eq_zero (by omega)
     refine .inr ⟨2, S, G, w, .int .i64 (0 : Nat), rfl, hrunG w (fun base c _ => by rw [hnil]; cases base <;> rfl), .refl _ _ _, hr, .one _ _ (.int .i64 0 hfit) (by decide), by decide⟩
    | false =>
     have hq0 : q ≠ 0 := fun h => by rw [h] at h0; cases h0
     dsimp only
     rcases h2 with ⟨hm0, _⟩ | ⟨b, ex, cap, sz', off, r, δ, z, rc, rfl, hg, hb, he, hl, hc, hsz', hrc, hxc, hz, rfl⟩
     ·omega
     ·rw [sl_blk hb he, sl_off hb he hl hc hsz']
      have key := wrB_ok X P hr (off := off) (vs := vs) (vb := v) hg hrow (by rw [hvs]; exact hvl) (k (mkN 2 q))
      rw [hvs] at key
      rcases key with h6 | ⟨S', w', h6, h7, h8, h9⟩
      ·exact .inl h6
      ·have hcl : cInt .i64 (q : Int) < 2 ^ 128 := cInt_lt hfit
       refine .inr ⟨mkN 2 q, S', G, w', .int .i64 q, h6, hrunG w' (fun base c hbc => by cases hbc; exact h7), h9, h8, .one _ _ (.int .i64 q hfit) hcl, hcl⟩
theorem clr_ok (hX : XOk X P) (hp : PoolOk X G) (hr : HR X G S w) {t e : TypeId} {ats : Array TypeId} {ty : TypeId} (hu : und X.ty t = .slice e) (hat : ats[0]? = some t) (hz : zOk X.ty e = true) {d : Nat} {ud : Value} (hd : BRel G d ud) (hbd : d < 2 ^ 128) (k : St → Res) :
  clr (szOf X.ty e) (zRow X e) d S k = .fl ∨ ∃ S' w', clr (szOf X.ty e) (zRow X e) d S k = k S' ∧ (Builtin.clear_ ats ty #[ud]).run P w = .ok (.tuple #[]) w' ∧ HR X G S' w' ∧ Ext G S w G S' w' := by
 obtain ⟨ie, vz, hE, hie⟩ := elem_of X P hX hp hz
 have rt := hX.run_und (t := t) (by rw [hu]; simp) w
 rw [hu] at rt
 have e1 : clr (szOf X.ty e) (zRow X e) d S k = lnC d fun n => Bool.rec (motive := fun _ => Res) (wrB (blkOf d) (offS d) (Nat.mul 128 (Nat.mul n (szOf X.ty e))) (rep (zRow X e) (Nat.mul 128 (szOf X.ty e)) n) S k) (k S) (Nat.beq n 0) := rfl
 rw [e1]
 rcases lnC_ok hd hbd (fun n => Bool.rec (motive := fun _ => Res) (wrB (blkOf d) (offS d) (Nat.mul 128 (Nat.mul n (szOf X.ty e))) (rep (zRow X e) (Nat.mul 128 (szOf X.ty e)) n) S k) (k S) (Nat.beq n 0)) with h1 | ⟨n, h1, h2⟩
 ·exact .inl h1
 ·rw [h1]
  cases h0 : Nat.beq n 0 with
  | true =>
   have := beq_iff.1 h0; subst this
   refine .inr ⟨S, w, rfl, ?_, hr, .refl _ _ _⟩
   have : (∃ c, ud = .slice none 0 c) ∨ ∃ a c, ud = .slice (some a) 0 c := by
    rcases h2 with ⟨_, ⟨_, rfl⟩ | ⟨_, a, c, rfl⟩⟩ | ⟨b, ex, cap, sz', off, r, δ, z, rc, _, _, _, _, _, _, _, _, _, _, rfl⟩
    ·exact .inl ⟨_, rfl⟩
    ·exact .inr ⟨_, _, rfl⟩
    ·exact .inr ⟨_, _, rfl⟩
   unfold Builtin.clear_
   rcases this with ⟨c, rfl⟩ | ⟨a, c, rfl⟩ <;> simp [hat, rt]
  | false =>
   have hn0 : n ≠ 0 := fun h => by rw [h] at h0; cases h0
   dsimp only
   rcases h2 with ⟨hm0, _⟩ | ⟨b, ex, cap, sz', off, r, δ, z, rc, rfl, hg, hb, he, hl, hc, hsz', hrc, hxc, hzz, rfl⟩
   ·omega
   ·rw [sl_blk hb he, sl_off hb he hl hc hsz', rep_eq]
    obtain ⟨r1, r2⟩ := reps_row hE.row (by rw [hE.cells]; exact hE.lt) hE.cells (by have := hE.pos; omega) n
    have esz : ((Array.range (n * szOf X.ty e)).map (vz.cells[· % vz.cells.size]!)).size = n * szOf X.ty e := by simp
    have key := wrB_ok X P hr (off := off) (vs := ((Array.range (n * szOf X.ty e)).map (vz.cells[· % vz.cells.size]!))) hg r1 (by rw [esz]; exact r2) k
    rw [esz] at key
    rcases key with h6 | ⟨S', w', h6, h7, h8, h9⟩
    ·exact .inl h6
    ·refine .inr ⟨S', w', h6, ?_, h8, h9⟩
     have ezc : Builtin.zeroCells vz.cells n = ((Array.range (n * szOf X.ty e)).map (vz.cells[· % vz.cells.size]!)) := by rw [← hE.cells]; rfl
     unfold Builtin.clear_
     obtain ⟨n', rfl⟩ : ∃ n', n = n' + 1 := ⟨n - 1, by omega⟩
     simp only [List.getElem?_toArray, List.getElem?_cons_zero, hat, Sem.run_bind, rt, Result.andThen_ok, hE.zero, ezc, h7, Sem.run_pure]
end
end Go.Vm
namespace Go.Vm
open Go
section
variable (X : GX) (P : Program) {w : World} {G : Gh} {S : St}
abbrev KeyR := Entry.KeyRel
theorem KeyR.same {w c : Nat} {v v' : Value} (h : KeyR w c v) (h' : KeyR w c v') : v = v' := by
 rcases h with ⟨h1, n, h2, rfl, h3⟩ | ⟨cs, rfl, h1, h2, h3⟩
 ·rcases h' with ⟨_, m, _, rfl, h4⟩ | ⟨cs, rfl, h4, h5, h6⟩
  ·rw [h3] at h4; rw [cInt_inj h4]
  ·omega
 ·rcases h' with ⟨h4, m, _, rfl, _⟩ | ⟨ds, rfl, h4, h5, h6⟩
  ·omega
  ·congr 1
   apply Array.ext (by omega)
   intro i hi hi'
   obtain ⟨n, _, e1, e2⟩ := h3 i cs[i] (Array.getElem?_eq_getElem hi)
   obtain ⟨m, _, e3, e4⟩ := h6 i ds[i] (Array.getElem?_eq_getElem hi')
   rw [e1, e3, cInt_inj (e2.symm.trans e4)]
theorem sameBits_self {w c : Nat} {v : Value} (h : KeyR w c v) : Instr.sameBits 10000 v v = true := by
 rcases h with ⟨h1, n, h2, rfl, h3⟩ | ⟨cs, rfl, h1, h2, h3⟩
 ·simp [Instr.sameBits]
 ·have : ∀ k, Instr.sameBits (k + 1) (.agg cs) (.agg cs) = (cs.size == cs.size && (cs.toList.zip cs.toList).all fun (x, y) => Instr.sameBits k x y) := fun k => by simp only [Instr.sameBits]
  rw [this 9999]
  simp only [beq_self_eq_true, Bool.true_and]
  rw [List.all_eq_true]
  rintro ⟨x, y⟩ hxy
  obtain ⟨i, hi⟩ := List.getElem?_of_mem hxy
  rw [List.getElem?_zip_eq_some] at hi
  obtain ⟨h4, h5⟩ := hi
  have : x = y := by
   have h4' : cs.toList[i]? = some x := h4
   have h5' : cs.toList[i]? = some y := h5
   rw [h4'] at h5'; exact Option.some.inj h5'
  subst this
  obtain ⟨n, _, rfl, _⟩ := h3 i x (by simpa using h4)
  simp [Instr.sameBits]
theorem run_stays {w c : Nat} {v v' : Value} (h : KeyR w c v) (h' : KeyR w c v') (W : World) : (Instr.keyThatStays v v').run P W = .ok v' W := by
 have := KeyR.same h h'
 subst this
 simp [Instr.keyThatStays, sameBits_self h]
theorem okK_spec : ∀ (n c : Nat) (vs : List Value), (∀ i x, vs[i]? = some x → x.oneCell' = true ∧ (cell c i = 0 ∨ VRel G (cell c i) x)) → vs.length = n → okK n c = true → ∀ i x, vs[i]? = some x → ∃ m, fits .i64 m ∧ x = .int .i64 m ∧ cell c i = cInt .i64 m
 | 0, c, vs, _, hl, _, i, x, hx => by
  have : vs = [] := List.eq_nil_of_length_eq_zero hl
  subst this; simp at hx
 | n + 1, c, [], _, hl, _, _, _, _ => by simp at hl
 | n + 1, c, y :: vs, hr, hl, hk, i, x, hx => by
  have e : okK (n + 1) c = Bool.rec (motive := fun _ => Bool) false (okK n (Nat.shiftRight c 128)) (Nat.beq (Nat.land c 15) 2) := rfl
  rw [e] at hk
  obtain ⟨h1, h2⟩ := and_of' hk
  cases i with
  | zero =>
   simp only [List.getElem?_cons_zero, Option.some.injEq] at hx
   subst hx
   obtain ⟨h3, h4⟩ := hr 0 y rfl
   rw [beq_iff, land_4] at h2
   have h5 : cell c 0 % 16 = 2 := by
    have e2 : cell c 0 = c % 2 ^ 128 := by unfold cell; rw [gw_eq]; simp
    have h2' : c % 16 = 2 := h2
    rw [e2]; omega
   rcases h4 with h4 | h4
   ·rw [h4] at h5; cases h5
   ·obtain ⟨m, h6, h7, h8⟩ := brel_i (.one _ _ h4 (cell_lt _ _)) (cell_lt _ _) h5
    exact ⟨m, fits_i h8.1 h8.2, h6, h7⟩
  | succ i =>
   have := okK_spec n (Nat.shiftRight c 128) vs (fun j z hz => by rw [cell_shift]; exact hr (j + 1) z (by simpa using hz)) (by simpa using hl) h1 i x (by simpa using hx)
   rw [cell_shift] at this; exact this
theorem okKey_cases {kt : TypeId} (h : okKey X kt = true) : (und X.ty kt = .int .i64 ∧ szOf X.ty kt = 1 ∧ isAg X.ty kt = false) ∨
  (∃ fs l, und X.ty kt = .struct fs ∧ kt ∈ X.eqs ∧ flags X.ty kt = some l ∧ (∀ k ∈ l, k = 2) ∧ l.length = szOf X.ty kt ∧ 2 ≤ szOf X.ty kt ∧ isAg X.ty kt = true) := by
 unfold okKey at h
 split at h
 ·rename_i hu
  exact .inl ⟨hu, beq_iff.1 h, by unfold isAg; rw [hu]⟩
 ·rename_i fs hu
  rw [Bool.and_eq_true] at h
  obtain ⟨h1, h2⟩ := h
  split at h2
  ·rename_i l hl
   rw [Bool.and_eq_true, Bool.and_eq_true] at h2
   obtain ⟨⟨h3, h4⟩, h5⟩ := h2
   exact .inr ⟨fs, l, hu, by simpa using h1, hl, fun k hk => beq_iff.1 (List.all_eq_true.1 h3 k hk), beq_iff.1 h4, ble_iff.1 h5, by unfold isAg; rw [hu]⟩
  ·cases h2
 ·cases h
theorem key_ok {ρ : Operand → Nat × Nat} {kt : TypeId} (hk : okKey X kt = true) {x : Operand} {u : Value} (hx : BRel G (ρ x).1 u) (hbx : isAg X.ty kt = false → (ρ x).1 < 2 ^ 128) (ok : okK (szOf X.ty kt) (rawO X ρ kt x) = true) :
  KeyR (128 * szOf X.ty kt) (rawO X ρ kt x) u ∧ rawO X ρ kt x < 2 ^ (128 * szOf X.ty kt) := by
 rcases okKey_cases X hk with ⟨hu, hs, hag⟩ | ⟨fs, l, hu, he, hl, h2, hll, hs, hag⟩
 ·have e : rawO X ρ kt x = (ρ x).1 := by unfold rawO; rw [hag]
  rw [e] at ok ⊢
  rw [hs] at ok ⊢
  have hb := hbx hag
  have e1 : okK 1 (ρ x).1 = Bool.rec (motive := fun _ => Bool) false true (Nat.beq (Nat.land (ρ x).1 15) 2) := rfl
  rw [e1] at ok
  have h1 := (and_of' ok).2
  rw [beq_iff, land_4] at h1
  obtain ⟨n, h3, h4, h5⟩ := brel_i hx hb h1
  exact ⟨.inl ⟨rfl, n, fits_i h5.1 h5.2, h3, h4⟩, hb⟩
 ·have e : rawO X ρ kt x = rk (128 * szOf X.ty kt) (ρ x).1 := by unfold rawO; rw [hag]
  rw [e] at ok ⊢
  have e1 : rk (128 * szOf X.ty kt) (ρ x).1 = Bool.rec (motive := fun _ => Nat) 0 (raw (ρ x).1 (128 * szOf X.ty kt)) (isAgg (ρ x).1 (128 * szOf X.ty kt)) := rfl
  cases ha : isAgg (ρ x).1 (128 * szOf X.ty kt) with
  | false =>
   rw [e1, ha] at ok
   exfalso
   obtain ⟨m, hm⟩ : ∃ m, szOf X.ty kt = m + 1 := ⟨szOf X.ty kt - 1, by omega⟩
   rw [hm] at ok
   have e5 : okK (m + 1) 0 = false := rfl
   have ok' : okK (m + 1) 0 = true := ok
   rw [e5] at ok'; cases ok'
  | true =>
   rw [e1, ha] at ok ⊢
   obtain ⟨bits, cs, hv, hrow, hc, hW, hb⟩ := brel_agg hx ha (by omega)
   have er : raw (ρ x).1 (128 * szOf X.ty kt) = bits := by rw [hc]; exact raw_top _ _ hb
   dsimp only at ok ⊢
   rw [er] at ok ⊢
   refine ⟨.inr ⟨cs, hv, hW, by omega, fun i y hy => ?_⟩, hb⟩
   exact okK_spec (szOf X.ty kt) bits cs.toList (fun i y hy => hrow i y (by simpa using hy)) (by simp; omega) ok i y (by simpa using hy)
theorem eqL_ints {S : St} : ∀ (l : List Nat) (x y : Nat) (xs ys : List Value), (∀ k ∈ l, k = 2) → l.length = xs.length → l.length = ys.length →
  (∀ i v, xs[i]? = some v → ∃ n, fits .i64 n ∧ v = .int .i64 n ∧ cell x i = cInt .i64 n) → (∀ i v, ys[i]? = some v → ∃ n, fits .i64 n ∧ v = .int .i64 n ∧ cell y i = cInt .i64 n) →
  ∃ r : Bool, eqL S l x y = sel r 17 1 ∧ (r = true ↔ ∀ i, i < l.length → cell x i = cell y i)
 | [], x, y, xs, ys, _, _, _, _, _ => ⟨true, rfl, by simp⟩
 | k :: l, x, y, [], ys, _, h, _, _, _ => by simp at h
 | k :: l, x, y, _ :: _, [], _, _, h, _, _ => by simp at h
 | k :: l, x, y, a :: xs, b :: ys, hk, hlx, hly, hx, hy => by
  have hk2 := hk k (List.mem_cons_self ..)
  subst hk2
  obtain ⟨n, hn, rfl, hcx⟩ := hx 0 a rfl
  obtain ⟨m, hm, rfl, hcy⟩ := hy 0 b rfl
  have e : eqL S (2 :: l) x y = (fun c => Bool.rec (motive := fun _ => Nat) c (eqL S l (Nat.shiftRight x 128) (Nat.shiftRight y 128)) (Nat.beq c 17)) (eqC 2 (g x 0) (g y 0) S) := rfl
  have ec : eqC 2 (g x 0) (g y 0) S = sel (n == m) 17 1 := by
   have e2 : eqC 2 (g x 0) (g y 0) S = Bool.rec (motive := fun _ => Nat) 0 (bo (Nat.beq (g x 0) (g y 0))) (is2 2 (g x 0) (g y 0)) := rfl
   rw [e2, g0_eq, g0_eq, hcx, hcy]
   have hi : is2 2 (cInt .i64 n) (cInt .i64 m) = true := by
    have h16 : ∀ n : Int, cInt .i64 n % 16 = 2 := by
     intro n; cases n <;> simp only [cInt, kTag] <;> omega
    unfold is2
    rw [beq_iff, land_4]
    have e4 : (16 : Nat) = 2 ^ 4 := rfl
    have ex : ∀ n : Int, (Nat.xor (cInt .i64 n) 2) % 2 ^ 4 = 0 := by
     intro n
     have : (cInt .i64 n ^^^ 2) % 2 ^ 4 = (cInt .i64 n % 2 ^ 4) ^^^ (2 % 2 ^ 4) := Nat.xor_mod_two_pow
     show (cInt .i64 n ^^^ 2) % 2 ^ 4 = 0
     rw [this, ← e4, h16]; rfl
    show (Nat.xor (cInt .i64 n) 2 ||| Nat.xor (cInt .i64 m) 2) % 2 ^ 4 = 0
    rw [Nat.or_mod_two_pow, ex, ex]; rfl
   rw [hi]
   dsimp only
   rw [eqI_code rfl rfl, bo_eq]
  rw [e, ec]
  obtain ⟨r, h1, h2⟩ := eqL_ints l (Nat.shiftRight x 128) (Nat.shiftRight y 128) xs ys (fun k hk' => hk k (List.mem_cons_of_mem _ hk')) (by simpa using hlx) (by simpa using hly)
   (fun i v hv => by rw [cell_shift]; exact hx (i + 1) v (by simpa using hv)) (fun i v hv => by rw [cell_shift]; exact hy (i + 1) v (by simpa using hv))
  by_cases hnm : n = m
  ·subst hnm
   have eb : (n == n) = true := by simp
   rw [eb]
   refine ⟨r, h1, ?_⟩
   rw [h2]
   constructor
   ·intro h i hi
    cases i with
    | zero => rw [hcx, hcy]
    | succ i =>
     have := h i (by simpa using hi)
     rw [cell_shift, cell_shift] at this; exact this
   ·intro h i hi
    rw [cell_shift, cell_shift]
    exact h (i + 1) (by simpa using hi)
  ·have eb : (n == m) = false := by simpa using hnm
   rw [eb]
   refine ⟨false, rfl, ?_⟩
   constructor
   ·intro h; cases h
   ·intro h
    have := h 0 (by simp)
    rw [hcx, hcy] at this
    exact absurd (cInt_inj this) hnm
theorem key_equal (hX : XOk X P) (hr : HR X G S w) {kt : TypeId} {fs : Array Field} {l : List Nat} (hu : und X.ty kt = .struct fs) (he : kt ∈ X.eqs) (hl : flags X.ty kt = some l) (h2 : ∀ k ∈ l, k = 2) (hll : l.length = szOf X.ty kt) (hs : 2 ≤ szOf X.ty kt)
  {c c' : Nat} {v v' : Value} (h : KeyR (128 * szOf X.ty kt) c v) (h' : KeyR (128 * szOf X.ty kt) c' v') (hc : c < 2 ^ (128 * szOf X.ty kt)) (hc' : c' < 2 ^ (128 * szOf X.ty kt)) : (Op.equal kt v v').run P w = .ok (Nat.beq c c') w := by
 rcases h with ⟨h3, _⟩ | ⟨cs, rfl, h4, h5, h6⟩
 ·omega
 ·rcases h' with ⟨h3, _⟩ | ⟨ds, rfl, h7, h8, h9⟩
  ·omega
  ·have hcs : cs.size = szOf X.ty kt := by omega
   have hds : ds.size = szOf X.ty kt := by omega
   obtain ⟨hs1, hs2, hs3⟩ := hX.eqs kt he
   have hP := hX.und (t := kt) (by rw [hu]; simp)
   rw [hu] at hP
   have hfo : P.fieldsOf kt = fs := by unfold Program.fieldsOf; rw [hP]
   rw [hfo] at hs3
   unfold flags at hl
   rw [hu] at hl
   dsimp only at hl
   split at hl
   ·rename_i hlen
    have r1 : Row G c cs := fun i x hx => by
     obtain ⟨n, hn, rfl, e⟩ := h6 i x hx
     rw [e]; exact ⟨rfl, .inr (.int .i64 n hn)⟩
    have r2 : Row G c' ds := fun i x hx => by
     obtain ⟨n, hn, rfl, e⟩ := h9 i x hx
     rw [e]; exact ⟨rfl, .inr (.int .i64 n hn)⟩
    obtain ⟨r, e1, e2⟩ := eqL_ints (S := S) l c c' cs.toList ds.toList h2 (by simp; omega) (by simp; omega) (fun i v hv => h6 i v (by simpa using hv)) (fun i v hv => h9 i v (by simpa using hv))
    have key := fun d => fields_ok X P hX hr d r1 r2 fs.toList 0 l hl hs3 (by omega) (by omega)
    simp only [Nat.mul_zero, Nat.shiftRight_zero] at key
    have h0 : eqL S l c c' ≠ 0 := by rw [e1]; cases r <;> decide
    have hr' : r = Nat.beq c c' := by
     cases hb : Nat.beq c c' with
     | true =>
      have := beq_iff.1 hb; subst this
      exact e2.2 fun _ _ => rfl
     | false =>
      cases r with
      | false => rfl
      | true =>
       exfalso
       have := nat_ext_cells hc hc' (fun i hi => e2.1 rfl i (by omega))
       rw [this, Nat.beq_refl] at hb; cases hb
    show (Op.equalIn (9998 + 2) kt (.agg cs) (.agg ds)).run P w = _
    rw [run_equalIn_struct w (9998 + 1) kt cs ds (by rw [hfo]; exact hP) hs1, hfo]
    obtain ⟨r', e3, e4⟩ := key 9998 h0
    rw [e4]
    have : r' = r := by
     rw [e1] at e3
     cases r <;> cases r' <;> first | rfl | exact absurd e3 (by decide)
    rw [this, hr']
   ·cases hl
end
end Go.Vm
namespace Go.Vm
open Go
section
variable (X : GX) (P : Program) {w : World} {G : Gh} {S : St}
theorem findM_succ (kw vw key n bits : Nat) : findM kw vw key (n + 1) bits = Bool.rec (motive := fun _ => Nat) (Nat.add 1 (findM kw vw key n (Nat.shiftRight bits (Nat.add kw vw)))) 0 (Nat.beq (raw bits kw) key) := rfl
theorem gw_next (bits i kw vw : Nat) (o w : Nat) : gw (Nat.shiftRight bits (Nat.add kw vw)) (i * (kw + vw) + o) w = gw bits ((i + 1) * (kw + vw) + o) w := by
 apply Nat.eq_of_testBit_eq
 intro j
 rw [testBit_gw, testBit_gw]
 have e : Nat.shiftRight bits (Nat.add kw vw) = bits >>> (kw + vw) := rfl
 rw [e, Nat.testBit_shiftRight]
 congr 2
 rw [Nat.succ_mul]; omega
theorem raw_gw (bits kw : Nat) : raw bits kw = gw bits 0 kw := by rw [gw_eq, Nat.shiftRight_zero]; rfl
def KeysOf (kw vw bits : Nat) (es : List MapEntry) : Prop := ∀ i e, es[i]? = some e → gw bits (i * (kw + vw)) kw < 2 ^ kw ∧ KeyR kw (gw bits (i * (kw + vw)) kw) e.key
theorem KeysOf.tail {kw vw bits : Nat} {e : MapEntry} {es : List MapEntry} (h : KeysOf kw vw bits (e :: es)) : KeysOf kw vw (Nat.shiftRight bits (Nat.add kw vw)) es := by
 intro i x hx
 have := h (i + 1) x (by simpa using hx)
 have e := gw_next bits i kw vw 0 kw
 rw [Nat.add_zero, Nat.add_zero] at e
 rw [e]; exact this
theorem find_at : ∀ (es : List MapEntry) (bits : Nat) (kw vw c : Nat), findM kw vw c es.length bits ≤ es.length ∧ (findM kw vw c es.length bits < es.length → gw bits (findM kw vw c es.length bits * (kw + vw)) kw = c)
 | [], bits, kw, vw, c => ⟨Nat.le_refl _, fun h => absurd h (Nat.lt_irrefl _)⟩
 | e :: es, bits, kw, vw, c => by
  rw [List.length_cons, findM_succ]
  cases hb : Nat.beq (raw bits kw) c with
  | true =>
   refine ⟨Nat.zero_le _, fun _ => ?_⟩
   show gw bits (0 * (kw + vw)) kw = c
   rw [Nat.zero_mul, ← raw_gw]; exact beq_iff.1 hb
  | false =>
   obtain ⟨h1, h2⟩ := find_at es (Nat.shiftRight bits (Nat.add kw vw)) kw vw c
   dsimp only
   refine ⟨by show 1 + _ ≤ _; omega, fun h => ?_⟩
   have h' : findM kw vw c es.length (Nat.shiftRight bits (Nat.add kw vw)) < es.length := by
    have : 1 + findM kw vw c es.length (Nat.shiftRight bits (Nat.add kw vw)) < es.length + 1 := h
    omega
   have h3 := h2 h'
   have e := gw_next bits (findM kw vw c es.length (Nat.shiftRight bits (Nat.add kw vw))) kw vw 0 kw
   rw [Nat.add_zero, Nat.add_zero] at e
   rw [e] at h3
   show gw bits ((1 + findM kw vw c es.length (Nat.shiftRight bits (Nat.add kw vw))) * (kw + vw)) kw = c
   rw [Nat.add_comm 1]; exact h3
theorem get_next {α : Type} (a : α) (l : List α) (i : Nat) : (a :: l)[Nat.add 1 i]? = l[i]? := by
 show (a :: l)[1 + i]? = _
 rw [Nat.add_comm]; rfl
theorem findNow_ok {kw vw c : Nat} {u : Value} (hw : kw = 128) (hkey : KeyR kw c u) : ∀ (es : List MapEntry) (bits i0 : Nat), KeysOf kw vw bits es → Instr.findNow (.int .i64) u es i0 = some ((es[findM kw vw c es.length bits]?).map fun e => (i0 + findM kw vw c es.length bits, e.val))
 | [], bits, i0, _ => rfl
 | e :: es, bits, i0, hk => by
  rw [List.length_cons, findM_succ]
  have h0 := (hk 0 e rfl).2
  rw [Nat.zero_mul, ← raw_gw] at h0
  obtain ⟨n, hn, rfl, hc⟩ : ∃ n, fits .i64 n ∧ u = .int .i64 n ∧ c = cInt .i64 n := by
   rcases hkey with ⟨_, n, h1, h2, h3⟩ | ⟨cs, _, h1, h2, _⟩
   ·exact ⟨n, h1, h2, h3⟩
   ·omega
  obtain ⟨m, hm, hek, hm2⟩ : ∃ m, fits .i64 m ∧ e.key = .int .i64 m ∧ raw bits kw = cInt .i64 m := by
   rcases h0 with ⟨_, n, h1, h2, h3⟩ | ⟨cs, _, h1, h2, _⟩
   ·exact ⟨n, h1, h2, h3⟩
   ·omega
  have hs : Instr.sameNow (.int .i64) (.int .i64 n) e.key = some (n == m) := by rw [hek]; simp [Instr.sameNow]
  have hb : Nat.beq (raw bits kw) c = (n == m) := by
   rw [hm2, hc, eqI_code rfl rfl]
   by_cases h : n = m
   ·subst h; rfl
   ·have h' : m ≠ n := fun e => h e.symm
    have e1 : (m == n) = false := by simpa using h'
    have e2 : (n == m) = false := by simpa using h
    rw [e1, e2]
  unfold Instr.findNow
  rw [hs, hb]
  cases hnm : (n == m) with
  | true => rfl
  | false =>
   dsimp only
   rw [findNow_ok hw (.inl ⟨hw, n, hn, rfl, hc⟩) es (Nat.shiftRight bits (Nat.add kw vw)) (i0 + 1) hk.tail]
   rw [get_next]
   congr 2
   funext x
   congr 1
   show i0 + 1 + _ = i0 + (1 + _)
   omega
theorem findAsking_ok {kt : TypeId} {kw vw c : Nat} {u : Value} (heq : ∀ c' v', c' < 2 ^ kw → KeyR kw c' v' → (Op.equal kt u v').run P w = .ok (Nat.beq c' c) w) : ∀ (es : List MapEntry) (bits i0 : Nat), KeysOf kw vw bits es →
  (Instr.findAsking kt u es i0).run P w = .ok ((es[findM kw vw c es.length bits]?).map fun e => (i0 + findM kw vw c es.length bits, e.val)) w
 | [], bits, i0, _ => rfl
 | e :: es, bits, i0, hk => by
  rw [List.length_cons, findM_succ]
  have h0 := hk 0 e rfl
  rw [Nat.zero_mul, ← raw_gw] at h0
  have h1 := heq _ e.key h0.1 h0.2
  unfold Instr.findAsking
  simp only [Sem.run_bind, h1, Result.andThen_ok]
  cases hb : Nat.beq (raw bits kw) c with
  | true => rfl
  | false =>
   simp only [Bool.false_eq_true, if_false]
   rw [findAsking_ok heq es (Nat.shiftRight bits (Nat.add kw vw)) (i0 + 1) hk.tail, get_next]
   congr 2
   funext x
   congr 1
   show i0 + 1 + _ = i0 + (1 + _)
   omega
theorem find_ok (hX : XOk X P) (hr : HR X G S w) {kt : TypeId} (hk : okKey X kt = true) {vw c bits : Nat} {u : Value} {es : List MapEntry} (hkey : KeyR (128 * szOf X.ty kt) c u) (hc : c < 2 ^ (128 * szOf X.ty kt)) (hes : KeysOf (128 * szOf X.ty kt) vw bits es) :
  (Instr.findKey kt u es).run P w = .ok ((es[findM (128 * szOf X.ty kt) vw c es.length bits]?).map fun e => (findM (128 * szOf X.ty kt) vw c es.length bits, e.val)) w := by
 rcases okKey_cases X hk with ⟨hu, hs, hag⟩ | ⟨fs, l, hu, he, hl, h2, hll, hs, hag⟩
 ·have ru := hX.run_und (t := kt) (by rw [hu]; simp) w
  rw [hu] at ru
  have := findNow_ok (vw := vw) (by rw [hs]) hkey es bits 0 hes
  simp only [Nat.zero_add] at this
  simp only [Instr.findKey, Sem.run_bind, ru, Result.andThen_ok, this, Sem.run_pure]
 ·have ru := hX.run_und (t := kt) (by rw [hu]; simp) w
  rw [hu] at ru
  have key := findAsking_ok P (w := w) (kt := kt) (vw := vw) (u := u) (c := c) (kw := 128 * szOf X.ty kt) (fun c' v' hc' hk' => by
   rw [key_equal X P hX hr hu he hl h2 hll hs hkey hk' hc hc']
   congr 1
   by_cases e : c = c'
   ·rw [e]
   ·rw [beq_ne e, beq_ne (Ne.symm e)]) es bits 0 hes
  simp only [Nat.zero_add] at key
  simp only [Instr.findKey, Sem.run_bind, ru, Result.andThen_ok]
  cases es with
  | nil => rfl
  | cons e es =>
   have hn : Instr.findNow (.struct fs) u (e :: es) 0 = none := by
    unfold Instr.findNow
    have : Instr.sameNow (.struct fs) u e.key = none := by cases u <;> cases e.key <;> rfl
    rw [this]
   rw [hn]
   exact key
theorem chk_fields (hX : XOk X P) (b : Bool) (d : Nat) {xs : Array Value} : ∀ (fs : List Field) (off : Nat) (l : List Nat), flagsL X.ty off fs = some l → (∀ k ∈ l, k = 2) → off + fs.length ≤ xs.size →
  (forIn (m := Sem) fs PUnit.unit fun f (r : PUnit) => (if f.name ≠ "_" then do
    let a ← part f.type xs f.offset
    Instr.checkKey b (d + 1) f.type a
    pure (ForInStep.yield PUnit.unit)
   else pure (ForInStep.yield PUnit.unit))).run P w = .ok PUnit.unit w
 | [], _, _, _, _, _ => rfl
 | f :: fs, off, l, hf, h2, hsx => by
  unfold flagsL at hf
  cases hff : flagOf X.ty f.type with
  | none => rw [hff] at hf; cases hf
  | some k =>
   cases hfl : flagsL X.ty (off + 1) fs with
   | none => rw [hff, hfl] at hf; cases hf
   | some l' =>
    rw [hff, hfl] at hf
    dsimp only at hf
    split at hf
    ·rename_i hof
     cases hf
     obtain ⟨ho1, ho2⟩ := hof
     have hlt : off < xs.size := by simp at hsx; omega
     have hk2 := h2 k (List.mem_cons_self ..)
     subst hk2
     obtain ⟨kk, hu, hkk⟩ : ∃ kk, und X.ty f.type = .int kk ∧ kTag kk ≠ 0 := by
      rcases flag_und X hff with ⟨kk, hu, h3, _⟩ | ⟨hu, h3⟩ | ⟨hu, h3⟩
      ·exact ⟨kk, hu, h3⟩
      ·cases h3
      ·cases h3
     have hag : isAg X.ty f.type = false := by unfold isAg; rw [hu]
     have hinv : und X.ty f.type ≠ .invalid := by rw [hu]; simp
     have hpart : (part f.type xs f.offset).run P w = .ok xs[off] w := by
      unfold part
      simp only [Sem.run_bind, run_isAgg X P hX hinv w, Result.andThen_ok, hag, Bool.false_eq_true, if_false, ho1, Array.getElem?_eq_getElem hlt, Sem.run_pure]
     have ru := hX.run_und hinv w
     rw [hu] at ru
     have hchk : (Instr.checkKey b (d + 1) f.type xs[off]).run P w = .ok () w := by
      unfold Instr.checkKey
      simp only [Sem.run_bind, ru, Result.andThen_ok]
      rfl
     have ih := chk_fields hX b d (xs := xs) fs (off + 1) l' hfl (fun k hk => h2 k (List.mem_cons_of_mem _ hk)) (by simp at hsx; omega)
     rw [List.forIn_cons]
     simp only [Sem.run_bind]
     have hstep : (if f.name ≠ "_" then do
        let a ← part f.type xs f.offset
        Instr.checkKey b (d + 1) f.type a
        pure (ForInStep.yield PUnit.unit)
       else pure (ForInStep.yield PUnit.unit) : Sem (ForInStep PUnit)).run P w = .ok (.yield PUnit.unit) w := by
      by_cases hn : f.name ≠ "_"
      ·simp only [if_pos hn, Sem.run_bind, hpart, Result.andThen_ok, hchk, Sem.run_pure]
      ·simp only [if_neg hn, Sem.run_pure]
     rw [hstep]
     exact ih
    ·cases hf
theorem chk_ok' (hX : XOk X P) {kt : TypeId} (hk : okKey X kt = true) {c : Nat} {u : Value} (hkey : KeyR (128 * szOf X.ty kt) c u) (b : Bool) : (Instr.checkKey b 10000 kt u).run P w = .ok () w := by
 rcases okKey_cases X hk with ⟨hu, hs, hag⟩ | ⟨fs, l, hu, he, hl, h2, hll, hs, hag⟩
 ·have ru := hX.run_und (t := kt) (by rw [hu]; simp) w
  rw [hu] at ru
  rcases hkey with ⟨_, n, _, rfl, _⟩ | ⟨cs, _, h1, h3, _⟩
  ·show (Instr.checkKey b (9999 + 1) kt (.int .i64 n)).run P w = _
   unfold Instr.checkKey
   simp only [Sem.run_bind, ru, Result.andThen_ok]
   rfl
  ·omega
 ·have ru := hX.run_und (t := kt) (by rw [hu]; simp) w
  rw [hu] at ru
  rcases hkey with ⟨h1, _⟩ | ⟨cs, rfl, h1, h3, _⟩
  ·omega
  ·unfold flags at hl
   rw [hu] at hl
   dsimp only at hl
   split at hl
   ·rename_i hlen
    have key := chk_fields X P (w := w) hX b 9998 (xs := cs) fs.toList 0 l hl h2 (by omega)
    show (Instr.checkKey b (9999 + 1) kt (.agg cs)).run P w = _
    rw [Instr.checkKey]
    simp only [Sem.run_bind, ru, Result.andThen_ok]
    rw [← Array.forIn_toList]
    exact congrArg (fun r => Result.andThen r _) key
   ·cases hl
end
end Go.Vm
namespace Go.Vm
open Go
section
variable (X : GX) (P : Program) {w : World} {G : Gh} {S : St}
theorem atM_ok {R : Type} (hr : HR X G S w) {nk kw vw x key : Nat} {u : Value} (hx : BRel G x u) (hbx : x < 2 ^ 128) (z : R) (f : Nat → Nat → R) :
  atM nk kw vw x key S z f = z ∨ ∃ b r es bits, blkOf x = b ∧ u = .map (some r) ∧ G b = some (.obj r) ∧ S.blk b = .mk 4 es.size kw vw bits ∧ w.heap[r]? = some (.map es es.size) ∧ (∀ i e, es[i]? = some e → Entry G kw vw bits i e) ∧ okK nk key = true ∧ atM nk kw vw x key S z f = f es.size bits := by
 have e : atM nk kw vw x key S z f = Bool.rec (motive := fun _ => R) z (get S (blkOf x) fun kd n kw' vw' bits => Bool.rec (motive := fun _ => R) z (f n bits) (Bool.rec (motive := fun _ => Bool) false (Bool.rec (motive := fun _ => Bool) false (Nat.beq vw vw') (Nat.beq kw kw')) (Nat.beq kd 4))) (Bool.rec (motive := fun _ => Bool) false (okK nk key) (Nat.beq (tg x) 26)) := rfl
 rw [e]
 cases hc : (Bool.rec (motive := fun _ => Bool) false (okK nk key) (Nat.beq (tg x) 26)) with
 | false => exact .inl rfl
 | true =>
  obtain ⟨h1, h2⟩ := and_of' hc
  rw [beq_iff, tg_eq] at h2
  obtain ⟨b, r, rfl, hg, hb, rfl⟩ := brel_code hx hbx (by omega) 26 h2
  have hblk : blkOf (26 + 32 * b) = b := by rw [blkOf_eq]; omega
  rw [hblk]
  obtain ⟨o, ho1, ho2⟩ := hr.obj b r hg
  obtain ⟨kd, n, kw', vw', bits, h3, h4⟩ := get_cases S b (fun kd n kw' vw' bits => Bool.rec (motive := fun _ => R) z (f n bits) (Bool.rec (motive := fun _ => Bool) false (Bool.rec (motive := fun _ => Bool) false (Nat.beq vw vw') (Nat.beq kw kw')) (Nat.beq kd 4)))
  dsimp only
  rw [h4]
  cases hc2 : (Bool.rec (motive := fun _ => Bool) false (Bool.rec (motive := fun _ => Bool) false (Nat.beq vw vw') (Nat.beq kw kw')) (Nat.beq kd 4)) with
  | false => exact .inl rfl
  | true =>
   obtain ⟨h5, h6⟩ := and_of' hc2
   obtain ⟨h7, h8⟩ := and_of' h5
   have := beq_iff.1 h6; subst this
   have := beq_iff.1 h7; subst this
   have := beq_iff.1 h8; subst this
   rw [h3] at ho2
   rcases ho2 with ⟨_, es, rfl, hes, hent⟩ | ⟨h, _⟩
   ·subst hes
    exact .inr ⟨b, r, es, bits, rfl, rfl, hg, h3, ho1, hent, h1, rfl⟩
   ·cases h
theorem entries_keys {kw vw bits : Nat} {es : Array MapEntry} (h : ∀ i e, es[i]? = some e → Entry G kw vw bits i e) : KeysOf kw vw bits es.toList := by
 intro i e he
 obtain ⟨_, ⟨kc, h1, h2, h3⟩, _⟩ := h i e (by simpa using he)
 rw [h2]; exact ⟨h1, h3⟩
theorem zero_brel (hp : PoolOk X G) {t : TypeId} {i : TypeInfo} {v : Value} (ht : X.ty t = some i) (hz : i.zero = some v) (hok : zOk X.ty t = true) (h0 : zRow X t ≠ 0) : BRel G (Nat.add (zRow X t) (Nat.mul (ag X t) (top (128 * szOf X.ty t)))) v ∧
  Nat.add (zRow X t) (Nat.mul (ag X t) (top (128 * szOf X.ty t))) < 2 ^ (sel (isAg X.ty t) (128 * szOf X.ty t + 1) 128) := by
 obtain ⟨i', v', ht', hzv, z1, z2, z3, z4, z5, z6, z7, z8⟩ := zOk_of X hok
 rw [ht] at ht'; cases ht'
 rw [hz] at hzv; cases hzv
 obtain ⟨hzr, hzl⟩ := zRow_ok X hp z1 z2 z4
 cases hag : isAg X.ty t with
 | true =>
  obtain ⟨cs, rfl⟩ := z7 hag
  have hcs : cs.size = szOf X.ty t := by rw [z5]; exact z1
  have e : Nat.add (zRow X t) (Nat.mul (ag X t) (top (128 * szOf X.ty t))) = zRow X t + 2 ^ (128 * szOf X.ty t) := by
   have : ag X t = 1 := by unfold ag; rw [hag]; rfl
   rw [this]
   show zRow X t + 1 * 2 ^ (128 * szOf X.ty t) = _
   omega
  rw [e, sel_true]
  have hl : zRow X t < 2 ^ (128 * szOf X.ty t) := by rw [z5]; exact hzl
  refine ⟨?_, by rw [Nat.pow_succ]; omega⟩
  have := BRel.agg (G := G) (zRow X t) cs hzr (by omega) (by rw [hcs]; exact hl)
  rw [hcs] at this; exact this
 | false =>
  have hc1 := z8 hag
  have hs1 : szOf X.ty t = 1 := by rw [z5, ← z1, hc1]; rfl
  have e : Nat.add (zRow X t) (Nat.mul (ag X t) (top (128 * szOf X.ty t))) = zRow X t := by
   have : ag X t = 0 := by unfold ag; rw [hag]; rfl
   rw [this]
   show zRow X t + 0 * _ = _
   omega
  rw [e, sel_false]
  have hl : zRow X t < 2 ^ 128 := by rw [z5] at hs1; rw [hs1] at hzl; exact hzl
  have hcell := hzr 0 v (by rw [hc1]; rfl)
  have : cell (zRow X t) 0 = zRow X t := gw_all _ _ hl
  rw [this] at hcell
  exact ⟨cell_brel hcell hl, hl⟩
theorem raw_brel {vt : TypeId} {vc : Nat} {v : Value} (hag : isAg X.ty vt = true → 2 ≤ szOf X.ty vt) (hag' : isAg X.ty vt = false → szOf X.ty vt = 1) (h : Entry.RawRel G (128 * szOf X.ty vt) vc v) (hl : vc < 2 ^ (128 * szOf X.ty vt)) :
  BRel G (Nat.add vc (Nat.mul (ag X vt) (top (128 * szOf X.ty vt)))) v ∧ Nat.add vc (Nat.mul (ag X vt) (top (128 * szOf X.ty vt))) < 2 ^ (sel (isAg X.ty vt) (128 * szOf X.ty vt + 1) 128) := by
 cases ha : isAg X.ty vt with
 | true =>
  have h2 := hag ha
  have e : Nat.add vc (Nat.mul (ag X vt) (top (128 * szOf X.ty vt))) = vc + 2 ^ (128 * szOf X.ty vt) := by
   have : ag X vt = 1 := by unfold ag; rw [ha]; rfl
   rw [this]
   show vc + 1 * 2 ^ (128 * szOf X.ty vt) = _
   omega
  rw [e, sel_true]
  rcases h with ⟨h3, _⟩ | ⟨cs, rfl, h3, h4, h5⟩
  ·omega
  ·refine ⟨?_, by rw [Nat.pow_succ]; omega⟩
   have := BRel.agg (G := G) vc cs h5 (by omega) (by rw [← h3]; exact hl)
   rw [← h3] at this; exact this
 | false =>
  have h1 := hag' ha
  have e : Nat.add vc (Nat.mul (ag X vt) (top (128 * szOf X.ty vt))) = vc := by
   have : ag X vt = 0 := by unfold ag; rw [ha]; rfl
   rw [this]
   show vc + 0 * _ = _
   omega
  rw [e, sel_false]
  rcases h with ⟨_, h3⟩ | ⟨cs, rfl, h3, h4, h5⟩
  ·rw [h1] at hl
   exact ⟨.one _ _ h3 hl, hl⟩
  ·omega
theorem look_ok (hX : XOk X P) (hp : PoolOk X G) (hr : HR X G S w) {t kt vt : TypeId} (hu : und X.ty t = .map kt vt) (hk : okKey X kt = true) (hz : zOk X.ty vt = true) (hag : isAg X.ty vt = true → 2 ≤ szOf X.ty vt) {ρ : Operand → Nat × Nat} {x : Nat} {io : Operand} {um ui : Value}
  (hx : BRel G x um) (hbx : x < 2 ^ 128) (hi : BRel G (ρ io).1 ui) (hbi : isAg X.ty kt = false → (ρ io).1 < 2 ^ 128) (h0 : lkV (szOf X.ty kt) (128 * szOf X.ty kt) (128 * szOf X.ty vt) (ag X vt) x (rawO X ρ kt io) (zRow X vt) S ≠ 0) :
  ∃ v ok, (∀ c, (Instr.lookup t um ui c).run P w = .ok (if c then .tuple #[v, .bool ok] else v) w) ∧ BRel G (lkV (szOf X.ty kt) (128 * szOf X.ty kt) (128 * szOf X.ty vt) (ag X vt) x (rawO X ρ kt io) (zRow X vt) S) v ∧
   lkV (szOf X.ty kt) (128 * szOf X.ty kt) (128 * szOf X.ty vt) (ag X vt) x (rawO X ρ kt io) (zRow X vt) S < 2 ^ (sel (isAg X.ty vt) (128 * szOf X.ty vt + 1) 128) ∧
   (lkO (szOf X.ty kt) (128 * szOf X.ty kt) (128 * szOf X.ty vt) x (rawO X ρ kt io) S ≠ 0 → lkO (szOf X.ty kt) (128 * szOf X.ty kt) (128 * szOf X.ty vt) x (rawO X ρ kt io) S = sel ok 17 1) := by
 generalize hkey : rawO X ρ kt io = key at *
 obtain ⟨iz, vz, htz, hzv, z1, z2, z3, z4, z5, z6, z7, z8⟩ := zOk_of X hz
 have hag' : isAg X.ty vt = false → szOf X.ty vt = 1 := fun h => by rw [z5, ← z1, z8 h]; rfl
 have ru := hX.run_und (t := t) (by rw [hu]; simp) w
 rw [hu] at ru
 have rz := run_zero X P hX htz hzv w
 have e : lkV (szOf X.ty kt) (128 * szOf X.ty kt) (128 * szOf X.ty vt) (ag X vt) x key (zRow X vt) S = (fun v => Bool.rec (motive := fun _ => Nat) 0 (Nat.add v (Nat.mul (ag X vt) (top (128 * szOf X.ty vt)))) (ltb 0 v))
  (Bool.rec (motive := fun _ => Nat) (atM (szOf X.ty kt) (128 * szOf X.ty kt) (128 * szOf X.ty vt) x key S 0 fun n bits => (fun i => Bool.rec (motive := fun _ => Nat) (gw bits (Nat.add (Nat.mul i (Nat.add (128 * szOf X.ty kt) (128 * szOf X.ty vt))) (128 * szOf X.ty kt)) (128 * szOf X.ty vt)) (zRow X vt) (Nat.beq i n)) (findM (128 * szOf X.ty kt) (128 * szOf X.ty vt) key n bits)) (Bool.rec (motive := fun _ => Nat) 0 (zRow X vt) (okK (szOf X.ty kt) key)) (Nat.beq x 10)) := rfl
 have eo : lkO (szOf X.ty kt) (128 * szOf X.ty kt) (128 * szOf X.ty vt) x key S = Bool.rec (motive := fun _ => Nat) (atM (szOf X.ty kt) (128 * szOf X.ty kt) (128 * szOf X.ty vt) x key S 0 fun n bits => (fun i => nbo (Nat.beq i n)) (findM (128 * szOf X.ty kt) (128 * szOf X.ty vt) key n bits)) (Bool.rec (motive := fun _ => Nat) 0 1 (okK (szOf X.ty kt) key)) (Nat.beq x 10) := rfl
 have fin : ∀ {v : Nat}, (fun v => Bool.rec (motive := fun _ => Nat) 0 (Nat.add v (Nat.mul (ag X vt) (top (128 * szOf X.ty vt)))) (ltb 0 v)) v ≠ 0 → v ≠ 0 ∧ (fun v => Bool.rec (motive := fun _ => Nat) 0 (Nat.add v (Nat.mul (ag X vt) (top (128 * szOf X.ty vt)))) (ltb 0 v)) v = Nat.add v (Nat.mul (ag X vt) (top (128 * szOf X.ty vt))) := by
  intro v h
  obtain ⟨h1, h2⟩ := arm0 rfl h
  exact ⟨(ltb_pos v).1 h1, h2.symm⟩
 rw [e] at h0 ⊢
 obtain ⟨hv0, hv1⟩ := fin h0
 rw [hv1]
 cases h10 : Nat.beq x 10 with
 | true =>
  rw [h10] at hv0 hv1
  have := beq_iff.1 h10; subst this
  dsimp only at hv0 ⊢
  obtain ⟨hok, hzz⟩ := arm0 rfl hv0
  rw [← hzz] at hv0 ⊢
  obtain ⟨_, rfl⟩ := brel_code hx hbx (by decide) 10 rfl
  obtain ⟨hkr, hkl⟩ := key_ok X (ρ := ρ) hk hi hbi (by rw [hkey]; exact hok)
  rw [hkey] at hkr hkl
  obtain ⟨zb1, zb2⟩ := zero_brel X hp htz hzv hz hv0
  refine ⟨vz, false, fun c => ?_, zb1, zb2, fun h => ?_⟩
  ·have rc := chk_ok' X P (w := w) hX hk hkr true
   have rf := find_ok X P hX hr hk (vw := 0) (bits := 0) (es := []) hkr hkl (fun i e h => by simp at h)
   simp only [Instr.lookup, Sem.run_bind, ru, Result.andThen_ok, Sem.run_pure, Array.isEmpty_empty, rc]
   simp only [List.getElem?_nil, Option.map_none] at rf
   simp only [rf, Result.andThen_ok, rz, Sem.run_bind, Sem.run_pure]
  ·rw [eo, h10] at h ⊢
   dsimp only at h ⊢
   rw [hok]
 | false =>
  rw [h10] at hv0 hv1
  dsimp only at hv0 ⊢
  rcases atM_ok X hr (nk := szOf X.ty kt) (kw := 128 * szOf X.ty kt) (vw := 128 * szOf X.ty vt) (key := key) hx hbx 0 (fun n bits => (fun i => Bool.rec (motive := fun _ => Nat) (gw bits (Nat.add (Nat.mul i (Nat.add (128 * szOf X.ty kt) (128 * szOf X.ty vt))) (128 * szOf X.ty kt)) (128 * szOf X.ty vt)) (zRow X vt) (Nat.beq i n)) (findM (128 * szOf X.ty kt) (128 * szOf X.ty vt) key n bits)) with h1 | ⟨b, r, es, bits, hb, rfl, hg, hB, hh, hent, hok, h1⟩
  ·exact absurd h1 hv0
  ·obtain ⟨hkr, hkl⟩ := key_ok X (ρ := ρ) hk hi hbi (by rw [hkey]; exact hok)
   rw [hkey] at hkr hkl
   have hgo : (getObj r).run P w = .ok (.map es es.size) w := by simp [getObj, Sem.run, hh]
   have rc := chk_ok' X P (w := w) hX hk hkr es.isEmpty
   have rf := find_ok X P hX hr hk (vw := 128 * szOf X.ty vt) hkr hkl (entries_keys hent)
   rw [Array.length_toList] at rf
   obtain ⟨f1, f2⟩ := find_at es.toList bits (128 * szOf X.ty kt) (128 * szOf X.ty vt) key
   rw [Array.length_toList] at f1 f2
   rw [h1] at hv0 ⊢
   have ho : lkO (szOf X.ty kt) (128 * szOf X.ty kt) (128 * szOf X.ty vt) x key S ≠ 0 → lkO (szOf X.ty kt) (128 * szOf X.ty kt) (128 * szOf X.ty vt) x key S = nbo (Nat.beq (findM (128 * szOf X.ty kt) (128 * szOf X.ty vt) key es.size bits) es.size) := by
    intro h
    rw [eo, h10] at h ⊢
    dsimp only at h ⊢
    rcases atM_ok X hr (nk := szOf X.ty kt) (kw := 128 * szOf X.ty kt) (vw := 128 * szOf X.ty vt) (key := key) hx hbx 0 (fun n bits => (fun i => nbo (Nat.beq i n)) (findM (128 * szOf X.ty kt) (128 * szOf X.ty vt) key n bits)) with h2 | ⟨b', r', es', bits', hb', hur, hg', hB', hh', _, _, h2⟩
    ·exact absurd h2 h
    ·cases hur
     rw [hh] at hh'; cases hh'
     rw [← hb', hb, hB] at hB'; cases hB'
     exact h2
   generalize hidx : findM (128 * szOf X.ty kt) (128 * szOf X.ty vt) key es.size bits = idx at *
   dsimp only at hv0 ⊢
   cases hbi2 : Nat.beq idx es.size with
   | true =>
    have hie := beq_iff.1 hbi2
    rw [hbi2] at hv0 ho
    dsimp only at hv0 ⊢
    obtain ⟨zb1, zb2⟩ := zero_brel X hp htz hzv hz hv0
    refine ⟨vz, false, fun c => ?_, zb1, zb2, fun h => by rw [ho h]; rfl⟩
    have hnone : es.toList[idx]? = none := by rw [hie]; simp
    rw [hnone] at rf
    simp only [Option.map_none] at rf
    simp only [Instr.lookup, Sem.run_bind, ru, Result.andThen_ok, hgo, Sem.run_pure, rc, rf, rz]
   | false =>
    have hlt : idx < es.size := by
     have : idx ≠ es.size := fun h => by rw [h, Nat.beq_refl] at hbi2; cases hbi2
     omega
    rw [hbi2] at hv0 ho
    dsimp only at hv0 ⊢
    obtain ⟨_, _, vc, v1, v2⟩ := hent idx es[idx] (Array.getElem?_eq_getElem hlt)
    have v1' : gw bits (Nat.add (Nat.mul idx (Nat.add (128 * szOf X.ty kt) (128 * szOf X.ty vt))) (128 * szOf X.ty kt)) (128 * szOf X.ty vt) = vc := v1
    rw [v1'] at hv0 ⊢
    have hvl : vc < 2 ^ (128 * szOf X.ty vt) := by rw [← v1]; exact gw_lt _ _ _
    obtain ⟨rb1, rb2⟩ := raw_brel X hag hag' v2 hvl
    refine ⟨es[idx].val, true, fun c => ?_, rb1, rb2, fun h => by rw [ho h]; rfl⟩
    have hsome : es.toList[idx]? = some es[idx] := by simp [hlt]
    rw [hsome] at rf
    simp only [Option.map_some] at rf
    simp only [Instr.lookup, Sem.run_bind, ru, Result.andThen_ok, hgo, Sem.run_pure, rc, rf]
end
end Go.Vm
