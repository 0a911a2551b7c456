/- The texts PlainB PlainC Recover CodeE CodeF CodeG in one. -/
import Derived.Test.YtpljcnjkdjblmaaKA
import Derived.Test.YtpljcnjkdjblmaaKC
import Derived.Recover
import Derived.Orders
import Derived.Test.YtpljcnjkdjblmaaKB
import Derived.Deep.LoopGhost
import Derived.Laws.Pointers
import Derived.Deep.DeepCutAuto
/- Reading numbers, texts, lists, in plain terms: of no program. -/
namespace Go.Esc
open Go.RowKit

/-- Base-128 digits, read from the front: an error's number, or the number; what is left. -/
def scan : Nat → Bool → List UInt8 → (Nat ⊕ Nat) × List UInt8
  | _, _, [] => (.inl 8, [])
  | u, first, c :: r =>
    if (first = true ∧ c.toNat = 128) ∨ 144115188075855871 < u then (.inl 10, r)
    else if c.toNat < 128 then (.inr (u * 128 + c.toNat % 128), r)
    else scan (u * 128 + c.toNat % 128) false r

/-- The number of a number without a sign. -/
def sgn (u : Nat) : Int := if u % 2 = 1 then -((u / 2 : Nat) : Int) - 1 else ((u / 2 : Nat) : Int)

theorem scan_lt : ∀ (l : List UInt8) (u : Nat) (f : Bool), u < 18446744073709551616 → ∀ v r, scan u f l = (.inr v, r) → v < 18446744073709551616
  | [], u, f, _, v, r, h => by simp [scan] at h
  | c :: l, u, f, hu, v, r, h => by
    unfold scan at h
    split at h
    · simp at h
    · rename_i h1
      split at h
      · simp only [Prod.mk.injEq, Sum.inr.injEq] at h
        omega
      · exact scan_lt l _ false (by omega) v r h

theorem scan_len : ∀ (l : List UInt8) (u : Nat) (f : Bool), (scan u f l).2.length ≤ l.length
  | [], u, f => by simp [scan]
  | c :: l, u, f => by
    unfold scan
    split
    · simp
    · split
      · simp
      · have := scan_len l (u * 128 + c.toNat % 128) false
        simp; omega

theorem sgn_ok (u : Nat) (h : u < 18446744073709551616) : I64ok (sgn u) := by
  unfold sgn I64ok
  split <;> omega

theorem sgn_odd (v : Nat) (x : Int) (hx : x = (v : Int)) (h : (x % 2 == 1) = true) : sgn v = -(x / 2) - 1 := by
  rw [beq_iff_eq] at h
  subst hx
  unfold sgn
  rw [if_pos (by omega)]
  omega
theorem sgn_even (v : Nat) (x : Int) (hx : x = (v : Int)) (h : (x % 2 == 1) = false) : sgn v = x / 2 := by
  rw [beq_eq_false_iff_ne] at h
  subst hx
  unfold sgn
  rw [if_neg (by omega)]
  omega
theorem sgn_zig (n : Int) : sgn (zig n) = n := by
  unfold sgn zig
  split <;> split <;> omega
theorem zig_sgn (u : Nat) : zig (sgn u) = u := by
  unfold sgn zig
  split <;> split <;> omega
/-- A reader's state: what is left; the error's number (0: none). -/
structure RS where
  l : List UInt8
  e : Int

/-- What a question answers, and the state behind it. -/
def rInt (s : RS) : Int × RS :=
  if s.e ≠ 0 then (0, s) else
  match scan 0 true s.l with
  | (.inr u, r) => (sgn u, ⟨r, 0⟩)
  | (.inl k, r) => (0, ⟨r, k⟩)

/-- A length: an error, or it; what is left. -/
def rLen (l : List UInt8) : (Nat ⊕ Nat) × List UInt8 :=
  match scan 0 true l with
  | (.inl k, r) => (.inl k, r)
  | (.inr u, r) => if 0 ≤ sgn u ∧ sgn u ≤ 65535 then (.inr (sgn u).toNat, r) else (.inl 4, r)

def rText (s : RS) : List UInt8 × RS :=
  if s.e ≠ 0 then ([], s) else
  match rLen s.l with
  | (.inl k, r) => ([], ⟨r, k⟩)
  | (.inr n, r) => if n ≤ r.length then (r.take n, ⟨r.drop n, 0⟩) else ([], ⟨r, 8⟩)

/-- n numbers, one behind the other. -/
def rNums : Nat → List Int → List UInt8 → (Nat ⊕ List Int) × List UInt8
  | 0, acc, l => (.inr acc, l)
  | n + 1, acc, l => match scan 0 true l with
    | (.inl k, r) => (.inl k, r)
    | (.inr u, r) => rNums n (acc ++ [sgn u]) r

def rInts (s : RS) : List Int × RS :=
  if s.e ≠ 0 then ([], s) else
  match rLen s.l with
  | (.inl k, r) => ([], ⟨r, k⟩)
  | (.inr n, r) => match rNums n [] r with
    | (.inl k, r') => ([], ⟨r', k⟩)
    | (.inr ns, r') => (ns, ⟨r', 0⟩)

def rEnd (s : RS) : Int := if s.e = 0 ∧ 0 < s.l.length then 9 else s.e
def rFail (s : RS) (k : Int) : RS := if s.e = 0 then ⟨s.l, k⟩ else s

theorem rInt_ok {s : RS} (h0 : s.e = 0) {u : Nat} {r : List UInt8} (h : scan 0 true s.l = (.inr u, r)) : rInt s = (sgn u, ⟨r, 0⟩) := by simp [rInt, h0, h]
theorem rInt_err {s : RS} (h0 : s.e = 0) {k : Nat} {r : List UInt8} (h : scan 0 true s.l = (.inl k, r)) : rInt s = (0, ⟨r, k⟩) := by simp [rInt, h0, h]
theorem rInt_skip {s : RS} (h0 : s.e ≠ 0) : rInt s = (0, s) := by simp [rInt, h0]
theorem rLen_err_of {l : List UInt8} {k : Nat} {r : List UInt8} (h : scan 0 true l = (.inl k, r)) : rLen l = (.inl k, r) := by simp [rLen, h]
theorem rLen_ok_of {l : List UInt8} {u : Nat} {r : List UInt8} (h : scan 0 true l = (.inr u, r)) (h1 : 0 ≤ sgn u) (h2 : sgn u ≤ 65535) : rLen l = (.inr (sgn u).toNat, r) := by simp [rLen, h, h1, h2]
theorem rLen_many_of {l : List UInt8} {u : Nat} {r : List UInt8} (h : scan 0 true l = (.inr u, r)) (h1 : ¬ (0 ≤ sgn u ∧ sgn u ≤ 65535)) : rLen l = (.inl 4, r) := by unfold rLen; rw [h]; simp only; rw [if_neg h1]
theorem rText_skip {s : RS} (h0 : s.e ≠ 0) : rText s = ([], s) := by simp [rText, h0]
theorem rText_err {s : RS} (h0 : s.e = 0) {k : Nat} {r : List UInt8} (h : rLen s.l = (.inl k, r)) : rText s = ([], ⟨r, k⟩) := by simp [rText, h0, h]
theorem rText_ok {s : RS} (h0 : s.e = 0) {n : Nat} {r : List UInt8} (h : rLen s.l = (.inr n, r)) (hn : n ≤ r.length) : rText s = (r.take n, ⟨r.drop n, 0⟩) := by simp [rText, h0, h, hn]
theorem rText_cut {s : RS} (h0 : s.e = 0) {n : Nat} {r : List UInt8} (h : rLen s.l = (.inr n, r)) (hn : r.length < n) : rText s = ([], ⟨r, 8⟩) := by simp [rText, h0, h]; omega
theorem rInts_skip {s : RS} (h0 : s.e ≠ 0) : rInts s = ([], s) := by simp [rInts, h0]
theorem rInts_err {s : RS} (h0 : s.e = 0) {k : Nat} {r : List UInt8} (h : rLen s.l = (.inl k, r)) : rInts s = ([], ⟨r, k⟩) := by simp [rInts, h0, h]
theorem rInts_bad {s : RS} (h0 : s.e = 0) {n k : Nat} {r r' : List UInt8} (h : rLen s.l = (.inr n, r)) (h2 : rNums n [] r = (.inl k, r')) : rInts s = ([], ⟨r', k⟩) := by simp [rInts, h0, h, h2]
theorem rInts_ok {s : RS} (h0 : s.e = 0) {n : Nat} {r r' : List UInt8} {ns : List Int} (h : rLen s.l = (.inr n, r)) (h2 : rNums n [] r = (.inr ns, r')) : rInts s = (ns, ⟨r', 0⟩) := by simp [rInts, h0, h, h2]

theorem scan_err : ∀ (l : List UInt8) (u : Nat) (f : Bool) (k : Nat) (r : List UInt8), scan u f l = (.inl k, r) → k = 8 ∨ k = 10
  | [], u, f, k, r, h => by simp [scan] at h; omega
  | c :: l, u, f, k, r, h => by
    unfold scan at h
    split at h
    · simp at h; omega
    · split at h
      · simp at h
      · exact scan_err l _ false k r h
theorem rLen_err (l : List UInt8) (k : Nat) (r : List UInt8) (h : rLen l = (.inl k, r)) : k = 4 ∨ k = 8 ∨ k = 10 := by
  unfold rLen at h
  split at h
  · rename_i k' r' hs
    have := scan_err _ _ _ _ _ hs
    simp at h; omega
  · split at h
    · simp at h
    · simp at h; omega
theorem rNums_err : ∀ (n : Nat) (acc : List Int) (l : List UInt8) (k : Nat) (r : List UInt8), rNums n acc l = (.inl k, r) → k = 8 ∨ k = 10
  | 0, acc, l, k, r, h => by simp [rNums] at h
  | n + 1, acc, l, k, r, h => by
    unfold rNums at h
    split at h
    · rename_i k' r' hs
      have := scan_err _ _ _ _ _ hs
      simp at h; omega
    · exact rNums_err n _ _ _ _ h
end Go.Esc

/- What is written is read as it was; what is read is written as it stood; what is cut: in plain terms. -/
namespace Go.Esc
open Go.RowKit

theorem toNat_b8 (n : Nat) (h : n < 256) : (b8 n).toNat = n := by
  unfold b8; simp; omega
theorem b8_of (c : UInt8) : b8 c.toNat = c := by unfold b8; simp

theorem hiRev_rev {v : Nat} (h : 0 < v) (t : List UInt8) : (hiRev v).reverse ++ t = (hiRev (v / 128)).reverse ++ (b8 (v % 128 + 128) :: t) := by
  rw [hiRev_pos h, List.reverse_cons, List.append_assoc]; rfl

theorem scan_hi (n : Nat) : ∀ v : Nat, v ≤ n → v ≤ 144115188075855871 → ∀ t, scan 0 true ((hiRev v).reverse ++ t) = if v = 0 then scan 0 true t else scan v false t := by
  induction n with
  | zero =>
    intro v h0 _ t
    obtain rfl : v = 0 := by omega
    rw [hiRev_zero, if_pos rfl]; rfl
  | succ n ih =>
    intro v hv hb t
    by_cases h0 : v = 0
    · subst h0; rw [hiRev_zero, if_pos rfl]; rfl
    · rw [if_neg h0, hiRev_rev (by omega), ih (v / 128) (by omega) (by omega)]
      have hc : (b8 (v % 128 + 128)).toNat = v % 128 + 128 := toNat_b8 _ (by omega)
      split
      · rename_i h1
        rw [scan, hc, if_neg (by omega), if_neg (by omega)]
        congr 1; omega
      · rw [scan, hc, if_neg (by simp; omega), if_neg (by omega)]
        congr 1; omega

theorem scan_row (u : Nat) (h : u < 18446744073709551616) (r : List UInt8) : scan 0 true (row u ++ r) = (.inr u, r) := by
  unfold row revRow
  rw [List.reverse_cons, List.append_assoc, scan_hi (u / 128) (u / 128) (by omega) (by omega)]
  have hc : (b8 (u % 128)).toNat = u % 128 := toNat_b8 _ (by omega)
  simp only [List.singleton_append]
  split
  · rw [scan, hc, if_neg (by omega), if_pos (by omega)]
    congr 2; omega
  · rw [scan, hc, if_neg (by simp; omega), if_pos (by omega)]
    congr 2; omega

theorem row_hi (v : Nat) (c : UInt8) (h : c.toNat < 128) : row (v * 128 + c.toNat) = (hiRev v).reverse ++ [c] := by
  unfold row revRow
  rw [List.reverse_cons, show (v * 128 + c.toNat) / 128 = v from by omega, show (v * 128 + c.toNat) % 128 = c.toNat from by omega, b8_of]

theorem scan_canon_hi : ∀ (l : List UInt8) (v : Nat), 0 < v → ∀ u r, scan v false l = (.inr u, r) → (hiRev v).reverse ++ l = row u ++ r
  | [], v, _, u, r, h => by simp [scan] at h
  | c :: l, v, hv, u, r, h => by
    have hc8 : c.toNat < 256 := c.toNat_lt
    unfold scan at h
    split at h
    · simp at h
    · split at h
      · rename_i h2
        simp only [Prod.mk.injEq, Sum.inr.injEq] at h
        obtain ⟨rfl, rfl⟩ := h
        rw [Nat.mod_eq_of_lt h2, row_hi v c h2]
        simp
      · rename_i h2
        have ih := scan_canon_hi l (v * 128 + c.toNat % 128) (by omega) u r h
        rw [← ih, hiRev_rev (v := v * 128 + c.toNat % 128) (by omega), show (v * 128 + c.toNat % 128) / 128 = v from by omega, show (v * 128 + c.toNat % 128) % 128 + 128 = c.toNat from by omega, b8_of]

theorem scan_canon (l : List UInt8) (u : Nat) (r : List UInt8) (h : scan 0 true l = (.inr u, r)) : l = row u ++ r := by
  cases l with
  | nil => simp [scan] at h
  | cons c l =>
    have hc8 : c.toNat < 256 := c.toNat_lt
    unfold scan at h
    split at h
    · simp at h
    · rename_i h1
      have h1' : c.toNat ≠ 128 := fun hh => h1 (.inl ⟨rfl, hh⟩)
      split at h
      · rename_i h2
        simp only [Prod.mk.injEq, Sum.inr.injEq] at h
        obtain ⟨rfl, rfl⟩ := h
        rw [Nat.mod_eq_of_lt h2, row_hi 0 c h2, hiRev_zero]
        simp
      · rename_i h2
        have ih := scan_canon_hi l (0 * 128 + c.toNat % 128) (by omega) u r h
        rw [← ih, hiRev_rev (by omega), show (0 * 128 + c.toNat % 128) / 128 = 0 from by omega, show (0 * 128 + c.toNat % 128) % 128 + 128 = c.toNat from by omega, b8_of, hiRev_zero]
        rfl

theorem scan_cut : ∀ (l t : List UInt8) (u : Nat) (f : Bool) (v : Nat) (r : List UInt8), scan u f (l ++ t) = (.inr v, r) → r.length < t.length → scan u f l = (.inl 8, [])
  | [], t, u, f, v, r, _, _ => by rw [scan]
  | c :: l, t, u, f, v, r, h, hr => by
    rw [List.cons_append] at h
    unfold scan at h ⊢
    split at h
    · simp at h
    · rename_i h1
      rw [if_neg h1]
      split at h
      · simp only [Prod.mk.injEq] at h
        obtain ⟨_, rfl⟩ := h
        simp at hr
        omega
      · rename_i h2
        rw [if_neg h2]
        exact scan_cut l t _ _ v r h hr

theorem scan_keep : ∀ (l t : List UInt8) (u : Nat) (f : Bool) (v : Nat) (r : List UInt8), scan u f (l ++ t) = (.inr v, r) → t.length ≤ r.length → ∃ r', scan u f l = (.inr v, r') ∧ r = r' ++ t
  | [], t, u, f, v, r, h, hr => by
    cases t with
    | nil => simp [scan] at h
    | cons c t =>
      rw [List.nil_append] at h
      have h2 := scan_len t
      unfold scan at h
      split at h
      · simp at h
      · split at h
        · simp only [Prod.mk.injEq] at h
          obtain ⟨_, rfl⟩ := h
          simp at hr
          omega
        · have := h2 (u * 128 + c.toNat % 128) false
          rw [h] at this
          simp at hr this
          omega
  | c :: l, t, u, f, v, r, h, hr => by
    rw [List.cons_append] at h
    unfold scan at h ⊢
    split at h
    · simp at h
    · rename_i h1
      rw [if_neg h1]
      split at h
      · rename_i h2
        simp only [Prod.mk.injEq] at h
        obtain ⟨e, rfl⟩ := h
        rw [if_pos h2, ← e]
        exact ⟨_, rfl, rfl⟩
      · rename_i h2
        rw [if_neg h2]
        exact scan_keep l t _ _ v r h hr

theorem scan_eight : ∀ (l : List UInt8) (u : Nat) (f : Bool) (r : List UInt8), scan u f l = (.inl 8, r) → r = [] ∧ (l ≠ [] → u * 128 ^ (l.length - 1) < 144115188075855872)
  | [], u, f, r, h => by simp [scan] at h; exact ⟨h, fun h => absurd rfl h⟩
  | c :: l, u, f, r, h => by
    unfold scan at h
    split at h
    · simp at h
    · rename_i h1
      split at h
      · simp at h
      · obtain ⟨h3, h4⟩ := scan_eight l _ _ r h
        refine ⟨h3, fun _ => ?_⟩
        have hu : u < 144115188075855872 := by omega
        cases l with
        | nil => simpa using hu
        | cons d l =>
          have h5 := h4 (by simp)
          simp only [List.length_cons, Nat.add_sub_cancel] at h5 ⊢
          rw [Nat.pow_succ, Nat.mul_comm (128 ^ l.length), ← Nat.mul_assoc]
          exact Nat.lt_of_le_of_lt (Nat.mul_le_mul_right _ (by omega)) h5

theorem scan_eight_len (l r : List UInt8) (h : scan 0 true l = (.inl 8, r)) : r = [] ∧ l.length ≤ 10 := by
  refine ⟨(scan_eight l 0 true r h).1, ?_⟩
  cases l with
  | nil => simp
  | cons c l =>
    have hc8 : c.toNat < 256 := c.toNat_lt
    unfold scan at h
    split at h
    · simp at h
    · rename_i h1
      split at h
      · simp at h
      · have h2 := (scan_eight l _ _ r h).2
        cases l with
        | nil => simp
        | cons d l =>
          have h3 := h2 (by simp)
          simp only [List.length_cons, Nat.add_sub_cancel] at h3 ⊢
          have h4 : c.toNat ≠ 128 := fun hh => h1 (.inl ⟨rfl, hh⟩)
          by_cases hl : l.length ≤ 8
          · omega
          · have h5 : 128 ^ 9 ≤ 128 ^ l.length := Nat.pow_le_pow_right (by decide) (by omega)
            have h6 : 1 * 128 ^ l.length ≤ (0 * 128 + c.toNat % 128) * 128 ^ l.length := Nat.mul_le_mul_right _ (by omega)
            omega

theorem zig_enc (n : Int) (h : I64ok n) (r : List UInt8) : scan 0 true (encI n ++ r) = (.inr (zig n), r) := scan_row _ (zig_lt n h.1 h.2) r
theorem encI_sgn (u : Nat) : encI (sgn u) = row u := by unfold encI; rw [zig_sgn]

theorem rInt_enc (n : Int) (h : I64ok n) (r : List UInt8) : rInt ⟨encI n ++ r, 0⟩ = (n, ⟨r, 0⟩) := by
  rw [rInt_ok rfl (zig_enc n h r), sgn_zig]
theorem rLen_enc (n : Nat) (h : n ≤ 65535) (r : List UInt8) : rLen (encI n ++ r) = (.inr n, r) := by
  have hs := sgn_zig (n : Int)
  rw [rLen_ok_of (zig_enc n ⟨by omega, by omega⟩ r) (by omega) (by omega), hs]; rfl
theorem rLen_enc_bad (n : Int) (hn : I64ok n) (h : ¬ (0 ≤ n ∧ n ≤ 65535)) (r : List UInt8) : rLen (encI n ++ r) = (.inl 4, r) :=
  rLen_many_of (zig_enc n hn r) (by rw [sgn_zig]; exact h)
theorem rText_enc (t : List UInt8) (h : t.length ≤ 65535) (r : List UInt8) : rText ⟨encT t ++ r, 0⟩ = (t, ⟨r, 0⟩) := by
  have h1 : rLen (encT t ++ r) = (.inr t.length, t ++ r) := by unfold encT; rw [List.append_assoc]; exact rLen_enc _ h _
  rw [rText_ok rfl h1 (by simp)]; simp
theorem rNums_enc : ∀ (l : List Int) (acc : List Int) (r : List UInt8), (∀ n ∈ l, I64ok n) → rNums l.length acc (l.flatMap encI ++ r) = (.inr (acc ++ l), r)
  | [], acc, r, _ => by simp [rNums]
  | n :: l, acc, r, h => by
    rw [List.length_cons, rNums, List.flatMap_cons, List.append_assoc, zig_enc n (h n (by simp))]
    simp only
    rw [rNums_enc l _ r (fun x hx => h x (by simp [hx])), sgn_zig]
    simp
theorem rInts_enc (l : List Int) (h : l.length ≤ 65535) (hl : ∀ n ∈ l, I64ok n) (r : List UInt8) : rInts ⟨encL l ++ r, 0⟩ = (l, ⟨r, 0⟩) := by
  have h1 : rLen (encL l ++ r) = (.inr l.length, l.flatMap encI ++ r) := by unfold encL; rw [List.append_assoc]; exact rLen_enc _ h _
  rw [rInts_ok rfl h1 (rNums_enc l [] r hl)]; simp
end Go.Esc

/- A region that draws its order in a deferred function that recovers; all orders of a small region. Of no program. -/
namespace Go.Esc
open Go.RowKit

theorem wpS_region_draw {P : Program} {Q : Exit → Act → List Frame → World → Prop} {a : Act} {cs : List Frame} {w : World} {id : Nat} {ops : Array Oper} (hm : P.follows .mixedOrders = true) (ls : List (List Nat))
    (hl : allLin .any ops ops.size (Array.replicate ops.size false) = ls) (h : ∀ l ∈ ls, wpOpsS P ops Q l a cs w.drew) : (Code.region id ops true).wpS P Q a cs w := fun b k hb hr => by
  have hmem : Region.schedule (P.follows .mixedOrders) ops (w.tape w.drawn (.order b.fn id)) ∈ ls := by
    rw [← hl]
    simp only [Region.schedule, hm, Bool.true_or, if_true]
    exact mem_allLin _ _ _ _ _
  obtain ⟨e, a', cs', w', q, r⟩ := wp_opsS _ a cs _ (h _ hmem) b k hb hr
  exact ⟨e, a', cs', w', q, .of_steps (.one step_region_draw) r⟩
end Go.Esc

/- Walks of the package code: the reader: New, take, number, size. -/
namespace Go.Proofs.Ytpljcnjkdjblmaa
open Go.RowKit Go.Esc
set_option linter.unusedVariables false

/-- A reader of the program lies in block g, its bytes in block d (none: it never had any): these bytes are left; this error. -/
structure Rdr (w : World) (g : Nat) (d : Option Nat) (l : List UInt8) (er : Int) : Prop where
  sl : ∃ a c, w.cell? ⟨g, 0, none⟩ = some (.slice a l.length c) ∧ l.length ≤ c ∧ c ≤ maxLen ∧ Rd w a (bs l) ∧ ∀ ad, a = some ad → d = some ad.block
  sep : ∀ i, d = some i → i ≠ g ∧ i < w.heap.size
  err : w.cell? ⟨g, 1, none⟩ = some (.int .i64 er)
  fr : ∀ j, w.frozen? ⟨g, j, none⟩ = false

theorem Rdr.ext {S : Nat → Prop} {w w' : World} {g : Nat} {d : Option Nat} {l : List UInt8} {er : Int} (h : Rdr w g d l er) (hx : Ext S w w') (hg : ¬ S g) (hs : ∀ i, d = some i → ¬ S i) : Rdr w' g d l er := by
  obtain ⟨a, c, h1, h2, h3, h4, h5⟩ := h.sl
  have hb := World.block_lt_of_cell? w _ h1
  exact ⟨⟨a, c, hx.keeps h1 hg, h2, h3, h4.ext hx (fun ad ha => hs _ (h5 ad ha)), h5⟩, fun i hi => ⟨(h.sep i hi).1, Nat.lt_of_lt_of_le (h.sep i hi).2 hx.size⟩, hx.keeps h.err hg, fun j => by rw [hx.frozen (p := ⟨g, j, none⟩) hb hg]; exact h.fr j⟩

theorem Rdr.no {w w' : World} {g : Nat} {d : Option Nat} {l : List UInt8} {er : Int} (h : Rdr w g d l er) (hx : Ext no w w') : Rdr w' g d l er := h.ext hx (fun h => h) (fun _ _ h => h)
theorem Rdr.lt {w : World} {g : Nat} {d : Option Nat} {l : List UInt8} {er : Int} (h : Rdr w g d l er) : g < w.heap.size := World.block_lt_of_cell? w _ h.err

set_option maxHeartbeats 400000 in
theorem take_cut (w : World) (g n : Nat) {d : Option Nat} (l : List UInt8) (er : Int) (h : Rdr w g d l er) (hn : l.length < n) :
    Calls Try.prog 66 #[.pointer (some ⟨g, 0, none⟩), .int .i64 n] w fun e w' => e = .panicked [{ v := .iface 127 (.int .i64 8), recovered := false }] ∧ w = w' := by
  obtain ⟨a, c, h1, h2, h3, h4, h5⟩ := h.sl
  go_enter Try.func66, Try.ntmps66
  go_wp2_with fail
  exact ⟨rfl, rfl, rfl⟩

set_option maxHeartbeats 400000 in
theorem take_ok (w : World) (g n : Nat) {d : Option Nat} (l : List UInt8) (er : Int) (h : Rdr w g d l er) (hn : n ≤ l.length) :
    Calls Try.prog 66 #[.pointer (some ⟨g, 0, none⟩), .int .i64 n] w fun e w' => ∃ a c, e = .returned (.slice a n c) ∧ Rd w' a (bs (l.take n)) ∧ Rdr w' g d (l.drop n) er ∧ Ext (just g) w w' := by
  obtain ⟨a, c, h1, h2, h3, h4, h5⟩ := h.sl
  have f0 := h.fr 0
  go_enter Try.func66, Try.ntmps66
  go_wp2_with (first
    | (with_reducible show wpList _ _ _ _ _ _; refine wpList_cut_h TBytes rfl rfl rfl rfl n rfl (by omega) ?_)
    | (with_reducible show wpList _ _ _ _ _ _; refine wpList_cut_l TBytes rfl rfl rfl rfl n rfl (by omega) ?_))
  go_ret
  have hx : Ext (just g) w (w.setCell ⟨g, 0, none⟩ (.slice (cutAt a c n 1) (l.length - n) (c - n))) := Ext.setCell _ _ _ rfl
  have hn : ∀ ad, a = some ad → ¬ just g ad.block := fun ad ha he => (h.sep _ (h5 ad ha)).1 he
  refine ⟨a, c, rfl, ?_, ⟨⟨cutAt a c n 1, c - n, ?_, ?_, by omega, ?_, ?_⟩, fun i hi => ⟨(h.sep i hi).1, Nat.lt_of_lt_of_le (h.sep i hi).2 hx.size⟩, ?_, ?_⟩, hx⟩
  · rw [← bs_take]; exact (h4.take n).ext hx hn
  · rw [World.cell?_setCell_same _ _ _ h1, List.length_drop]
  · rw [List.length_drop]; omega
  · rw [← bs_drop]
    have := (h4.ext hx hn).cutAt c n 1 (fun e => by rw [bs_length]; omega)
    rwa [Nat.mul_one] at this
  · intro ad ha
    obtain ⟨ad0, h6, h7⟩ := cutAt_block ha
    rw [h7]; exact h5 ad0 h6
  · rw [World.cell?_setCell_other _ _ _ _ (by simp)]; exact h.err
  · intro j
    have := World.frozen?_setCells g [.slice (cutAt a c n 1) (l.length - n) (c - n)] 0 w ⟨g, j, none⟩
    exact this.trans (h.fr j)

/-- What a call of the reader's inside ends with. -/
def NumEnd (l : List UInt8) (w : World) (g : Nat) (d : Option Nat) (er : Int) (e : Ending) (w' : World) : Prop :=
  ∃ r, Rdr w' g d r er ∧ Ext (just g) w w' ∧ ((∃ u, scan 0 true l = (.inr u, r) ∧ e = .returned (.int .i64 (sgn u))) ∨ (∃ k : Nat, scan 0 true l = (.inl k, r) ∧ e = .panicked [{ v := .iface 127 (.int .i64 k), recovered := false }]))

set_option maxRecDepth 100000 in
set_option maxHeartbeats 1000000 in
theorem number_any (w : World) (g : Nat) {d : Option Nat} (l : List UInt8) (er : Int) (h : Rdr w g d l er) :
    Calls Try.prog 64 #[.pointer (some ⟨g, 0, none⟩)] w (NumEnd l w g d er) := by
  go_enter Try.func64, Try.ntmps64
  go_wp2_with fail
  go_loopg [3, 4, 5] l.length (fun k s3 s4 _ wr => ∃ (u : Nat) (first : Bool) (l' : List UInt8), k = l'.length ∧ s3 = .int .u64 u ∧ s4 = .bool first ∧ u < 18446744073709551616 ∧ scan 0 true l = scan u first l' ∧ Rdr wr g d l' er ∧ Ext (just g) w wr)
  case atStart => exact ⟨0, true, l, rfl, rfl, rfl, by omega, rfl, h, Ext.refl _ _⟩
  case round =>
    clear h
    obtain ⟨u, first, l', rfl, rfl, rfl, hu, hsc, hr, hx⟩ := hrel
    cases l' with
    | nil =>
      go_wp2_with fail
      refine (take_cut wr g 1 [] er hr (by simp)).mono ?_
      rintro e w1 ⟨rfl, rfl⟩
      go_wp2_with fail
      exact ⟨rfl, [], hr, hx, .inr ⟨8, hsc, rfl⟩⟩
    | cons c r =>
      have hc8 : c.toNat < 256 := c.toNat_lt
      have Hsc := Lib.hid hsc
      have Hu := Lib.hid hu
      clear hsc hu
      go_wp2_with fail
      refine (take_ok wr g 1 (c :: r) er hr (by simp)).mono ?_
      rintro e w1 ⟨a, cc, rfl, hrd, hr1, hx1⟩
      have hx2 := hx.comp hx1
      obtain ⟨b, off, rfl, _⟩ := hrd.shape (by simp)
      have hcell := hrd.lookup 0 (by simp)
      rw [show (bs ((c :: r).take 1))[0]'(by simp) = .int .u8 c.toNat from rfl, Nat.add_zero] at hcell
      simp only [List.drop_one, List.tail_cons] at hr1
      clear hrd hr hx hx1
      by_cases hbad : (first = true ∧ c.toNat = 128) ∨ 144115188075855871 < u
      · have hsc2 : scan 0 true l = (.inl 10, r) := by rw [Hsc.out, scan, if_pos hbad]
        rcases hbad with ⟨rfl, h128⟩ | hbig
        · have hb1 : ((c.toNat : Int) == 128) = true := by rw [beq_iff_eq]; omega
          clear h128
          go_wp2_with fail
          exact ⟨rfl, r, hr1, hx2, .inr ⟨10, hsc2, rfl⟩⟩
        · have hb2 : decide (144115188075855871 < (u : Int)) = true := by rw [decide_eq_true_eq]; omega
          clear hbig
          cases first with
          | false =>
            go_wp2_with fail
            exact ⟨rfl, r, hr1, hx2, .inr ⟨10, hsc2, rfl⟩⟩
          | true =>
            go_wp2_with fail
            all_goals exact ⟨rfl, r, hr1, hx2, .inr ⟨10, hsc2, rfl⟩⟩
      · have hsc2 : scan u first (c :: r) = if c.toNat < 128 then (.inr (u * 128 + c.toNat % 128), r) else scan (u * 128 + c.toNat % 128) false r := by rw [scan, if_neg hbad]
        have hule : (u : Int) ≤ 144115188075855871 := by omega
        have hb2 : decide (144115188075855871 < (u : Int)) = false := by rw [decide_eq_false_iff_not]; omega
        have hor := or7 ((u : Int) * 128) ((c.toNat : Int) % 128) (by omega) (by omega) (by omega) (by omega) (by omega)
        have hb1 : first = true → ((c.toNat : Int) == 128) = false := by
          intro hf
          rw [beq_eq_false_iff_ne]
          intro h
          exact hbad (.inl ⟨hf, by omega⟩)
        have hv : u * 128 + c.toNat % 128 < 18446744073709551616 := by omega
        have hcast : ((u : Int) * 128 + (c.toNat : Int) % 128) = ((u * 128 + c.toNat % 128 : Nat) : Int) := by omega
        have Hv := Lib.hid hv
        have Hcast := Lib.hid hcast
        have Hsc2 := Lib.hid hsc2
        clear hbad hv hcast hsc2
        by_cases hc : c.toNat < 128
        · have Hc := Lib.hid hc
          have hsc3 : scan 0 true l = (.inr (u * 128 + c.toNat % 128), r) := by rw [Hsc.out, Hsc2.out, if_pos hc]
          have Hsc3 := Lib.hid hsc3
          clear hsc3
          cases first with
          | false =>
            go_wp2_with fail
            all_goals
              go_ret
              refine ⟨r, hr1, hx2, .inl ⟨_, Hsc3.out, ?_⟩⟩
              first
                | (rw [sgn_odd _ _ Hcast.out (by assumption)]; rfl)
                | (rw [sgn_even _ _ Hcast.out (by assumption)]; rfl)
          | true =>
            have hb1 := hb1 rfl
            go_wp2_with fail
            all_goals
              go_ret
              refine ⟨r, hr1, hx2, .inl ⟨_, Hsc3.out, ?_⟩⟩
              first
                | (rw [sgn_odd _ _ Hcast.out (by assumption)]; rfl)
                | (rw [sgn_even _ _ Hcast.out (by assumption)]; rfl)
        · have Hc := Lib.hid hc
          have hsc3 : scan 0 true l = scan (u * 128 + c.toNat % 128) false r := by rw [Hsc.out, Hsc2.out, if_neg hc]
          have Hsc3 := Lib.hid hsc3
          clear hsc3
          cases first with
          | false =>
            go_wp2_with fail
            go_roundg r.length
            case measure => simp
            case rel => exact ⟨_, false, r, rfl, by rw [← Hcast.out], rfl, Hv.out, Hsc3.out, hr1, hx2⟩
          | true =>
            have hb1 := hb1 rfl
            go_wp2_with fail
            go_roundg r.length
            case measure => simp
            case rel => exact ⟨_, false, r, rfl, by rw [← Hcast.out], rfl, Hv.out, Hsc3.out, hr1, hx2⟩

end Go.Proofs.Ytpljcnjkdjblmaa

/- Walks of the package code: Fail, caught, the deferred closures. -/
namespace Go.Proofs.Ytpljcnjkdjblmaa
open Go.RowKit Go.Esc
set_option linter.unusedVariables false

/-- The first error stays. -/
def fails (er k : Int) : Int := if er = 0 then k else er

theorem Rdr.fail {w : World} {g : Nat} {d : Option Nat} {l : List UInt8} {er : Int} (h : Rdr w g d l er) (k : Int) : Rdr (w.setCell ⟨g, 1, none⟩ (.int .i64 k)) g d l k := by
  obtain ⟨a, c, h1, h2, h3, h4, h5⟩ := h.sl
  have hx : Ext (just g) w (w.setCell ⟨g, 1, none⟩ (.int .i64 k)) := Ext.setCell _ _ _ rfl
  refine ⟨⟨a, c, ?_, h2, h3, h4.ext hx (fun ad ha he => (h.sep _ (h5 ad ha)).1 he), h5⟩, fun i hi => ⟨(h.sep i hi).1, Nat.lt_of_lt_of_le (h.sep i hi).2 hx.size⟩, ?_, ?_⟩
  · rw [World.cell?_setCell_other _ _ _ _ (by simp)]; exact h1
  · exact World.cell?_setCell_same _ _ _ h.err
  · intro j
    have := World.frozen?_setCells g [.int .i64 k] 1 w ⟨g, j, none⟩
    exact this.trans (h.fr j)

set_option maxHeartbeats 400000 in
theorem fail_any (w : World) (g : Nat) {d : Option Nat} (l : List UInt8) (er k : Int) (h : Rdr w g d l er) :
    Calls Try.prog 77 #[.pointer (some ⟨g, 0, none⟩), .int .i64 k] w fun e w' => e = .returned (.tuple #[]) ∧ Rdr w' g d l (fails er k) ∧ Ext (just g) w w' := by
  have hc := h.err
  have hf := h.fr 1
  by_cases h0 : er = 0
  · subst h0
    go_enter Try.func77, Try.ntmps77
    go_wp2_with fail
    go_end0
    exact ⟨rfl, h.fail k, Ext.setCell _ _ _ rfl⟩
  · have hb : (er == 0) = false := by rw [beq_eq_false_iff_ne]; exact h0
    have H0 := Lib.hid h0
    clear h0
    go_enter Try.func77, Try.ntmps77
    go_wp2_with fail
    go_end0
    exact ⟨rfl, by unfold fails; rw [if_neg H0.out]; exact h, Ext.refl _ _⟩

theorem assert_wrong (k : Int) (w : World) : (Instr.typeAssert (.iface 127 (.int .i64 k)) 20 127 true).run Try.prog w = .ok (.tuple #[.int .i64 k, .bool true]) w := by kernel_rfl

set_option maxHeartbeats 400000 in
theorem caught_nil (w : World) (p : Value) :
    Calls Try.prog 63 #[p, .nilIface] w fun e w' => e = .returned (.tuple #[]) ∧ w = w' := by
  go_enter Try.func63, Try.ntmps63
  go_wp2_with fail
  exact bodyPost_ret (results_none rfl _ _ _) rfl ⟨rfl, rfl⟩

set_option maxHeartbeats 400000 in
theorem caught_wrong (w : World) (g : Nat) {d : Option Nat} (l : List UInt8) (er k : Int) (h : Rdr w g d l er) :
    Calls Try.prog 63 #[.pointer (some ⟨g, 0, none⟩), .iface 127 (.int .i64 k)] w fun e w' => e = .returned (.tuple #[]) ∧ Rdr w' g d l (fails er k) ∧ Ext (just g) w w' := by
  have hta := assert_wrong
  go_enter Try.func63, Try.ntmps63
  go_wp2_with fail
  refine (fail_any w g l er k h).mono ?_
  rintro e w1 ⟨rfl, hr, hx⟩
  go_wp2_with fail
  go_end0
  exact ⟨rfl, hr, hx⟩

/-- The deferred closure of a face that panics with an error of the package. -/
theorem int1_panicking (w : World) (g b : Nat) {d : Option Nat} (l : List UInt8) (er k : Int) (older : List PanicEntry) (h : Rdr w g d l er) (hb : w.cell? ⟨b, 0, none⟩ = some (.pointer (some ⟨g, 0, none⟩))) :
    CallsD Try.prog 62 #[.pointer (some ⟨b, 0, none⟩)] (.panicking ({ v := .iface 127 (.int .i64 k), recovered := false } :: older)) w fun e u' w' =>
      e = .returned (.tuple #[]) ∧ u' = .panicking ({ v := .iface 127 (.int .i64 k), recovered := true } :: older) ∧ Rdr w' g d l (fails er k) ∧ Ext (just g) w w' := by
  have hb' : w.drew.cell? ⟨b, 0, none⟩ = some (.pointer (some ⟨g, 0, none⟩)) := hb
  refine callsD_of_wpS Try.func62 rfl fun c₀ cs hu => ?_
  refine wpS_region_draw (by kernel_rfl) [[0, 1, 2], [1, 0, 2]] (by kernel_rfl) ?_
  intro l' hl
  simp only [List.mem_cons, List.not_mem_nil, or_false] at hl
  rcases hl with rfl | rfl
  all_goals
    simp [wpOpsS, go_sem, recoverD, hu, Try.ntmps62, hb']
    refine (caught_wrong w.drew g l er k (h.no (Ext.drew no w))).mono ?_
    rintro e w1 ⟨rfl, hr, hx⟩
    simp [bodyPostS, results, Try.results62]
    exact ⟨hr, (Ext.drew _ _).comp hx⟩

/-- The deferred closure of a face that returns. -/
theorem int1_returning (w : World) (g b : Nat) (hb : w.cell? ⟨b, 0, none⟩ = some (.pointer (some ⟨g, 0, none⟩))) :
    CallsD Try.prog 62 #[.pointer (some ⟨b, 0, none⟩)] .returning w fun e u' w' => e = .returned (.tuple #[]) ∧ u' = .returning ∧ Ext no w w' := by
  have hb' : w.drew.cell? ⟨b, 0, none⟩ = some (.pointer (some ⟨g, 0, none⟩)) := hb
  refine callsD_of_wpS Try.func62 rfl fun c₀ cs hu => ?_
  refine wpS_region_draw (by kernel_rfl) [[0, 1, 2], [1, 0, 2]] (by kernel_rfl) ?_
  intro l' hl
  simp only [List.mem_cons, List.not_mem_nil, or_false] at hl
  rcases hl with rfl | rfl
  all_goals
    simp [wpOpsS, go_sem, recoverD, hu, Try.ntmps62, hb']
    refine (caught_nil w.drew _).mono ?_
    rintro e w1 ⟨rfl, rfl⟩
    cases c₀
    simp_all [bodyPostS, results, Try.results62]
    exact Ext.drew _ _

/-- The deferred closure of a face that panics with an error of the package. -/
theorem text1_panicking (w : World) (g b : Nat) {d : Option Nat} (l : List UInt8) (er k : Int) (older : List PanicEntry) (h : Rdr w g d l er) (hb : w.cell? ⟨b, 0, none⟩ = some (.pointer (some ⟨g, 0, none⟩))) :
    CallsD Try.prog 65 #[.pointer (some ⟨b, 0, none⟩)] (.panicking ({ v := .iface 127 (.int .i64 k), recovered := false } :: older)) w fun e u' w' =>
      e = .returned (.tuple #[]) ∧ u' = .panicking ({ v := .iface 127 (.int .i64 k), recovered := true } :: older) ∧ Rdr w' g d l (fails er k) ∧ Ext (just g) w w' := by
  have hb' : w.drew.cell? ⟨b, 0, none⟩ = some (.pointer (some ⟨g, 0, none⟩)) := hb
  refine callsD_of_wpS Try.func65 rfl fun c₀ cs hu => ?_
  refine wpS_region_draw (by kernel_rfl) [[0, 1, 2], [1, 0, 2]] (by kernel_rfl) ?_
  intro l' hl
  simp only [List.mem_cons, List.not_mem_nil, or_false] at hl
  rcases hl with rfl | rfl
  all_goals
    simp [wpOpsS, go_sem, recoverD, hu, Try.ntmps65, hb']
    refine (caught_wrong w.drew g l er k (h.no (Ext.drew no w))).mono ?_
    rintro e w1 ⟨rfl, hr, hx⟩
    simp [bodyPostS, results, Try.results65]
    exact ⟨hr, (Ext.drew _ _).comp hx⟩

/-- The deferred closure of a face that returns. -/
theorem text1_returning (w : World) (g b : Nat) (hb : w.cell? ⟨b, 0, none⟩ = some (.pointer (some ⟨g, 0, none⟩))) :
    CallsD Try.prog 65 #[.pointer (some ⟨b, 0, none⟩)] .returning w fun e u' w' => e = .returned (.tuple #[]) ∧ u' = .returning ∧ Ext no w w' := by
  have hb' : w.drew.cell? ⟨b, 0, none⟩ = some (.pointer (some ⟨g, 0, none⟩)) := hb
  refine callsD_of_wpS Try.func65 rfl fun c₀ cs hu => ?_
  refine wpS_region_draw (by kernel_rfl) [[0, 1, 2], [1, 0, 2]] (by kernel_rfl) ?_
  intro l' hl
  simp only [List.mem_cons, List.not_mem_nil, or_false] at hl
  rcases hl with rfl | rfl
  all_goals
    simp [wpOpsS, go_sem, recoverD, hu, Try.ntmps65, hb']
    refine (caught_nil w.drew _).mono ?_
    rintro e w1 ⟨rfl, rfl⟩
    cases c₀
    simp_all [bodyPostS, results, Try.results65]
    exact Ext.drew _ _

end Go.Proofs.Ytpljcnjkdjblmaa

/- Walks of the package code: New, Int, size, Text, Ints, End of a reader. -/
namespace Go.Proofs.Ytpljcnjkdjblmaa
open Go.RowKit Go.Esc
set_option linter.unusedVariables false

theorem Rdr.just {w w' : World} {g : Nat} {d : Option Nat} {l : List UInt8} {er : Int} (h : Rdr w g d l er) (hx : Ext (just g) w w') : Ext (just g) w w' := hx

theorem mkFunc : ∀ (fn : Fn) (first cap : Array Value) (w : World), (Instr.makeFunc fn first cap).run Try.prog w = .ok (.func fn first cap) w := fun _ _ _ _ => rfl

/-- The face's own variable: a block that holds where the reader lies. -/
theorem boxed (w : World) (g : Nat) {w1 : World} (hg : g < w.heap.size) (hx : Ext (just g) (w.alloc (.cells #[.pointer (some ⟨g, 0, none⟩)] 104)) w1) : w1.cell? ⟨w.heap.size, 0, none⟩ = some (.pointer (some ⟨g, 0, none⟩)) :=
  hx.keeps (by simp) (by simp only [Esc.just]; omega)

theorem face_ext (w : World) (g : Nat) {w1 w2 : World} (o : Obj) (hx : Ext (just g) (w.alloc o) w1) (hx2 : Ext (just g) w1 w2) : Ext (just g) w w2 := ((Ext.alloc _ _ _).comp hx).comp hx2

set_option maxHeartbeats 400000 in
theorem rdInt_any (w : World) (g : Nat) {d : Option Nat} (s : RS) (h : Rdr w g d s.l s.e) :
    Calls Try.prog 47 #[.pointer (some ⟨g, 0, none⟩)] w fun e w' => e = .returned (.int .i64 (rInt s).1) ∧ Rdr w' g d (rInt s).2.l (rInt s).2.e ∧ Ext (just g) w w' := by
  have hmf := mkFunc
  have h1 := h.no (Ext.alloc no w (.cells #[.pointer (some ⟨g, 0, none⟩)] 104))
  have hg := h.lt
  have hc := h1.err
  by_cases h0 : s.e = 0
  · rw [h0] at h1 hc
    have H0 := Lib.hid h0
    clear h0
    go_enter_defers Try.func47, Try.ntmps47
    go_wp2_with fail
    refine (number_any _ g s.l 0 h1).mono ?_
    rintro e w1 ⟨r, hr1, hx1, ⟨u, hsc, rfl⟩ | ⟨k, hsc, rfl⟩⟩
    · have Hsc := Lib.hid hsc
      clear hsc
      go_wp2_with fail
      refine leaves_cons (f := 62) (args := #[.pointer (some ⟨w.heap.size, 0, none⟩)]) (by simp) (by simp [go_sem]) ?_
      refine (int1_returning w1 g w.heap.size (boxed w g hg hx1)).mono ?_
      rintro e u' w2 ⟨rfl, rfl, hx2⟩
      rw [rInt_ok H0.out Hsc.out]
      exact ⟨_, results_tmp rfl _ _ _, rfl, hr1.no hx2, face_ext w g _ hx1 (hx2.mono (fun _ _ h => h.elim))⟩
    · have Hsc := Lib.hid hsc
      clear hsc
      go_wp2_with fail
      refine leaves_cons (f := 62) (args := #[.pointer (some ⟨w.heap.size, 0, none⟩)]) (by simp) (by simp [go_sem]) ?_
      refine (int1_panicking w1 g w.heap.size r 0 k [] hr1 (boxed w g hg hx1)).mono ?_
      rintro e u' w2 ⟨rfl, rfl, hr2, hx2⟩
      rw [rInt_err H0.out Hsc.out]
      refine ⟨_, results_tmp rfl _ _ _, rfl, hr2, face_ext w g _ hx1 hx2⟩
  · have hb : (s.e == 0) = false := by rw [beq_eq_false_iff_ne]; exact h0
    have H0 := Lib.hid h0
    clear h0
    go_enter_defers Try.func47, Try.ntmps47
    go_wp2_with fail
    refine leaves_cons (f := 62) (args := #[.pointer (some ⟨w.heap.size, 0, none⟩)]) (by simp) (by simp [go_sem]) ?_
    refine (int1_returning _ g w.heap.size (by simp)).mono ?_
    rintro e u' w2 ⟨rfl, rfl, hx2⟩
    rw [rInt_skip H0.out]
    exact ⟨_, results_tmp rfl _ _ _, rfl, h1.no hx2, (Ext.alloc _ _ _).comp (hx2.mono (fun _ _ h => h.elim))⟩
/-- What size ends with. -/
def LenEnd (l : List UInt8) (w : World) (g : Nat) (d : Option Nat) (er : Int) (e : Ending) (w' : World) : Prop :=
  ∃ r, Rdr w' g d r er ∧ Ext (just g) w w' ∧ ((∃ n : Nat, n ≤ 65535 ∧ rLen l = (.inr n, r) ∧ e = .returned (.int .i64 n)) ∨ (∃ k : Nat, rLen l = (.inl k, r) ∧ e = .panicked [{ v := .iface 127 (.int .i64 k), recovered := false }]))

set_option maxHeartbeats 400000 in
theorem size_any (w : World) (g : Nat) {d : Option Nat} (l : List UInt8) (er : Int) (h : Rdr w g d l er) :
    Calls Try.prog 67 #[.pointer (some ⟨g, 0, none⟩)] w (LenEnd l w g d er) := by
  go_enter Try.func67, Try.ntmps67
  go_wp2_with fail
  refine (number_any w g l er h).mono ?_
  rintro e w1 ⟨r, hr1, hx1, ⟨u, hsc, rfl⟩ | ⟨k, hsc, rfl⟩⟩
  · obtain ⟨x, hx⟩ : ∃ x, sgn u = x := ⟨_, rfl⟩
    rw [hx]
    have Hsc := Lib.hid hsc
    have Hx := Lib.hid hx
    clear hsc hx
    rcases Int.lt_or_le x 0 with hneg | hpos
    · go_wp2_with fail
      exact ⟨rfl, r, hr1, hx1, .inr ⟨4, rLen_many_of Hsc.out (by rw [Hx.out]; omega), rfl⟩⟩
    · rcases Int.lt_or_le 65535 x with hbig | hsm
      · go_wp2_with fail
        exact ⟨rfl, r, hr1, hx1, .inr ⟨4, rLen_many_of Hsc.out (by rw [Hx.out]; omega), rfl⟩⟩
      · go_wp2_with fail
        go_ret
        refine ⟨r, hr1, hx1, .inl ⟨x.toNat, by omega, by rw [rLen_ok_of Hsc.out (by rw [Hx.out]; omega) (by rw [Hx.out]; omega), Hx.out], ?_⟩⟩
        rw [show ((x.toNat : Nat) : Int) = x from by omega]; rfl
  · have Hsc := Lib.hid hsc
    clear hsc
    go_wp2_with fail
    exact ⟨rfl, r, hr1, hx1, .inr ⟨k, rLen_err_of Hsc.out, rfl⟩⟩

set_option maxHeartbeats 1000000 in
theorem rdText_any (w : World) (g : Nat) {d : Option Nat} (s : RS) (h : Rdr w g d s.l s.e) :
    Calls Try.prog 48 #[.pointer (some ⟨g, 0, none⟩)] w fun e w' => e = .returned (.string (str (rText s).1)) ∧ Rdr w' g d (rText s).2.l (rText s).2.e ∧ Ext (just g) w w' := by
  have hmf := mkFunc
  have h1 := h.no (Ext.alloc no w (.cells #[.pointer (some ⟨g, 0, none⟩)] 104))
  have hg := h.lt
  have hc := h1.err
  by_cases h0 : s.e = 0
  · rw [h0] at h1 hc
    have H0 := Lib.hid h0
    clear h0
    go_enter_defers Try.func48, Try.ntmps48
    go_upto_region 3 with fail
    refine wp_region_lin (by kernel_rfl) [[0, 1, 2, 3, 4, 5], [1, 0, 2, 3, 4, 5], [1, 2, 0, 3, 4, 5]] (by kernel_rfl) ?_
    intro js hjs
    simp only [List.mem_cons, List.not_mem_nil, or_false] at hjs
    rcases hjs with rfl | rfl | rfl
    all_goals
      simp only [picked, opAt]
      go_wp2_with fail
      refine (size_any _ g s.l 0 (h1.no (Ext.drew no _))).mono ?_
      rintro e w1 ⟨r, hr1, hx1, ⟨n, hn, hlen, rfl⟩ | ⟨k, hlen, rfl⟩⟩
      · have Hlen := Lib.hid hlen
        clear hlen
        have hbx := boxed w g hg ((Ext.drew _ _).comp hx1)
        by_cases hnr : n ≤ r.length
        · go_wp2_with fail
          refine (take_ok w1 g n r 0 hr1 hnr).mono ?_
          rintro e w2 ⟨a, c, rfl, hrd, hr2, hx2⟩
          have hl : (r.take n).length = n := by rw [List.length_take]; omega
          go_wp2_with (with_reducible show wpList _ _ _ _ _ _; refine wpList_string_of (by exact Try.underlying37) (by exact Try.underlying5) (by exact Try.underlying9) rfl rfl rfl hl.symm hrd ?_)
          refine leaves_cons (f := 65) (args := #[.pointer (some ⟨w.heap.size, 0, none⟩)]) (by simp) (by simp [go_sem]) ?_
          refine (text1_returning w2 g w.heap.size (hx2.keeps hbx (by simp only [Esc.just]; omega))).mono ?_
          rintro e u' w3 ⟨rfl, rfl, hx3⟩
          rw [rText_ok H0.out Hlen.out hnr]
          exact ⟨_, results_tmp rfl _ _ _, rfl, hr2.no hx3, face_ext w g _ (((Ext.drew _ _).comp hx1).comp hx2) (hx3.mono (fun _ _ h => h.elim))⟩
        · have hnr' : r.length < n := by omega
          clear hnr
          go_wp2_with fail
          refine (take_cut w1 g n r 0 hr1 hnr').mono ?_
          rintro e w2 ⟨rfl, rfl⟩
          go_wp2_with fail
          refine leaves_cons (f := 65) (args := #[.pointer (some ⟨w.heap.size, 0, none⟩)]) (by simp) (by simp [go_sem]) ?_
          refine (text1_panicking w1 g w.heap.size r 0 8 [] hr1 hbx).mono ?_
          rintro e u' w3 ⟨rfl, rfl, hr2, hx2⟩
          rw [rText_cut H0.out Hlen.out hnr']
          exact ⟨_, results_tmp rfl _ _ _, rfl, hr2, face_ext w g _ ((Ext.drew _ _).comp hx1) hx2⟩
      · have Hlen := Lib.hid hlen
        clear hlen
        go_wp2_with fail
        refine leaves_cons (f := 65) (args := #[.pointer (some ⟨w.heap.size, 0, none⟩)]) (by simp) (by simp [go_sem]) ?_
        refine (text1_panicking w1 g w.heap.size r 0 k [] hr1 (boxed w g hg ((Ext.drew _ _).comp hx1))).mono ?_
        rintro e u' w2 ⟨rfl, rfl, hr2, hx2⟩
        rw [rText_err H0.out Hlen.out]
        exact ⟨_, results_tmp rfl _ _ _, rfl, hr2, face_ext w g _ ((Ext.drew _ _).comp hx1) hx2⟩
  · have hb : (s.e == 0) = false := by rw [beq_eq_false_iff_ne]; exact h0
    have H0 := Lib.hid h0
    clear h0
    go_enter_defers Try.func48, Try.ntmps48
    go_wp2_with fail
    refine leaves_cons (f := 65) (args := #[.pointer (some ⟨w.heap.size, 0, none⟩)]) (by simp) (by simp [go_sem]) ?_
    refine (text1_returning _ g w.heap.size (by simp)).mono ?_
    rintro e u' w2 ⟨rfl, rfl, hx2⟩
    rw [rText_skip H0.out]
    exact ⟨_, results_tmp rfl _ _ _, rfl, h1.no hx2, (Ext.alloc _ _ _).comp (hx2.mono (fun _ _ h => h.elim))⟩
end Go.Proofs.Ytpljcnjkdjblmaa
