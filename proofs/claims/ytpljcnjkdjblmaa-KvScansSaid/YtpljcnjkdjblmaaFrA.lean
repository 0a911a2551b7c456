/- Records in a log, in plain terms: of no program. -/
import Derived.Test.YtpljcnjkdjblmaaPlainA
namespace Go.Esc

def poly : Nat := 3988292384
/-- One bit of a sum. -/
def bit (c : Nat) : Nat := c / 2 ^^^ 3988292384 * (c % 2)
def bitN : Nat → Nat → Nat
  | 0, c => c
  | k + 1, c => bit (bitN k c)
def crcB (c : Nat) (b : UInt8) : Nat := bitN 8 (c ^^^ b.toNat)
def crcL (c : Nat) (l : List UInt8) : Nat := l.foldl crcB c
def crc (l : List UInt8) : Nat := 4294967295 - crcL 4294967295 l

theorem bit_lt {c : Nat} (h : c < 4294967296) : bit c < 4294967296 := by
  unfold bit
  refine Nat.xor_lt_two_pow (n := 32) (by omega) ?_
  have : c % 2 ≤ 1 := by omega
  omega
theorem bitN_lt {c : Nat} (h : c < 4294967296) : ∀ k, bitN k c < 4294967296
  | 0 => h
  | k + 1 => bit_lt (bitN_lt h k)
theorem crcB_lt {c : Nat} (h : c < 4294967296) (b : UInt8) : crcB c b < 4294967296 :=
  bitN_lt (Nat.xor_lt_two_pow (n := 32) h (by have := b.toNat_lt; omega)) 8
theorem crcL_lt : ∀ (l : List UInt8) {c : Nat}, c < 4294967296 → crcL c l < 4294967296
  | [], _, h => h
  | b :: l, _, h => crcL_lt l (crcB_lt h b)
theorem crc_lt (l : List UInt8) : crc l < 4294967296 := by unfold crc; omega
theorem crcL_snoc (c : Nat) (l : List UInt8) (b : UInt8) : crcL c (l ++ [b]) = crcB (crcL c l) b := by simp [crcL]
theorem crcL_append (c : Nat) (l m : List UInt8) : crcL c (l ++ m) = crcL (crcL c l) m := by simp [crcL]

theorem bit_even {c : Nat} (h : c % 2 = 0) : bit c = c / 2 := by unfold bit; rw [h]; simp
theorem bit_odd {c : Nat} (h : c % 2 = 1) : bit c = c / 2 ^^^ 3988292384 := by unfold bit; rw [h]

theorem xor_cancel {a b p : Nat} (h : a ^^^ p = b ^^^ p) : a = b := by
  have := congrArg (· ^^^ p) h
  simpa [Nat.xor_assoc] using this
theorem xor_cancel' {a b p : Nat} (h : p ^^^ a = p ^^^ b) : a = b := xor_cancel (p := p) (by rw [Nat.xor_comm a, Nat.xor_comm b]; exact h)

theorem bit_inj {c d : Nat} (hc : c < 4294967296) (hd : d < 4294967296) (h : bit c = bit d) : c = d := by
  have top : ∀ x : Nat, x < 2147483648 → (x ^^^ 3988292384).testBit 31 = true := fun x hx => by
    rw [Nat.testBit_xor, Nat.testBit_lt_two_pow (show x < 2 ^ 31 from hx)]; decide
  rcases Nat.mod_two_eq_zero_or_one c with h1 | h1 <;> rcases Nat.mod_two_eq_zero_or_one d with h2 | h2
  · rw [bit_even h1, bit_even h2] at h; omega
  · rw [bit_even h1, bit_odd h2] at h
    have := top (d / 2) (by omega)
    rw [← h, Nat.testBit_lt_two_pow (show c / 2 < 2 ^ 31 by omega)] at this
    cases this
  · rw [bit_odd h1, bit_even h2] at h
    have := top (c / 2) (by omega)
    rw [h, Nat.testBit_lt_two_pow (show d / 2 < 2 ^ 31 by omega)] at this
    cases this
  · rw [bit_odd h1, bit_odd h2] at h
    have := xor_cancel h
    omega
theorem bitN_inj {c d : Nat} (hc : c < 4294967296) (hd : d < 4294967296) : ∀ k, bitN k c = bitN k d → c = d
  | 0, h => h
  | k + 1, h => bitN_inj hc hd k (bit_inj (bitN_lt hc k) (bitN_lt hd k) h)
theorem crcB_inj {c d : Nat} (hc : c < 4294967296) (hd : d < 4294967296) {b : UInt8} (h : crcB c b = crcB d b) : c = d := by
  have hb : b.toNat < 2 ^ 32 := by have := b.toNat_lt; omega
  exact xor_cancel (bitN_inj (Nat.xor_lt_two_pow (n := 32) hc hb) (Nat.xor_lt_two_pow (n := 32) hd hb) 8 h)
theorem crcB_inj' {c : Nat} (hc : c < 4294967296) {a b : UInt8} (h : crcB c a = crcB c b) : a = b := by
  have ha : a.toNat < 2 ^ 32 := by have := a.toNat_lt; omega
  have hb : b.toNat < 2 ^ 32 := by have := b.toNat_lt; omega
  exact UInt8.toNat_inj.1 (xor_cancel' (bitN_inj (Nat.xor_lt_two_pow (n := 32) hc ha) (Nat.xor_lt_two_pow (n := 32) hc hb) 8 h))
theorem crcL_inj : ∀ (l : List UInt8) {c d : Nat}, c < 4294967296 → d < 4294967296 → crcL c l = crcL d l → c = d
  | [], _, _, _, _, h => h
  | b :: l, _, _, hc, hd, h => crcB_inj hc hd (crcL_inj l (crcB_lt hc b) (crcB_lt hd b) h)
/-- One byte turned: another sum. -/
theorem crc_turn (l m : List UInt8) {a b : UInt8} (h : crc (l ++ a :: m) = crc (l ++ b :: m)) : a = b := by
  have h0 : (4294967295 : Nat) < 4294967296 := by decide
  have e1 : crcL 4294967295 (l ++ a :: m) = crcL 4294967295 (l ++ b :: m) := by
    have h1 := crcL_lt (l ++ a :: m) h0
    have h2 := crcL_lt (l ++ b :: m) h0
    unfold crc at h; omega
  rw [crcL_append, crcL_append] at e1
  have hl := crcL_lt l h0
  exact crcB_inj' hl (crcL_inj m (crcB_lt hl a) (crcB_lt hl b) e1)

/-- Four bytes of a number, and back. -/
def be4 (n : Nat) : List UInt8 := [b8 (n / 16777216), b8 (n / 65536 % 256), b8 (n / 256 % 256), b8 (n % 256)]
def num4 (a b c d : UInt8) : Nat := a.toNat * 16777216 + b.toNat * 65536 + c.toNat * 256 + d.toNat
def rd4 : List UInt8 → Nat
  | a :: b :: c :: d :: _ => num4 a b c d
  | _ => 0
theorem be4_length (n : Nat) : (be4 n).length = 4 := rfl
theorem num4_lt (a b c d : UInt8) : num4 a b c d < 4294967296 := by
  have := a.toNat_lt; have := b.toNat_lt; have := c.toNat_lt; have := d.toNat_lt
  unfold num4; omega
theorem rd4_lt (l : List UInt8) : rd4 l < 4294967296 := by
  unfold rd4; split
  · exact num4_lt _ _ _ _
  · omega
theorem rd4_be4 (n : Nat) (h : n < 4294967296) (r : List UInt8) : rd4 (be4 n ++ r) = n := by
  simp only [be4, rd4, List.cons_append, num4, List.nil_append]
  rw [b8_toNat _ (by omega), b8_toNat _ (by omega), b8_toNat _ (by omega), b8_toNat _ (by omega)]
  omega
theorem rd4_split (l : List UInt8) (h : 4 ≤ l.length) : ∃ a b c d r, l = a :: b :: c :: d :: r := by
  match l, h with
  | a :: b :: c :: d :: r, _ => exact ⟨a, b, c, d, r, rfl⟩
theorem rd4_of (l : List UInt8) (h : 4 ≤ l.length) : rd4 l = num4 l[0] l[1] l[2] l[3] := by
  obtain ⟨a, b, c, d, r, rfl⟩ := rd4_split l h
  rfl
theorem rd4_append (l r : List UInt8) (h : 4 ≤ l.length) : rd4 (l ++ r) = rd4 l := by
  obtain ⟨a, b, c, d, t, rfl⟩ := rd4_split l h
  rfl

def frame (l : List UInt8) : List UInt8 := be4 l.length ++ (be4 (crc l) ++ l)
theorem frame_length (l : List UInt8) : (frame l).length = l.length + 8 := by simp [frame, be4_length]; omega
theorem frame_append (l r : List UInt8) : frame l ++ r = be4 l.length ++ (be4 (crc l) ++ (l ++ r)) := by simp [frame]

/-- The record at the head. -/
def frameAt (r : List UInt8) : Option (List UInt8) :=
  if 8 ≤ r.length ∧ rd4 r ≤ 4194304 ∧ rd4 r ≤ r.length - 8 ∧ crc ((r.drop 8).take (rd4 r)) = rd4 (r.drop 4) then some ((r.drop 8).take (rd4 r)) else none
theorem frameAt_len {r b : List UInt8} (h : frameAt r = some b) : 8 + b.length ≤ r.length := by
  unfold frameAt at h
  split at h
  · rename_i hh
    cases h
    rw [List.length_take, List.length_drop]; omega
  · cases h
theorem frameAt_frame (b r : List UInt8) (h : b.length ≤ 4194304) : frameAt (frame b ++ r) = some b := by
  have h1 : rd4 (frame b ++ r) = b.length := by rw [frame_append]; exact rd4_be4 _ (by omega) _
  have h2 : (frame b ++ r).drop 4 = be4 (crc b) ++ (b ++ r) := by rw [frame_append]; rfl
  have h3 : (frame b ++ r).drop 8 = b ++ r := by rw [show (8 : Nat) = 4 + 4 from rfl, ← List.drop_drop, h2]; rfl
  have h4 : (frame b ++ r).length = b.length + 8 + r.length := by rw [List.length_append, frame_length]
  unfold frameAt
  rw [h1, h2, h3, h4, List.take_left, rd4_be4 _ (crc_lt b), if_pos ⟨by omega, h, by omega, rfl⟩]

def frScan (r : List UInt8) : List (List UInt8) × Nat :=
  match h : frameAt r with
  | none => ([], 0)
  | some b => (b :: (frScan (r.drop (8 + b.length))).1, 8 + b.length + (frScan (r.drop (8 + b.length))).2)
termination_by r.length
decreasing_by all_goals (have := frameAt_len h; simp; omega)
theorem frScan_none {r : List UInt8} (h : frameAt r = none) : frScan r = ([], 0) := by
  rw [frScan]; split
  · rfl
  · rename_i hh; rw [h] at hh; cases hh
theorem frScan_some {r b : List UInt8} (h : frameAt r = some b) : frScan r = (b :: (frScan (r.drop (8 + b.length))).1, 8 + b.length + (frScan (r.drop (8 + b.length))).2) := by
  rw [frScan]; split
  · rename_i hh; rw [h] at hh; cases hh
  · rename_i hh; rw [h] at hh; cases hh; rfl
theorem frScan_frame (b r : List UInt8) (h : b.length ≤ 4194304) : frScan (frame b ++ r) = (b :: (frScan r).1, (frame b).length + (frScan r).2) := by
  have hd : (frame b ++ r).drop (8 + b.length) = r := by rw [show 8 + b.length = (frame b).length from by rw [frame_length]; omega]; exact List.drop_left
  rw [frScan_some (frameAt_frame b r h), hd, frame_length]
  simp [Nat.add_comm 8]
theorem frScan_frames : ∀ (L : List (List UInt8)) (r : List UInt8), (∀ b ∈ L, b.length ≤ 4194304) → frScan (L.flatMap frame ++ r) = (L ++ (frScan r).1, (L.flatMap frame).length + (frScan r).2)
  | [], r, _ => by simp
  | b :: L, r, h => by
    rw [List.flatMap_cons, List.append_assoc, frScan_frame b _ (h b (by simp)), frScan_frames L r (fun x hx => h x (by simp [hx]))]
    simp [Nat.add_assoc]
theorem frScan_short {r : List UInt8} (h : r.length < 8) : frScan r = ([], 0) := frScan_none (by unfold frameAt; rw [if_neg (by omega)])
theorem frScan_le : ∀ (n : Nat) (r : List UInt8), r.length ≤ n → (frScan r).2 ≤ r.length ∧ (frScan r).1.length * 8 ≤ (frScan r).2
  | 0, r, h => by rw [frScan_short (by omega)]; simp
  | n + 1, r, h => by
    cases hf : frameAt r with
    | none => rw [frScan_none hf]; simp
    | some b =>
      have hl := frameAt_len hf
      have ih := frScan_le n (r.drop (8 + b.length)) (by simp; omega)
      rw [frScan_some hf]
      simp at ih ⊢; omega

/-- What bytes say that are just one frame. -/
def one (b : List UInt8) : List UInt8 × Nat :=
  if b.length < 8 then ([], 8) else if 4194304 < rd4 b then ([], 5) else if b.length - 8 < rd4 b then ([], 8) else if rd4 b < b.length - 8 then ([], 9) else if crc (b.drop 8) = rd4 (b.drop 4) then (b.drop 8, 0) else ([], 10)
theorem one_frame (b : List UInt8) (h : b.length ≤ 4194304) : one (frame b) = (b, 0) := by
  have h0 := List.append_nil (frame b)
  have h1 : rd4 (frame b) = b.length := by rw [← h0, frame_append]; exact rd4_be4 _ (by omega) _
  have h2 : (frame b).drop 4 = be4 (crc b) ++ b := by unfold frame; rfl
  have h3 : (frame b).drop 8 = b := by rw [show (8 : Nat) = 4 + 4 from rfl, ← List.drop_drop, h2]; rfl
  unfold one
  rw [frame_length, h1, h2, h3, if_neg (by omega), if_neg (by omega), if_neg (by omega), if_neg (by omega), rd4_be4 _ (crc_lt b), if_pos rfl]

/-- A frame at the head, and what 'one' says of it. -/
theorem frameAt_one {r : List UInt8} (h8 : 8 ≤ r.length) (hm : rd4 r ≤ 4194304) (hl : rd4 r ≤ r.length - 8) :
    frameAt r = (if (one (r.take (8 + rd4 r))).2 = 0 then some (one (r.take (8 + rd4 r))).1 else none) ∧ ((one (r.take (8 + rd4 r))).2 = 0 → (one (r.take (8 + rd4 r))).1.length = rd4 r) := by
  obtain ⟨t, ht⟩ : ∃ t, r.take (8 + rd4 r) = t := ⟨_, rfl⟩
  have hn : t.length = 8 + rd4 r := by rw [← ht, List.length_take]; omega
  have h1 : rd4 t = rd4 r := by
    have := rd4_append t (r.drop (8 + rd4 r)) (by omega)
    rw [← ht, List.take_append_drop] at this
    rw [← ht]; exact this.symm
  have h2 : rd4 (t.drop 4) = rd4 (r.drop 4) := by
    have := rd4_append (t.drop 4) (r.drop (8 + rd4 r)) (by simp; omega)
    rw [← List.drop_append_of_le_length (by omega), ← ht, List.take_append_drop] at this
    rw [← ht]; exact this.symm
  have h3 : t.drop 8 = (r.drop 8).take (rd4 r) := by rw [← ht, List.drop_take]; congr 1; omega
  have ho : one t = if crc ((r.drop 8).take (rd4 r)) = rd4 (r.drop 4) then ((r.drop 8).take (rd4 r), 0) else ([], 10) := by
    unfold one
    rw [h1, h2, h3, hn, if_neg (by omega), if_neg (by omega), if_neg (by omega), if_neg (by omega)]
  rw [ht, ho]
  unfold frameAt
  by_cases hc : crc ((r.drop 8).take (rd4 r)) = rd4 (r.drop 4)
  · rw [if_pos hc, if_pos ⟨h8, hm, hl, hc⟩]
    exact ⟨by simp, fun _ => by simp; omega⟩
  · rw [if_neg hc, if_neg (fun h => hc h.2.2.2)]
    exact ⟨by simp, fun h => by simp at h⟩
end Go.Esc
