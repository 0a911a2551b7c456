/- The texts FrA FrB FrC FrE FrP DkC DkD DkE DkF DkM JoA JoB JoM in one. -/
import Derived.Test.YtpljcnjkdjblmaaKA
import Derived.Laws.BitsAll
import Derived.BigQuiet
import Derived.Deep.DeepCutAuto
import Derived.Outline
import Derived.Test.YtpljcnjkdjblmaaKC
import Derived.Recover
/- Records in a log, in plain terms: of no program. -/
namespace Go.Esc

def poly : Nat := 3988292384
/-- One bit of a sum. -/
def bit (c : Nat) : Nat := c / 2 ^^^ 3988292384 * (c % 2)
def bitN : Nat → Nat → Nat
  | 0, c => c
  | k + 1, c => bit (bitN k c)
def crcB (c : Nat) (b : UInt8) : Nat := bitN 8 (c ^^^ b.toNat)
def crcL (c : Nat) (l : List UInt8) : Nat := l.foldl crcB c
def crc (l : List UInt8) : Nat := 4294967295 - crcL 4294967295 l

theorem bit_lt {c : Nat} (h : c < 4294967296) : bit c < 4294967296 := by
  unfold bit
  refine Nat.xor_lt_two_pow (n := 32) (by omega) ?_
  have : c % 2 ≤ 1 := by omega
  omega
theorem bitN_lt {c : Nat} (h : c < 4294967296) : ∀ k, bitN k c < 4294967296
  | 0 => h
  | k + 1 => bit_lt (bitN_lt h k)
theorem crcB_lt {c : Nat} (h : c < 4294967296) (b : UInt8) : crcB c b < 4294967296 :=
  bitN_lt (Nat.xor_lt_two_pow (n := 32) h (by have := b.toNat_lt; omega)) 8
theorem crcL_lt : ∀ (l : List UInt8) {c : Nat}, c < 4294967296 → crcL c l < 4294967296
  | [], _, h => h
  | b :: l, _, h => crcL_lt l (crcB_lt h b)
theorem crc_lt (l : List UInt8) : crc l < 4294967296 := by unfold crc; omega
theorem crcL_snoc (c : Nat) (l : List UInt8) (b : UInt8) : crcL c (l ++ [b]) = crcB (crcL c l) b := by simp [crcL]
theorem crcL_append (c : Nat) (l m : List UInt8) : crcL c (l ++ m) = crcL (crcL c l) m := by simp [crcL]

theorem bit_even {c : Nat} (h : c % 2 = 0) : bit c = c / 2 := by unfold bit; rw [h]; simp
theorem bit_odd {c : Nat} (h : c % 2 = 1) : bit c = c / 2 ^^^ 3988292384 := by unfold bit; rw [h]

theorem xor_cancel {a b p : Nat} (h : a ^^^ p = b ^^^ p) : a = b := by
  have := congrArg (· ^^^ p) h
  simpa [Nat.xor_assoc] using this
theorem xor_cancel' {a b p : Nat} (h : p ^^^ a = p ^^^ b) : a = b := xor_cancel (p := p) (by rw [Nat.xor_comm a, Nat.xor_comm b]; exact h)

theorem bit_inj {c d : Nat} (hc : c < 4294967296) (hd : d < 4294967296) (h : bit c = bit d) : c = d := by
  have top : ∀ x : Nat, x < 2147483648 → (x ^^^ 3988292384).testBit 31 = true := fun x hx => by
    rw [Nat.testBit_xor, Nat.testBit_lt_two_pow (show x < 2 ^ 31 from hx)]; decide
  rcases Nat.mod_two_eq_zero_or_one c with h1 | h1 <;> rcases Nat.mod_two_eq_zero_or_one d with h2 | h2
  · rw [bit_even h1, bit_even h2] at h; omega
  · rw [bit_even h1, bit_odd h2] at h
    have := top (d / 2) (by omega)
    rw [← h, Nat.testBit_lt_two_pow (show c / 2 < 2 ^ 31 by omega)] at this
    cases this
  · rw [bit_odd h1, bit_even h2] at h
    have := top (c / 2) (by omega)
    rw [h, Nat.testBit_lt_two_pow (show d / 2 < 2 ^ 31 by omega)] at this
    cases this
  · rw [bit_odd h1, bit_odd h2] at h
    have := xor_cancel h
    omega
theorem bitN_inj {c d : Nat} (hc : c < 4294967296) (hd : d < 4294967296) : ∀ k, bitN k c = bitN k d → c = d
  | 0, h => h
  | k + 1, h => bitN_inj hc hd k (bit_inj (bitN_lt hc k) (bitN_lt hd k) h)
theorem crcB_inj {c d : Nat} (hc : c < 4294967296) (hd : d < 4294967296) {b : UInt8} (h : crcB c b = crcB d b) : c = d := by
  have hb : b.toNat < 2 ^ 32 := by have := b.toNat_lt; omega
  exact xor_cancel (bitN_inj (Nat.xor_lt_two_pow (n := 32) hc hb) (Nat.xor_lt_two_pow (n := 32) hd hb) 8 h)
theorem crcB_inj' {c : Nat} (hc : c < 4294967296) {a b : UInt8} (h : crcB c a = crcB c b) : a = b := by
  have ha : a.toNat < 2 ^ 32 := by have := a.toNat_lt; omega
  have hb : b.toNat < 2 ^ 32 := by have := b.toNat_lt; omega
  exact UInt8.toNat_inj.1 (xor_cancel' (bitN_inj (Nat.xor_lt_two_pow (n := 32) hc ha) (Nat.xor_lt_two_pow (n := 32) hc hb) 8 h))
theorem crcL_inj : ∀ (l : List UInt8) {c d : Nat}, c < 4294967296 → d < 4294967296 → crcL c l = crcL d l → c = d
  | [], _, _, _, _, h => h
  | b :: l, _, _, hc, hd, h => crcB_inj hc hd (crcL_inj l (crcB_lt hc b) (crcB_lt hd b) h)
/-- One byte turned: another sum. -/
theorem crc_turn (l m : List UInt8) {a b : UInt8} (h : crc (l ++ a :: m) = crc (l ++ b :: m)) : a = b := by
  have h0 : (4294967295 : Nat) < 4294967296 := by decide
  have e1 : crcL 4294967295 (l ++ a :: m) = crcL 4294967295 (l ++ b :: m) := by
    have h1 := crcL_lt (l ++ a :: m) h0
    have h2 := crcL_lt (l ++ b :: m) h0
    unfold crc at h; omega
  rw [crcL_append, crcL_append] at e1
  have hl := crcL_lt l h0
  exact crcB_inj' hl (crcL_inj m (crcB_lt hl a) (crcB_lt hl b) e1)

/-- Four bytes of a number, and back. -/
def be4 (n : Nat) : List UInt8 := [b8 (n / 16777216), b8 (n / 65536 % 256), b8 (n / 256 % 256), b8 (n % 256)]
def num4 (a b c d : UInt8) : Nat := a.toNat * 16777216 + b.toNat * 65536 + c.toNat * 256 + d.toNat
def rd4 : List UInt8 → Nat
  | a :: b :: c :: d :: _ => num4 a b c d
  | _ => 0
theorem be4_length (n : Nat) : (be4 n).length = 4 := rfl
theorem num4_lt (a b c d : UInt8) : num4 a b c d < 4294967296 := by
  have := a.toNat_lt; have := b.toNat_lt; have := c.toNat_lt; have := d.toNat_lt
  unfold num4; omega
theorem rd4_lt (l : List UInt8) : rd4 l < 4294967296 := by
  unfold rd4; split
  · exact num4_lt _ _ _ _
  · omega
theorem rd4_be4 (n : Nat) (h : n < 4294967296) (r : List UInt8) : rd4 (be4 n ++ r) = n := by
  simp only [be4, rd4, List.cons_append, num4, List.nil_append]
  rw [b8_toNat _ (by omega), b8_toNat _ (by omega), b8_toNat _ (by omega), b8_toNat _ (by omega)]
  omega
theorem rd4_split (l : List UInt8) (h : 4 ≤ l.length) : ∃ a b c d r, l = a :: b :: c :: d :: r := by
  match l, h with
  | a :: b :: c :: d :: r, _ => exact ⟨a, b, c, d, r, rfl⟩
theorem rd4_of (l : List UInt8) (h : 4 ≤ l.length) : rd4 l = num4 l[0] l[1] l[2] l[3] := by
  obtain ⟨a, b, c, d, r, rfl⟩ := rd4_split l h
  rfl
theorem rd4_append (l r : List UInt8) (h : 4 ≤ l.length) : rd4 (l ++ r) = rd4 l := by
  obtain ⟨a, b, c, d, t, rfl⟩ := rd4_split l h
  rfl

def frame (l : List UInt8) : List UInt8 := be4 l.length ++ (be4 (crc l) ++ l)
theorem frame_length (l : List UInt8) : (frame l).length = l.length + 8 := by simp [frame, be4_length]; omega
theorem frame_append (l r : List UInt8) : frame l ++ r = be4 l.length ++ (be4 (crc l) ++ (l ++ r)) := by simp [frame]

/-- The record at the head. -/
def frameAt (r : List UInt8) : Option (List UInt8) :=
  if 8 ≤ r.length ∧ rd4 r ≤ 4194304 ∧ rd4 r ≤ r.length - 8 ∧ crc ((r.drop 8).take (rd4 r)) = rd4 (r.drop 4) then some ((r.drop 8).take (rd4 r)) else none
theorem frameAt_len {r b : List UInt8} (h : frameAt r = some b) : 8 + b.length ≤ r.length := by
  unfold frameAt at h
  split at h
  · rename_i hh
    cases h
    rw [List.length_take, List.length_drop]; omega
  · cases h
theorem frameAt_frame (b r : List UInt8) (h : b.length ≤ 4194304) : frameAt (frame b ++ r) = some b := by
  have h1 : rd4 (frame b ++ r) = b.length := by rw [frame_append]; exact rd4_be4 _ (by omega) _
  have h2 : (frame b ++ r).drop 4 = be4 (crc b) ++ (b ++ r) := by rw [frame_append]; rfl
  have h3 : (frame b ++ r).drop 8 = b ++ r := by rw [show (8 : Nat) = 4 + 4 from rfl, ← List.drop_drop, h2]; rfl
  have h4 : (frame b ++ r).length = b.length + 8 + r.length := by rw [List.length_append, frame_length]
  unfold frameAt
  rw [h1, h2, h3, h4, List.take_left, rd4_be4 _ (crc_lt b), if_pos ⟨by omega, h, by omega, rfl⟩]

def frScan (r : List UInt8) : List (List UInt8) × Nat :=
  match h : frameAt r with
  | none => ([], 0)
  | some b => (b :: (frScan (r.drop (8 + b.length))).1, 8 + b.length + (frScan (r.drop (8 + b.length))).2)
termination_by r.length
decreasing_by all_goals (have := frameAt_len h; simp; omega)
theorem frScan_none {r : List UInt8} (h : frameAt r = none) : frScan r = ([], 0) := by
  rw [frScan]; split
  · rfl
  · rename_i hh; rw [h] at hh; cases hh
theorem frScan_some {r b : List UInt8} (h : frameAt r = some b) : frScan r = (b :: (frScan (r.drop (8 + b.length))).1, 8 + b.length + (frScan (r.drop (8 + b.length))).2) := by
  rw [frScan]; split
  · rename_i hh; rw [h] at hh; cases hh
  · rename_i hh; rw [h] at hh; cases hh; rfl
theorem frScan_frame (b r : List UInt8) (h : b.length ≤ 4194304) : frScan (frame b ++ r) = (b :: (frScan r).1, (frame b).length + (frScan r).2) := by
  have hd : (frame b ++ r).drop (8 + b.length) = r := by rw [show 8 + b.length = (frame b).length from by rw [frame_length]; omega]; exact List.drop_left
  rw [frScan_some (frameAt_frame b r h), hd, frame_length]
  simp [Nat.add_comm 8]
theorem frScan_frames : ∀ (L : List (List UInt8)) (r : List UInt8), (∀ b ∈ L, b.length ≤ 4194304) → frScan (L.flatMap frame ++ r) = (L ++ (frScan r).1, (L.flatMap frame).length + (frScan r).2)
  | [], r, _ => by simp
  | b :: L, r, h => by
    rw [List.flatMap_cons, List.append_assoc, frScan_frame b _ (h b (by simp)), frScan_frames L r (fun x hx => h x (by simp [hx]))]
    simp [Nat.add_assoc]
theorem frScan_short {r : List UInt8} (h : r.length < 8) : frScan r = ([], 0) := frScan_none (by unfold frameAt; rw [if_neg (by omega)])
theorem frScan_le : ∀ (n : Nat) (r : List UInt8), r.length ≤ n → (frScan r).2 ≤ r.length ∧ (frScan r).1.length * 8 ≤ (frScan r).2
  | 0, r, h => by rw [frScan_short (by omega)]; simp
  | n + 1, r, h => by
    cases hf : frameAt r with
    | none => rw [frScan_none hf]; simp
    | some b =>
      have hl := frameAt_len hf
      have ih := frScan_le n (r.drop (8 + b.length)) (by simp; omega)
      rw [frScan_some hf]
      simp at ih ⊢; omega

/-- What bytes say that are just one frame. -/
def one (b : List UInt8) : List UInt8 × Nat :=
  if b.length < 8 then ([], 8) else if 4194304 < rd4 b then ([], 5) else if b.length - 8 < rd4 b then ([], 8) else if rd4 b < b.length - 8 then ([], 9) else if crc (b.drop 8) = rd4 (b.drop 4) then (b.drop 8, 0) else ([], 10)
theorem one_frame (b : List UInt8) (h : b.length ≤ 4194304) : one (frame b) = (b, 0) := by
  have h0 := List.append_nil (frame b)
  have h1 : rd4 (frame b) = b.length := by rw [← h0, frame_append]; exact rd4_be4 _ (by omega) _
  have h2 : (frame b).drop 4 = be4 (crc b) ++ b := by unfold frame; rfl
  have h3 : (frame b).drop 8 = b := by rw [show (8 : Nat) = 4 + 4 from rfl, ← List.drop_drop, h2]; rfl
  unfold one
  rw [frame_length, h1, h2, h3, if_neg (by omega), if_neg (by omega), if_neg (by omega), if_neg (by omega), rd4_be4 _ (crc_lt b), if_pos rfl]

/-- A frame at the head, and what 'one' says of it. -/
theorem frameAt_one {r : List UInt8} (h8 : 8 ≤ r.length) (hm : rd4 r ≤ 4194304) (hl : rd4 r ≤ r.length - 8) :
    frameAt r = (if (one (r.take (8 + rd4 r))).2 = 0 then some (one (r.take (8 + rd4 r))).1 else none) ∧ ((one (r.take (8 + rd4 r))).2 = 0 → (one (r.take (8 + rd4 r))).1.length = rd4 r) := by
  obtain ⟨t, ht⟩ : ∃ t, r.take (8 + rd4 r) = t := ⟨_, rfl⟩
  have hn : t.length = 8 + rd4 r := by rw [← ht, List.length_take]; omega
  have h1 : rd4 t = rd4 r := by
    have := rd4_append t (r.drop (8 + rd4 r)) (by omega)
    rw [← ht, List.take_append_drop] at this
    rw [← ht]; exact this.symm
  have h2 : rd4 (t.drop 4) = rd4 (r.drop 4) := by
    have := rd4_append (t.drop 4) (r.drop (8 + rd4 r)) (by simp; omega)
    rw [← List.drop_append_of_le_length (by omega), ← ht, List.take_append_drop] at this
    rw [← ht]; exact this.symm
  have h3 : t.drop 8 = (r.drop 8).take (rd4 r) := by rw [← ht, List.drop_take]; congr 1; omega
  have ho : one t = if crc ((r.drop 8).take (rd4 r)) = rd4 (r.drop 4) then ((r.drop 8).take (rd4 r), 0) else ([], 10) := by
    unfold one
    rw [h1, h2, h3, hn, if_neg (by omega), if_neg (by omega), if_neg (by omega), if_neg (by omega)]
  rw [ht, ho]
  unfold frameAt
  by_cases hc : crc ((r.drop 8).take (rd4 r)) = rd4 (r.drop 4)
  · rw [if_pos hc, if_pos ⟨h8, hm, hl, hc⟩]
    exact ⟨by simp, fun _ => by simp; omega⟩
  · rw [if_neg hc, if_neg (fun h => hc h.2.2.2)]
    exact ⟨by simp, fun h => by simp at h⟩
end Go.Esc

/- Walks of the package frames: Crc, four, number. -/
namespace Go.Proofs.Ytpljcnjkdjblmaa
open Go.RowKit Go.Esc

theorem wraps_u32 (n : Int) (h₀ : 0 ≤ n) (h₁ : n < 2 ^ 32) : IntKind.u32.wrap n = n := by rw [IntKind.wrap_u32']; omega
theorem xor_ones32 (x : Nat) (h : x < 4294967296) : bits .xor .u32 IntKind.u32.max (x : Int) = ((4294967295 - x : Nat) : Int) := by
  have h0 : IntKind.u32.max = ((4294967295 : Nat) : Int) := rfl
  rw [h0, u32_xor_nat _ _ (by omega) h]
  congr 1
  have h2 : (BitVec.allOnes 32 ^^^ BitVec.ofNat 32 x).toNat = 4294967295 - x := by
    rw [BitVec.allOnes_xor, BitVec.toNat_not, BitVec.toNat_ofNat]
    omega
  rw [BitVec.toNat_xor, BitVec.toNat_ofNat, Nat.mod_eq_of_lt h] at h2
  exact h2
theorem or_num4 (x y z t : UInt8) : bits .or .u32 (bits .or .u32 (bits .or .u32 ((x.toNat : Int) * 16777216) ((y.toNat : Int) * 65536)) ((z.toNat : Int) * 256)) (t.toNat : Int) = ((num4 x y z t : Nat) : Int) := by
  have bx := x.toNat_lt
  have bY := y.toNat_lt
  have bz := z.toNat_lt
  have bt := t.toNat_lt
  have e1 := bits_join .u32 32 (by decide) wraps_u32 24 ((x.toNat : Int) * 16777216) ((y.toNat : Int) * 65536) (by omega) (by first | omega | (simp; omega)) (by first | (simp; omega) | simp) (by omega) (by first | omega | (simp; omega)) (by first | omega | (simp; omega))
  have e2 := bits_join .u32 32 (by decide) wraps_u32 16 ((x.toNat : Int) * 16777216 + (y.toNat : Int) * 65536) ((z.toNat : Int) * 256) (by omega) (by first | omega | (simp; omega)) (by first | (simp; omega) | simp) (by omega) (by first | omega | (simp; omega)) (by first | omega | (simp; omega))
  have e3 := bits_join .u32 32 (by decide) wraps_u32 8 ((x.toNat : Int) * 16777216 + (y.toNat : Int) * 65536 + (z.toNat : Int) * 256) (t.toNat : Int) (by omega) (by first | omega | (simp; omega)) (by first | (simp; omega) | simp) (by omega) (by first | omega | (simp; omega)) (by first | omega | (simp; omega))
  rw [e1, e2, e3]
  unfold num4
  omega

set_option maxHeartbeats 400000 in
theorem fcrc_any (w : World) (a : Option Addr) (c : Nat) (l : List UInt8) (hrd : Rd w a (bs l)) (hl : l.length ≤ 1099511627776) :
    Calls Try.prog 59 #[.slice a l.length c] w fun e w' => e = .returned (.int .u32 (crc l)) ∧ w = w' := by
  go_enter Try.func59, Try.ntmps59
  go_wp2_with fail
  go_loop [3, 8] (fun s3 s8 => ∃ (k v : Nat), k ≤ l.length ∧ s8 = .int .i64 k ∧ s3 = .int .u32 v ∧ v < 4294967296 ∧ v = crcL 4294967295 (l.take k)) (fun _ s8 => l.length - (intOf s8).toNat)
  case atStart => exact ⟨0, 4294967295, Nat.zero_le _, rfl, rfl, by omega, by simp [crcL]⟩
  case round =>
    obtain ⟨k, v, hk, rfl, rfl, hv, hcr⟩ := hrel
    have Hcr := Lib.hid hcr
    clear hcr
    by_cases hlt : k < l.length
    · obtain ⟨ad, rfl, _⟩ := hrd.ne (by simp; omega)
      have hcell := hrd.cell k (by simpa using hlt)
      rw [show (bs l)[k]'(by simpa using hlt) = .int .u8 l[k].toNat from by simp [bs, B8]] at hcell
      have hb := l[k].toNat_lt
      have hxl : v ^^^ l[k].toNat < 4294967296 := Nat.xor_lt_two_pow (n := 32) hv (by omega)
      have Hst := Lib.hid (show crcL 4294967295 (l.take (k + 1)) = crcB v l[k] by rw [List.take_succ_eq_append_getElem hlt, crcL_snoc, Hcr.out])
      have hx : bits .xor .u32 (v : Int) (l[k].toNat : Int) = ((v ^^^ l[k].toNat : Nat) : Int) := u32_xor_nat _ _ hv (by omega)
      generalize l[k] = b at *
      go_wp2_with fail
      go_loop [3, 16] (fun s3 s16 => ∃ (j u : Nat), j ≤ 8 ∧ s16 = .int .i64 j ∧ s3 = .int .u32 u ∧ u < 4294967296 ∧ u = bitN j (v ^^^ b.toNat)) (fun _ s16 => 8 - (intOf s16).toNat)
      case atStart => exact ⟨0, v ^^^ b.toNat, by omega, rfl, rfl, hxl, rfl⟩
      case round =>
        obtain ⟨j, u, hj, rfl, rfl, hu, hbn⟩ := hrel
        have Hbn := Lib.hid hbn
        clear hbn
        by_cases hlt8 : j < 8
        · have h2 : u % 2 ≤ 1 := by omega
          have hx2 : bits .xor .u32 ((u : Int) / 2) (3988292384 * ((u : Int) % 2)) = ((bit u : Nat) : Int) := by
            have := u32_xor_nat (u / 2) (3988292384 * (u % 2)) (by omega) (by omega)
            unfold bit; simpa using this
          have hand : bits .and .u32 (u : Int) 1 = (u : Int) % 2 := by
            have := u32_and_nat u 1 hu (by omega)
            rw [Nat.and_one_is_mod] at this
            simpa using this
          have hbl := bit_lt hu
          go_wp2_with fail
          go_round
          case rel => exact ⟨j + 1, bit u, by omega, by go_num, rfl, hbl, by rw [Hbn.out]; rfl⟩
          case measure => simp [intOf]; omega
        · obtain rfl : j = 8 := by omega
          go_wp2_with fail
          go_round
          case rel => exact ⟨k + 1, u, by omega, by go_num, rfl, hu, by rw [Hst.out, Hbn.out]; rfl⟩
          case measure => simp [intOf]; omega
    · obtain rfl : k = l.length := by omega
      rw [List.take_length] at Hcr
      have hxo := xor_ones32 v hv
      go_wp2_with fail
      go_ret
      exact ⟨by rw [crc, ← Hcr.out]; rfl, rfl⟩

set_option maxHeartbeats 400000 in
theorem four_any (w : World) (n : Nat) (hn : n < 4294967296) :
    Calls Try.prog 78 #[.int .u32 n] w fun e w' => ∃ a c, e = .returned (.slice a 4 c) ∧ Own w' w.heap.size a 1 4 c (bs (be4 n)) ∧ Ext no w w' := by
  go_enter Try.func78, Try.ntmps78
  go_wp2_with fail
  go_ret
  refine ⟨_, 4, rfl, ?_, Ext.alloc no _ _⟩
  refine Own.fresh w _ _ _ _ _ _ _ _ (Nat.le_refl _) (by simp [be4_length]) (Nat.le_refl _) (by unfold maxLen; omega) rfl ?_ (.inl (Nat.le_refl _))
  simp only [be4, bs, List.map_cons, List.map_nil, B8_b8 (n / 16777216) (by omega), B8_b8 (n / 65536 % 256) (by omega), B8_b8 (n / 256 % 256) (by omega), B8_b8 (n % 256) (by omega)]
  simp

set_option maxHeartbeats 400000 in
theorem fnum_any (w : World) (a : Option Addr) (c : Nat) (l : List UInt8) (hrd : Rd w a (bs l)) (h4 : 4 ≤ l.length) (hl : l.length ≤ 1099511627776) :
    Calls Try.prog 58 #[.slice a l.length c] w fun e w' => e = .returned (.int .u32 (rd4 l)) ∧ ∃ n, w' = w.drewN n := by
  obtain ⟨b, off, rfl, _⟩ := hrd.shape (by simp; omega)
  obtain ⟨x, y, z, t, r, hs⟩ := rd4_split l h4
  have hc0 := hrd.lookup 0 (by simp; omega)
  have hc1 := hrd.lookup 1 (by simp; omega)
  have hc2 := hrd.lookup 2 (by simp; omega)
  have hc3 := hrd.lookup 3 (by simp; omega)
  simp only [hs, bs, B8, List.map_cons, List.getElem_cons_zero, List.getElem_cons_succ] at hc0 hc1 hc2 hc3
  rw [Nat.add_zero] at hc0
  have hrd4 : rd4 l = num4 x y z t := by rw [hs]; rfl
  have i0 : (0 : Int) < l.length := by omega
  have i1 : (1 : Int) < l.length := by omega
  have i2 : (2 : Int) < l.length := by omega
  have i3 : (3 : Int) < l.length := by omega
  have bx := x.toNat_lt
  have bY := y.toNat_lt
  have bz := z.toNat_lt
  have bt := t.toNat_lt
  rw [hrd4]
  clear hs hrd4
  go_enter Try.func58, Try.ntmps58
  go_upto_region 1 with fail
  go_quiet (fail)
  go_wp2_with fail
  rw [or_num4]
  go_ret
  exact ⟨rfl, _, rfl⟩

theorem fcrc_q (w : World) (n : Nat) (a : Option Addr) (m c : Nat) (l : List UInt8) (hm : m = l.length) (hrd : Rd w a (bs l)) (hl : l.length ≤ 1099511627776) :
    Calls Try.prog 59 #[.slice a m c] (w.drewN n) fun e w' => e = .returned (.int .u32 (crc l)) ∧ ∃ m, w' = w.drewN m := by
  subst hm
  exact (fcrc_any _ a c l (hrd.drewN n) hl).mono fun e w' ⟨he, hw⟩ => ⟨he, n, hw.symm⟩
theorem fnum_q (w : World) (n : Nat) (a : Option Addr) (m c : Nat) (l : List UInt8) (hm : m = l.length) (hrd : Rd w a (bs l)) (h4 : 4 ≤ l.length) (hl : l.length ≤ 1099511627776) :
    Calls Try.prog 58 #[.slice a m c] (w.drewN n) fun e w' => e = .returned (.int .u32 (rd4 l)) ∧ ∃ m, w' = w.drewN m := by
  subst hm
  exact Calls.quiet_of (fnum_any _ a c l (hrd.drewN n) h4 hl)
end Go.Proofs.Ytpljcnjkdjblmaa

/- Walks of the package frames: Frame, One. -/
namespace Go.Proofs.Ytpljcnjkdjblmaa
open Go.RowKit Go.Esc

set_option maxHeartbeats 400000 in
theorem fframe_any (w : World) (a : Option Addr) (c : Nat) (l : List UInt8) (hrd : Rd w a (bs l)) (hl : l.length ≤ 4194304) :
    Calls Try.prog 68 #[.slice a l.length c] w fun e w' => ∃ a' c', e = .returned (.tuple #[.slice a' (frame l).length c', .int .i64 0]) ∧ Own w' w.heap.size a' 1 (frame l).length c' (bs (frame l)) ∧ Ext no w w' := by
  have hlt := crc_lt l
  go_enter Try.func68, Try.ntmps68
  go_wp2_with fail
  refine (four_any w l.length (by omega)).mono ?_
  rintro e w1 ⟨a1, c1, rfl, hown1, hext1⟩
  go_wp2_with fail
  refine (fcrc_any w1 a c l (hrd.ext hext1 (fun _ _ h => h)) (by omega)).mono ?_
  rintro e w2 ⟨rfl, rfl⟩
  go_wp2_with fail
  refine (four_any w1 (crc l) hlt).mono ?_
  rintro e w2 ⟨a2, c2, rfl, hown2, hext2⟩
  go_wp2_with fail
  have hfl : flat [⟨a1, be4 l.length, c1⟩, ⟨a2, be4 (crc l), c2⟩, ⟨a, l, c⟩] = frame l := by simp [flat, frame]
  have hfn := frame_length l
  refine (concat_any _ _ 3 [⟨a1, be4 l.length, c1⟩, ⟨a2, be4 (crc l), c2⟩, ⟨a, l, c⟩] (by simp) (Rd.lit w2 _ _ _) ?_ ?_).mono ?_
  · intro p hp
    simp only [List.mem_cons, List.not_mem_nil, or_false] at hp
    rcases hp with rfl | rfl | rfl
    · exact (hown1.rd.ext hext2 (fun _ _ h => h)).alloc _
    · exact hown2.rd.alloc _
    · exact (hrd.ext (hext1.comp hext2) (fun _ _ h => h)).alloc _
  · rw [hfl]; omega
  · rintro e w3 ⟨a3, c3, rfl, hown3, hext3⟩
    rw [hfl] at hown3 ⊢
    clear hfl hfn
    go_wp2_with fail
    go_ret2
    exact ⟨a3, c3, rfl, hown3.mono (by have := hext1.size; have := hext2.size; simp; omega), ((hext1.comp hext2).comp (Ext.alloc no _ _)).comp hext3⟩

set_option maxHeartbeats 400000 in
theorem fone_new (w : World) (a : Option Addr) (c : Nat) (l : List UInt8) (hrd : Rd w a (bs l)) (hl : l.length ≤ 1099511627776) (hlc : l.length ≤ c) :
    Calls Try.prog 43 #[.slice a l.length c] w fun e w' => ∃ a' c', e = .returned (.tuple #[.slice a' (one l).1.length c', .int .i64 (one l).2]) ∧ Rd w' a' (bs (one l).1) ∧ (∀ ad, a' = some ad → w.heap.size ≤ ad.block) ∧ Ext no w w' := by
  by_cases h8 : l.length < 8
  · have ho : one l = ([], 8) := by unfold one; rw [if_pos h8]
    rw [ho]
    clear ho
    go_enter Try.func43, Try.ntmps43
    go_wp2_with fail
    go_ret2
    exact ⟨none, 0, rfl, Rd.nil _ _, (fun _ h => by cases h), Ext.refl _ _⟩
  · have hrest : Rd w (cutAt a c 8 1) (bs (l.drop 8)) := by
      have := hrd.cut c 8 1 (fun _ => by simp; omega)
      rw [bs_drop] at this; exact this
    have hsum : Rd w (cutAt a c 4 1) (bs (l.drop 4)) := by
      have := hrd.cut c 4 1 (fun _ => by simp; omega)
      rw [bs_drop] at this; exact this
    have cut8 : ∀ w, (Instr.sliceAt 37 (.slice a l.length c) (some (.int .i64 8)) none none).run Try.prog w = .ok (.slice (cutAt a c 8 1) (l.length - 8) (c - 8)) w := fun w => run_cut_l TBytes w a l.length c .i64 8 (by omega)
    have cut4 : ∀ w, (Instr.sliceAt 37 (.slice a l.length c) (some (.int .i64 4)) none none).run Try.prog w = .ok (.slice (cutAt a c 4 1) (l.length - 4) (c - 4)) w := fun w => run_cut_l TBytes w a l.length c .i64 4 (by omega)
    have hn := rd4_lt l
    have hs := rd4_lt (l.drop 4)
    have hc := crc_lt (l.drop 8)
    obtain ⟨o, ho⟩ : ∃ o, o = one l := ⟨_, rfl⟩
    rw [← ho]
    have Ho := Lib.hid ho
    clear ho
    go_enter Try.func43, Try.ntmps43
    go_upto_region 3 with fail
    go_quiet ((go_at_call 58; exact fnum_q w _ a _ c l rfl hrd (by omega) hl))
    generalize cutAt a c 8 1 = a8 at *
    have hx1 := Ext.drewN no w nq
    have hrest1 := hrest.drewN nq
    have hsum1 := hsum.drewN nq
    clear cut8 hrest hsum
    generalize w.drewN nq = w1 at *
    by_cases h1 : 4194304 < rd4 l
    · have Hoo := Lib.hid (show one l = ([], 5) by unfold one; rw [if_neg h8, if_pos h1])
      go_wp2_with fail
      go_ret2
      rw [Ho.out, Hoo.out]
      exact ⟨none, 0, rfl, Rd.nil _ _, (fun _ h => by cases h), hx1⟩
    by_cases h2 : l.length - 8 < rd4 l
    · have Hoo := Lib.hid (show one l = ([], 8) by unfold one; rw [if_neg h8, if_neg h1, if_pos h2])
      go_wp2_with fail
      go_ret2
      rw [Ho.out, Hoo.out]
      exact ⟨none, 0, rfl, Rd.nil _ _, (fun _ h => by cases h), hx1⟩
    by_cases h3 : rd4 l < l.length - 8
    · have Hoo := Lib.hid (show one l = ([], 9) by unfold one; rw [if_neg h8, if_neg h1, if_neg h2, if_pos h3])
      go_wp2_with fail
      go_ret2
      rw [Ho.out, Hoo.out]
      exact ⟨none, 0, rfl, Rd.nil _ _, (fun _ h => by cases h), hx1⟩
    have hl8 : (l.drop 8).length ≤ 1099511627776 := by simp; omega
    have hl4 : (l.drop 4).length ≤ 1099511627776 := by simp; omega
    have hl44 : 4 ≤ (l.drop 4).length := by simp; omega
    have Hoo := Lib.hid (show one l = if crc (l.drop 8) = rd4 (l.drop 4) then (l.drop 8, 0) else ([], 10) by unfold one; rw [if_neg h8, if_neg h1, if_neg h2, if_neg h3])
    go_upto_region 10 with fail
    go_quiet (first | (go_at_call 58; exact fnum_q _ _ _ _ _ (l.drop 4) (by simp) hsum1 hl44 hl4) | (go_at_call 59; exact fcrc_q _ _ _ _ _ (l.drop 8) (by simp) hrest1 hl8))
    have hx2 := hx1.comp (Ext.drewN no w1 nq)
    have hrest2 := hrest1.drewN nq
    generalize w1.drewN nq = w2 at *
    by_cases hq : crc (l.drop 8) = rd4 (l.drop 4)
    · have hb : ((crc (l.drop 8) : Int) != (rd4 (l.drop 4) : Int)) = false := by simp [hq]
      rw [if_pos hq] at Hoo
      clear hq
      go_wp2_with fail
      rw [show l.length - 8 = (l.drop 8).length from by simp]
      refine (clone_any w2 a8 (c - 8) (l.drop 8) hrest2 (by omega)).mono ?_
      rintro e w3 ⟨a3, c3, rfl, hown3, hx3⟩
      go_wp2_with fail
      go_ret2
      rw [Ho.out, Hoo.out]
      exact ⟨a3, c3, by rw [List.length_drop]; rfl, hown3.rd, (fun ad h => Nat.le_trans hx2.size (hown3.base ad h).1), hx2.comp hx3⟩
    · have hb : ((crc (l.drop 8) : Int) != (rd4 (l.drop 4) : Int)) = true := by simp; omega
      rw [if_neg hq] at Hoo
      clear hq
      go_wp2_with fail
      go_ret2
      rw [Ho.out, Hoo.out]
      exact ⟨none, 0, rfl, Rd.nil _ _, (fun _ h => by cases h), hx2⟩
theorem fone_any (w : World) (a : Option Addr) (c : Nat) (l : List UInt8) (hrd : Rd w a (bs l)) (hl : l.length ≤ 1099511627776) (hlc : l.length ≤ c) :
    Calls Try.prog 43 #[.slice a l.length c] w fun e w' => ∃ a' c', e = .returned (.tuple #[.slice a' (one l).1.length c', .int .i64 (one l).2]) ∧ Rd w' a' (bs (one l).1) ∧ Ext no w w' :=
  (fone_new w a c l hrd hl hlc).mono fun _ _ ⟨a', c', h1, h2, _, h4⟩ => ⟨a', c', h1, h2, h4⟩
end Go.Proofs.Ytpljcnjkdjblmaa

/- Rows of rows; the walk of the package frames: Scan. -/
namespace Go.Proofs.Ytpljcnjkdjblmaa
open Go.RowKit Go.Esc

theorem TRows : SlT Try.prog 75 37 (.slice none 0 0) 1 24 := ⟨Try.underlying75, by kernel_rfl, rfl, by decide⟩

/-- The rows at a. -/
def Lists (w : World) (a : Option Addr) (L : List (List UInt8)) : Prop := ∃ ps : List Part, ps.map Part.l = L ∧ Rd w a (ps.map Part.v) ∧ ∀ p ∈ ps, Rd w p.a (bs p.l)
theorem Lists.ext {w w' : World} {a : Option Addr} {L : List (List UInt8)} (h : Lists w a L) (hx : Ext no w w') : Lists w' a L := by
  obtain ⟨ps, h1, h2, h3⟩ := h
  exact ⟨ps, h1, h2.ext hx (fun _ _ h => h), fun p hp => (h3 p hp).ext hx (fun _ _ h => h)⟩

/-- .. they and what they hold lie in blocks from B on. -/
def ListsN (w : World) (B : Nat) (a : Option Addr) (L : List (List UInt8)) : Prop := ∃ ps : List Part, ps.map Part.l = L ∧ Rd w a (ps.map Part.v) ∧ (∀ p ∈ ps, Rd w p.a (bs p.l)) ∧ (∀ ad, a = some ad → B ≤ ad.block) ∧ ∀ p ∈ ps, p.l ≠ [] → ∀ ad, p.a = some ad → B ≤ ad.block
theorem ListsN.lists {w : World} {B : Nat} {a : Option Addr} {L : List (List UInt8)} (h : ListsN w B a L) : Lists w a L := by
  obtain ⟨ps, h1, h2, h3, _⟩ := h
  exact ⟨ps, h1, h2, h3⟩
theorem ListsN.ext {S : Nat → Prop} {w w' : World} {B : Nat} {a : Option Addr} {L : List (List UInt8)} (h : ListsN w B a L) (hx : Ext S w w') (hS : ∀ k, S k → k < B) : ListsN w' B a L := by
  obtain ⟨ps, h1, h2, h3, h4, h5⟩ := h
  refine ⟨ps, h1, h2.ext hx (fun ad ha hs => by have := h4 ad ha; have := hS _ hs; omega), fun p hp => ?_, h4, h5⟩
  by_cases he : p.l = []
  · rw [he]; exact Rd.nil _ _
  · exact (h3 p hp).ext hx (fun ad ha hs => by have := h5 p hp he ad ha; have := hS _ hs; omega)
theorem ListsN.mono {w : World} {B B' : Nat} {a : Option Addr} {L : List (List UInt8)} (h : ListsN w B a L) (hB : B' ≤ B) : ListsN w B' a L := by
  obtain ⟨ps, h1, h2, h3, h4, h5⟩ := h
  exact ⟨ps, h1, h2, h3, fun ad ha => Nat.le_trans hB (h4 ad ha), fun p hp he ad ha => Nat.le_trans hB (h5 p hp he ad ha)⟩
def ScanNew (w : World) (l : List UInt8) (e : Ending) (w' : World) : Prop := ∃ a' c', e = .returned (.tuple #[.slice a' (frScan l).1.length c', .int .i64 (frScan l).2]) ∧ ListsN w' w.heap.size a' (frScan l).1 ∧ Ext no w w'
/-- What a frScan leaves. -/
def ScanEnd (w : World) (l : List UInt8) (e : Ending) (w' : World) : Prop := ∃ a' c', e = .returned (.tuple #[.slice a' (frScan l).1.length c', .int .i64 (frScan l).2]) ∧ Lists w' a' (frScan l).1 ∧ Ext no w w'

/-- How a frScan stands. -/
structure Scans (w0 : World) (l : List UInt8) (ps : List Part) (n : Nat) (v : Option Addr) (cv : Nat) (wr : World) : Prop where
  le : n ≤ l.length
  own : Own wr w0.heap.size v 1 ps.length cv (ps.map Part.v)
  rows : ∀ p ∈ ps, Rd wr p.a (bs p.l)
  is : frScan l = (ps.map Part.l ++ (frScan (l.drop n)).1, n + (frScan (l.drop n)).2)
  few : ps.length * 8 ≤ n
  sep : ∀ p ∈ ps, p.l ≠ [] → ∀ ad, p.a = some ad → ¬ blk v ad.block
  new : ∀ p ∈ ps, p.l ≠ [] → ∀ ad, p.a = some ad → w0.heap.size ≤ ad.block
  ext : Ext no w0 wr

theorem Scans.start (w : World) (l : List UInt8) : Scans w l [] 0 none 0 w := ⟨Nat.zero_le _, Own.nil _ _ _, by simp, by simp, by simp, by simp, by simp, Ext.refl _ _⟩
theorem Scans.on {w0 wr w1 : World} {l : List UInt8} {ps : List Part} {n cv : Nat} {v : Option Addr} (h : Scans w0 l ps n v cv wr) (hx : Ext no wr w1) : Scans w0 l ps n v cv w1 :=
  ⟨h.le, h.own.ext hx (fun _ _ h => h), fun p hp => (h.rows p hp).ext hx (fun _ _ h => h), h.is, h.few, h.sep, h.new, h.ext.comp hx⟩
theorem Scans.stop {w0 wr : World} {l : List UInt8} {ps : List Part} {n cv : Nat} {v : Option Addr} (h : Scans w0 l ps n v cv wr) (hf : frameAt (l.drop n) = none) :
    ListsN wr w0.heap.size v (frScan l).1 ∧ ps.length = (frScan l).1.length ∧ n = (frScan l).2 := by
  have := h.is
  rw [frScan_none hf] at this
  rw [this]
  exact ⟨⟨ps, by simp, h.own.rd, h.rows, fun ad ha => (h.own.base ad ha).1, h.new⟩, by simp, by simp⟩
theorem Scans.step {w0 wr w1 : World} {l : List UInt8} {ps : List Part} {n cv : Nat} {v : Option Addr} (h : Scans w0 l ps n v cv wr) {p : Part} (hp : Rd wr p.a (bs p.l)) (hf : frameAt (l.drop n) = some p.l) (hnew : p.l ≠ [] → ∀ ad, p.a = some ad → ¬ blk v ad.block) (hfr : p.l ≠ [] → ∀ ad, p.a = some ad → w0.heap.size ≤ ad.block)
    {v' : Option Addr} {c' : Nat} {ti : TypeId} {fr : Nat × Nat} (happ : App (wr.alloc (.cells #[p.v] ti fr)) w1 w0.heap.size 1 v ps.length cv (ps.map Part.v) v' c' 1 [p.v]) :
    Scans w0 l (ps ++ [p]) (n + (8 + p.l.length)) v' c' w1 := by
  have hl := frameAt_len hf
  rw [List.length_drop] at hl
  have hle := h.le
  have hx : Ext (blk v) wr w1 := (Ext.alloc _ _ _).comp happ.ext
  have hb := h.own.below hx h.ext.size
  have hno : Ext no w0 w1 := Ext.ofBelow (h.ext.belowAll.trans hb) (Nat.le_refl _)
  have hall : ∀ q ∈ ps ++ [p], Rd wr q.a (bs q.l) ∧ (q.l ≠ [] → ∀ ad, q.a = some ad → ¬ blk v ad.block) := by
    intro q hq
    rw [List.mem_append, List.mem_singleton] at hq
    rcases hq with hq | rfl
    · exact ⟨h.rows q hq, h.sep q hq⟩
    · exact ⟨hp, hnew⟩
  refine ⟨by omega, ?_, ?_, ?_, ?_, ?_, ?_, hno⟩
  · have := happ.own
    rw [List.length_append, List.map_append]; exact this
  · intro q hq
    obtain ⟨h1, h2⟩ := hall q hq
    by_cases he : q.l = []
    · rw [he]; exact Rd.nil _ _
    · exact h1.ext hx (fun ad ha => h2 he ad ha)
  · rw [h.is, frScan_some hf, List.drop_drop]
    simp [Nat.add_assoc]
  · rw [List.length_append, List.length_singleton]; have := h.few; omega
  · intro q hq he ad ha hbv
    obtain ⟨h1, h2⟩ := hall q hq
    obtain ⟨ad', ha', hlt⟩ := h1.ne (by rw [bs_length]; exact List.length_pos_iff.2 he)
    rw [ha] at ha'
    cases ha'
    rcases happ.loc with ⟨e, _⟩ | hl2
    · rw [e] at hbv; exact h2 he ad ha hbv
    · obtain ⟨ad2, e2, hb2⟩ := hbv
      have := hl2 ad2 e2
      simp at this; omega
  · intro q hq he
    rw [List.mem_append, List.mem_singleton] at hq
    rcases hq with hq | rfl
    · exact h.new q hq he
    · exact hfr he

theorem number_at (w : World) (a : Option Addr) (m c : Nat) (l : List UInt8) (hm : m = l.length) (hrd : Rd w a (bs l)) (h4 : 4 ≤ l.length) (hl : l.length ≤ 1099511627776) :
    Calls Try.prog 58 #[.slice a m c] w fun e w' => e = .returned (.int .u32 (rd4 l)) ∧ ∃ n, w' = w.drewN n := by
  subst hm; exact fnum_any w a c l hrd h4 hl
theorem clone_at (w : World) (a : Option Addr) (m c : Nat) (l : List UInt8) (hm : m = l.length) (hrd : Rd w a (bs l)) (hl : l.length ≤ 70368744177664) :
    Calls Try.prog 60 #[.slice a m c] w fun e w' => ∃ a' c', e = .returned (.slice a' m c') ∧ Own w' w.heap.size a' 1 m c' (bs l) ∧ Ext no w w' := by
  subst hm; exact clone_any w a c l hrd hl

set_option maxHeartbeats 1000000 in
theorem fscan_new (w : World) (a : Option Addr) (c : Nat) (l : List UInt8) (hrd : Rd w a (bs l)) (hl : l.length ≤ 1099511627776) (hlc : l.length ≤ c) (hcm : c ≤ maxLen) :
    Calls Try.prog 44 #[.slice a l.length c] w (ScanNew w l) := by
  unfold maxLen at hcm
  go_enter Try.func44, Try.ntmps44
  go_wp2_with fail
  go_loopw [2, 3] (fun s2 s3 wr => ∃ (ps : List Part) (n : Nat) (v : Option Addr) (cv : Nat), s3 = .int .i64 n ∧ s2 = .slice v ps.length cv ∧ n ≤ l.length ∧ Scans w l ps n v cv wr) (fun _ s3 _ => l.length - (intOf s3).toNat)
  case atStart => exact ⟨[], 0, none, 0, rfl, rfl, Nat.zero_le _, Scans.start w l⟩
  case round =>
    obtain ⟨ps, n, v, cv, rfl, rfl, hn, hS⟩ := hrel
    have cutn : ∀ w, (Instr.sliceAt 37 (.slice a l.length c) (some (.int .i64 (n : Int))) none none).run Try.prog w = .ok (.slice (cutAt a c n 1) (l.length - n) (c - n)) w := fun w => run_cut_l TBytes w a l.length c .i64 n hn
    obtain ⟨r, hr⟩ : ∃ r, r = l.drop n := ⟨_, rfl⟩
    have hrl : l.length - n = r.length := by rw [hr, List.length_drop]
    have hrd1 : Rd wr (cutAt a c n 1) (bs r) := by
      have := (hrd.ext hS.ext (fun _ _ h => h)).cutB c n hlc
      rw [← hr] at this; exact this
    rw [hrl] at cutn
    have hrl' : r.length ≤ 1099511627776 := by omega
    have hrc : r.length ≤ c - n := by omega
    have Hr := Lib.hid hr
    have Hrl := Lib.hid hrl
    clear hr hrl
    generalize cutAt a c n 1 = ar at *
    by_cases h8 : r.length < 8
    · have Hst := Lib.hid (hS.stop (by rw [← Hr.out]; unfold frameAt; rw [if_neg (by omega)]))
      go_wp2_with fail
      go_ret2
      obtain ⟨h1, h2, h3⟩ := Hst.out
      exact ⟨v, cv, by rw [← h2, ← h3]; rfl, h1, hS.ext⟩
    have hn4 := rd4_lt r
    go_wp2_with fail
    refine (number_at wr ar r.length (c - n) r rfl hrd1 (by omega) hrl').mono ?_
    rintro e w1 ⟨rfl, nq, rfl⟩
    have hS1 := hS.on (Ext.drewN no wr nq)
    have hrd2 := hrd1.drewN nq
    clear hS hrd1
    generalize wr.drewN nq = w1 at *
    by_cases h1 : 4194304 < rd4 r
    · have Hst := Lib.hid (hS1.stop (by rw [← Hr.out]; unfold frameAt; rw [if_neg (by omega)]))
      have hd1 : decide ((4194304 : Int) < (rd4 r : Int)) = true := by rw [decide_eq_true_eq]; omega
      go_wp2_with fail
      go_ret2
      obtain ⟨h1, h2, h3⟩ := Hst.out
      exact ⟨v, cv, by rw [← h2, ← h3]; rfl, h1, hS1.ext⟩
    have hd1 : decide ((4194304 : Int) < (rd4 r : Int)) = false := by rw [decide_eq_false_iff_not]; omega
    by_cases h2 : r.length - 8 < rd4 r
    · have Hst := Lib.hid (hS1.stop (by rw [← Hr.out]; unfold frameAt; rw [if_neg (by omega)]))
      have hd2 : decide ((r.length : Int) - 8 < (rd4 r : Int)) = true := by rw [decide_eq_true_eq]; omega
      go_wp2_with fail
      go_ret2
      obtain ⟨h1, h2, h3⟩ := Hst.out
      exact ⟨v, cv, by rw [← h2, ← h3]; rfl, h1, hS1.ext⟩
    have hd2 : decide ((r.length : Int) - 8 < (rd4 r : Int)) = false := by rw [decide_eq_false_iff_not]; omega
    have cut8 : ∀ w, (Instr.sliceAt 37 (.slice ar r.length (c - n)) (some (.int .i64 8)) (some (.int .u32 (8 + (rd4 r : Int)))) none).run Try.prog w = .ok (.slice (cutAt ar (c - n) 8 1) (8 + rd4 r - 8) (c - n - 8)) w := fun w => run_cut_lh TBytes w ar r.length (c - n) .i64 .u32 8 (8 + rd4 r) (by omega) (by omega)
    have cut4 : ∀ w, (Instr.sliceAt 37 (.slice ar r.length (c - n)) (some (.int .i64 4)) none none).run Try.prog w = .ok (.slice (cutAt ar (c - n) 4 1) (r.length - 4) (c - n - 4)) w := fun w => run_cut_l TBytes w ar r.length (c - n) .i64 4 (by omega)
    have hrest : Rd w1 (cutAt ar (c - n) 8 1) (bs ((r.drop 8).take (rd4 r))) := by
      have := (hrd2.cutB (c - n) 8 hrc).take (rd4 r)
      rw [bs_take] at this; exact this
    have hsum : Rd w1 (cutAt ar (c - n) 4 1) (bs (r.drop 4)) := hrd2.cutB (c - n) 4 hrc
    rw [show 8 + rd4 r - 8 = rd4 r from by omega] at cut8
    have hl8 : ((r.drop 8).take (rd4 r)).length ≤ 1099511627776 := by simp; omega
    have Hm8 := Lib.hid (show rd4 r = ((r.drop 8).take (rd4 r)).length by simp; omega)
    have hl4 : (r.drop 4).length ≤ 1099511627776 := by simp; omega
    have hl44 : 4 ≤ (r.drop 4).length := by simp; omega
    have hcl := crc_lt ((r.drop 8).take (rd4 r))
    have hsl := rd4_lt (r.drop 4)
    go_upto_region 8 with fail
    generalize cutAt ar (c - n) 8 1 = a8 at *
    generalize cutAt ar (c - n) 4 1 = a4 at *
    go_quiet (first | (go_at_call 58; exact fnum_q _ _ _ _ _ (r.drop 4) (by simp) hsum hl44 hl4) | (go_at_call 59; exact fcrc_q _ _ _ _ _ ((r.drop 8).take (rd4 r)) Hm8.out hrest hl8))
    have hS2 := hS1.on (Ext.drewN no w1 nq)
    have hrest2 := hrest.drewN nq
    clear hS1 hrd2 hrest hsum
    generalize w1.drewN nq = w2 at *
    obtain ⟨b, hb⟩ : ∃ b, b = (r.drop 8).take (rd4 r) := ⟨_, rfl⟩
    rw [← hb] at hrest2 hl8 Hm8 ⊢
    have Hb := Lib.hid hb
    clear hb
    by_cases hq : crc b = rd4 (r.drop 4)
    · have hbq : ((crc b : Int) != (rd4 (r.drop 4) : Int)) = false := by simp [hq]
      have Hf := Lib.hid (show frameAt (l.drop n) = some b by rw [← Hr.out]; unfold frameAt; rw [← Hb.out, if_pos ⟨by omega, by omega, by omega, hq⟩])
      have hbl : b.length ≤ 4194304 := by have := Hm8.out; omega
      have hbr : n + (8 + b.length) ≤ l.length := by have := frameAt_len Hf.out; rw [List.length_drop] at this; omega
      clear hq hd1 hd2
      go_wp2_with fail
      refine (clone_at w2 a8 (rd4 r) (c - n - 8) b Hm8.out hrest2 (by omega)).mono ?_
      rintro e w3 ⟨a9, c9, rfl, hown9, hx9⟩
      rw [Hm8.out] at hown9 ⊢
      have hS3 := hS2.on hx9
      have hs3 := hx9.size
      have hs2 := hS2.ext.size
      have hvlt : ∀ ad, v = some ad → ad.block < w2.heap.size := fun ad h => (hS2.own.base ad h).2.1
      have hfew := hS2.few
      have hrd9 := hown9.rd
      have hfr9 : b ≠ [] → ∀ ad, a9 = some ad → w.heap.size ≤ ad.block := fun _ ad h => by have := (hown9.base ad h).1; omega
      have hnew : b ≠ [] → ∀ ad, a9 = some ad → ¬ blk v ad.block := by
        rintro _ ad ha ⟨ad2, e2, hb2⟩
        have := (hown9.base ad ha).1
        have := hvlt ad2 e2
        omega
      have hone := Rd.one w3 (.slice a9 b.length c9) 37 (0, 0)
      clear hS2 hown9 hx9 hrest2
      go_wp2_with (at_builtin; refine wpList_append TRows rfl rfl rfl (hS3.own.alloc _) rfl hone (by simp) ?c2 ?c3 ?c4 ?c5 ?_)
      case c2 => intro u hu; simp at hu; subst hu; rfl
      case c3 => unfold maxLen; omega
      case c4 => omega
      case c5 => simp; omega
      intro v' c' w4 happ
      have hS4 := hS3.step (p := ⟨a9, b, c9⟩) hrd9 Hf.out hnew hfr9 happ
      clear happ hS3
      go_wp2_with fail
      go_roundw
      case rel => exact ⟨ps ++ [⟨a9, b, c9⟩], n + (8 + b.length), v', c', by go_num, by simp, hbr, hS4⟩
      case measure => simp [intOf]; omega
    · have hbq : ((crc b : Int) != (rd4 (r.drop 4) : Int)) = true := by simp; omega
      have Hst := Lib.hid (hS2.stop (by rw [← Hr.out]; unfold frameAt; rw [← Hb.out, if_neg (fun h => hq h.2.2.2)]))
      clear hq
      go_wp2_with fail
      go_ret2
      obtain ⟨h1, h2, h3⟩ := Hst.out
      exact ⟨v, cv, by rw [← h2, ← h3]; rfl, h1, hS2.ext⟩
theorem fscan_any (w : World) (a : Option Addr) (c : Nat) (l : List UInt8) (hrd : Rd w a (bs l)) (hl : l.length ≤ 1099511627776) (hlc : l.length ≤ c) (hcm : c ≤ maxLen) :
    Calls Try.prog 44 #[.slice a l.length c] w (ScanEnd w l) :=
  (fscan_new w a c l hrd hl hlc hcm).mono fun _ _ ⟨a', c', h1, h2, h3⟩ => ⟨a', c', h1, h2.lists, h3⟩
end Go.Proofs.Ytpljcnjkdjblmaa

/- What the statements of chapter 2 say, in plain terms: of no program. -/
namespace Go.Esc

theorem rd4_frame (b r : List UInt8) (h : b.length ≤ 4194304) : rd4 (frame b ++ r) = b.length := by rw [frame_append]; exact rd4_be4 _ (by omega) _
theorem rd4_take (b : List UInt8) (k : Nat) (h : b.length ≤ 4194304) (hk : 4 ≤ k) (hk2 : k ≤ (frame b).length) : rd4 ((frame b).take k) = b.length := by
  have h1 := rd4_append ((frame b).take k) ((frame b).drop k) (by rw [List.length_take]; omega)
  rw [List.take_append_drop] at h1
  have h2 := rd4_frame b [] h
  rw [List.append_nil] at h2
  rw [← h1, h2]
theorem one_cut (b : List UInt8) (h : b.length ≤ 4194304) (k : Nat) (hk : k < (frame b).length) : one ((frame b).take k) = ([], 8) := by
  have hl : ((frame b).take k).length = k := by rw [List.length_take]; omega
  have hf := frame_length b
  unfold one
  rw [hl]
  by_cases h8 : k < 8
  · rw [if_pos h8]
  · rw [if_neg h8, rd4_take b k h (by omega) (by omega), if_neg (by omega), if_pos (by omega)]
theorem frameAt_cut (b : List UInt8) (h : b.length ≤ 4194304) (k : Nat) (hk : k < (frame b).length) : frameAt ((frame b).take k) = none := by
  have hl : ((frame b).take k).length = k := by rw [List.length_take]; omega
  have hf := frame_length b
  unfold frameAt
  rw [hl]
  by_cases h8 : k < 8
  · rw [if_neg (by omega)]
  · rw [rd4_take b k h (by omega) (by omega), if_neg (by omega)]
theorem one_more (b m : List UInt8) (h : b.length ≤ 4194304) (hm : m ≠ []) : one (frame b ++ m) = ([], 9) := by
  have hl : (frame b ++ m).length = b.length + 8 + m.length := by rw [List.length_append, frame_length]
  have hm0 : 0 < m.length := List.length_pos_iff.2 hm
  unfold one
  rw [hl, rd4_frame b m h, if_neg (by omega), if_neg (by omega), if_neg (by omega), if_pos (by omega)]
theorem one_long (y : List UInt8) (h8 : 8 ≤ y.length) (h : 4194304 < rd4 y) : one y = ([], 5) := by
  unfold one; rw [if_neg (by omega), if_pos h]
theorem frScan_long (y : List UInt8) (h : 4194304 < rd4 y) : frScan y = ([], 0) := frScan_none (by unfold frameAt; rw [if_neg (by omega)])
theorem rd4_set0 (y : List UInt8) (v : UInt8) (h : 4 ≤ y.length) (hv : 1 ≤ v.toNat) : 4194304 < rd4 (y.set 0 v) := by
  obtain ⟨a, b, c, d, r, rfl⟩ := rd4_split y h
  simp only [List.set_cons_zero, rd4, num4]
  omega

/-- Two rows of bytes that differ at one place. -/
theorem set_split (l : List UInt8) (i : Nat) (h : i < l.length) (x : UInt8) : l = l.take i ++ l[i] :: l.drop (i + 1) ∧ l.set i x = l.take i ++ x :: l.drop (i + 1) := by
  refine ⟨?_, by rw [List.set_eq_take_append_cons_drop, if_pos h]⟩
  have h1 := List.take_append_drop i l
  rw [List.drop_eq_getElem_cons h] at h1
  exact h1.symm
theorem crc_set (l : List UInt8) (i : Nat) (h : i < l.length) (x : UInt8) (hx : x ≠ l[i]) : crc (l.set i x) ≠ crc l := by
  intro he
  obtain ⟨h1, h2⟩ := set_split l i h x
  rw [h2] at he
  conv at he => rhs; rw [h1]
  exact hx (crc_turn _ _ he)
theorem rd4_set (l : List UInt8) (h : 4 ≤ l.length) (i : Nat) (hi : i < 4) (x : UInt8) (hx : x ≠ l[i]) : rd4 (l.set i x) ≠ rd4 l := by
  obtain ⟨a, b, c, d, r, rfl⟩ := rd4_split l h
  have ha := a.toNat_lt
  have hb := b.toNat_lt
  have hc := c.toNat_lt
  have hd := d.toNat_lt
  have hxl := x.toNat_lt
  have key : ∀ y : UInt8, x ≠ y → x.toNat ≠ y.toNat := fun y h e => h (UInt8.toNat_inj.1 e)
  match i, hi with
  | 0, _ => have := key a hx; simp only [List.set_cons_zero, rd4, num4]; omega
  | 1, _ => have := key b hx; simp only [List.set_cons_succ, List.set_cons_zero, rd4, num4]; omega
  | 2, _ => have := key c hx; simp only [List.set_cons_succ, List.set_cons_zero, rd4, num4]; omega
  | 3, _ => have := key d hx; simp only [List.set_cons_succ, List.set_cons_zero, rd4, num4]; omega

/-- A frame one of whose bytes is turned, behind its length. -/
theorem turned_parts (b : List UInt8) (h : b.length ≤ 4194304) (j : Nat) (hj : j < 4 + b.length) (x : UInt8) (hx : (frame b)[4 + j]? ≠ some x) :
    ((frame b).set (4 + j) x).length = b.length + 8 ∧ rd4 ((frame b).set (4 + j) x) = b.length ∧ crc (((frame b).set (4 + j) x).drop 8) ≠ rd4 (((frame b).set (4 + j) x).drop 4) := by
  have hf := frame_length b
  have e0 : (frame b).set (4 + j) x = be4 b.length ++ ((be4 (crc b) ++ b).set j x) := by
    unfold frame
    rw [List.set_append_right _ _ (by rw [be4_length]; omega), be4_length, show 4 + j - 4 = j from by omega]
  have e1 : ((frame b).set (4 + j) x).drop 4 = (be4 (crc b) ++ b).set j x := by rw [e0]; exact List.drop_left' (be4_length _)
  have hxj : ((be4 (crc b) ++ b))[j]? ≠ some x := by
    intro hh; apply hx
    unfold frame
    rw [List.getElem?_append_right (by rw [be4_length]; omega), be4_length, show 4 + j - 4 = j from by omega]
    exact hh
  refine ⟨by rw [List.length_set, hf], by rw [e0]; exact rd4_be4 _ (by omega) _, ?_⟩
  rw [show (8 : Nat) = 4 + 4 from rfl, ← List.drop_drop, e1]
  by_cases h4 : j < 4
  · have e2 : (be4 (crc b) ++ b).set j x = (be4 (crc b)).set j x ++ b := List.set_append_left _ _ (by rw [be4_length]; exact h4)
    rw [e2, List.drop_left' (by rw [List.length_set, be4_length]), rd4_append _ _ (by rw [List.length_set, be4_length]; omega)]
    have hne : x ≠ (be4 (crc b))[j]'(by rw [be4_length]; exact h4) := by
      intro hh; apply hxj
      rw [List.getElem?_append_left (by rw [be4_length]; exact h4), List.getElem?_eq_getElem (by rw [be4_length]; exact h4), hh]
    have h5 := rd4_set (be4 (crc b)) (by rw [be4_length]; omega) j h4 x hne
    have h6 := rd4_be4 (crc b) (crc_lt b) []
    rw [List.append_nil] at h6
    rw [h6] at h5
    exact fun hh => h5 hh.symm
  · obtain ⟨i, rfl⟩ : ∃ i, j = 4 + i := ⟨j - 4, by omega⟩
    have e2 : (be4 (crc b) ++ b).set (4 + i) x = be4 (crc b) ++ b.set i x := by
      rw [List.set_append_right _ _ (by rw [be4_length]; omega), be4_length, show 4 + i - 4 = i from by omega]
    rw [e2, List.drop_left' (be4_length _), rd4_be4 _ (crc_lt b)]
    have hne : x ≠ b[i]'(by omega) := by
      intro hh; apply hxj
      rw [List.getElem?_append_right (by rw [be4_length]; omega), be4_length, show 4 + i - 4 = i from by omega, List.getElem?_eq_getElem (by omega), hh]
    exact crc_set b i (by omega) x hne
theorem turned_one (b : List UInt8) (h : b.length ≤ 4194304) (j : Nat) (hj : j < 4 + b.length) (x : UInt8) (hx : (frame b)[4 + j]? ≠ some x) : one ((frame b).set (4 + j) x) = ([], 10) := by
  obtain ⟨h1, h2, h3⟩ := turned_parts b h j hj x hx
  unfold one
  rw [h1, h2, if_neg (by omega), if_neg (by omega), if_neg (by omega), if_neg (by omega), if_neg h3]
theorem turned_at (b r : List UInt8) (h : b.length ≤ 4194304) (j : Nat) (hj : j < 4 + b.length) (x : UInt8) (hx : (frame b)[4 + j]? ≠ some x) : frameAt ((frame b).set (4 + j) x ++ r) = none := by
  obtain ⟨h1, h2, h3⟩ := turned_parts b h j hj x hx
  have h7 := turned_one b h j hj x hx
  generalize (frame b).set (4 + j) x = t at h1 h2 h7 ⊢
  have h4 : rd4 (t ++ r) = b.length := by rw [rd4_append _ _ (by omega), h2]
  have h5 : (t ++ r).take (8 + rd4 (t ++ r)) = t := by rw [h4, show 8 + b.length = t.length from by omega]; exact List.take_left
  have h6 := (frameAt_one (r := t ++ r) (by rw [List.length_append]; omega) (by omega) (by rw [List.length_append]; omega)).1
  rw [h5] at h6
  rw [h7] at h6
  simpa using h6
end Go.Esc

/- Walks of the package disk: New, Append, Sync. -/
namespace Go.Proofs.Ytpljcnjkdjblmaa
open Go.RowKit Go.Esc

/-- What a face of a disk leaves that answers by an error's number. -/
def DkEnd (w : World) (g : Nat) (N : Nat → Prop) (s : DS) (k : Nat) (e : Ending) (w' : World) : Prop := e = .returned (.int .i64 k) ∧ Dk w' g s N ∧ Ext (just g) w w'


set_option maxHeartbeats 1000000 in
theorem append_any (w : World) (g : Nat) (s : DS) (N : Nat → Prop) (h : Dk w g s N) (hN : ∀ k, N k → k < w.heap.size) (hok : s.ok) (ba : Option Addr) (bc : Nat) (b : List UInt8) (hbd : Rd w ba (bs b)) (hbg : b ≠ [] → ∀ ad, ba = some ad → ad.block ≠ g) (hbl : b.length ≤ 1099511627776) :
    Calls Try.prog 69 #[.pointer (some ⟨g, 0, none⟩), .slice ba b.length bc] w (DkEnd w g N (s.append b).1 (s.append b).2) := by
  obtain ⟨la, lc, sa, sc, hB, hl, hs⟩ := h
  obtain ⟨k1, k2, k3, k4, k5, k6⟩ := hok
  have hg := hB.lt (by simp [dcells])
  have c3 := hB.cell 3 _ rfl
  have c4 := hB.cell 4 _ rfl
  have c6 := hB.cell 6 _ rfl
  have c7 := hB.cell 7 _ rfl
  by_cases hd : s.dead = true
  · have hap : s.append b = (s, 18) := by unfold DS.append; rw [if_pos hd]
    rw [hap]
    rw [hd] at c3
    clear hap
    have Hd := Lib.hid hd
    clear hd
    go_enter Try.func69, Try.ntmps69
    go_wp2_with fail
    go_ret
    exact ⟨rfl, ⟨la, lc, sa, sc, hB, hl, hs⟩, Ext.refl _ _⟩
  have hd' : s.dead = false := by simpa using hd
  rw [hd'] at c3
  by_cases hf : s.room < s.log.length + s.snap.length + b.length
  · have hap : s.append b = (s, 17) := by unfold DS.append; rw [if_neg hd, if_pos hf]
    rw [hap]
    clear hap hd hd'
    have d1 : decide ((s.room : Int) - s.log.length - s.snap.length < b.length) = true := decT (by omega)
    have w1 : IntKind.i64.wrap ((s.room : Int) - s.log.length) = (s.room : Int) - s.log.length := by rw [IntKind.wrap_i64]; omega
    have w2 : IntKind.i64.wrap ((s.room : Int) - s.log.length - s.snap.length) = (s.room : Int) - s.log.length - s.snap.length := by rw [IntKind.wrap_i64]; omega
    go_enter Try.func69, Try.ntmps69
    go_upto_region 3 with fail
    go_quiet (fail)
    go_wp2_with fail
    go_ret
    exact ⟨rfl, ⟨la, lc, sa, sc, hB.drewN _, hl.ext (Ext.drewN no _ _) (fun _ _ h => h.elim), hs.ext (Ext.drewN no _ _) (fun _ _ h => h.elim)⟩, Ext.drewN _ _ _⟩
  have hap : s.append b = ({ s.spend with log := s.log ++ b }, if s.left = 1 then 18 else 0) := by unfold DS.append; rw [if_neg hd, if_neg hf]
  have Hap := Lib.hid hap
  have Hd := Lib.hid hd'
  clear hap hd hd'
  obtain ⟨S1, hS1⟩ : ∃ S1, S1 = s.append b := ⟨_, rfl⟩
  rw [← hS1]
  have HS1 := Lib.hid hS1
  clear hS1
  have d1 : decide ((s.room : Int) - s.log.length - s.snap.length < b.length) = false := decF (by omega)
  have w1 : IntKind.i64.wrap ((s.room : Int) - s.log.length) = (s.room : Int) - s.log.length := by rw [IntKind.wrap_i64]; omega
  have w2 : IntKind.i64.wrap ((s.room : Int) - s.log.length - s.snap.length) = (s.room : Int) - s.log.length - s.snap.length := by rw [IntKind.wrap_i64]; omega
  go_enter Try.func69, Try.ntmps69
  go_upto_region 3 with fail
  go_quiet (fail)
  have hB1 := hB.drewN nq
  have hx1 := Ext.drewN (just g) w nq
  have hl1 : Sl (w.drewN nq) g N la lc s.log := hl.ext (Ext.drewN no _ _) (fun _ _ h => h.elim)
  have hs1 : Sl (w.drewN nq) g N sa sc s.snap := hs.ext (Ext.drewN no _ _) (fun _ _ h => h.elim)
  have hbd1 := hbd.drewN nq
  have hsz1 := hx1.size
  clear hB hl hs hbd c3 c4 c6 c7 w1 w2
  generalize w.drewN nq = w1 at *
  go_wp2_with fail
  refine (spend_dk w1 g s la sa lc sc hB1 Hd.out k4 k6).mono ?_
  rintro e w2 ⟨rfl, hB2, hx2⟩
  have hl2 := hl1.ext hx2 (fun _ _ h => .inl h)
  have hs2 := hs1.ext hx2 (fun _ _ h => .inl h)
  have hbd2 : Rd w2 ba (bs b) := by
    by_cases he : b = []
    · rw [he]; exact Rd.nil _ _
    · exact hbd1.ext hx2 (fun ad ha h => hbg he ad ha h)
  have hx02 := hx1.comp hx2
  have d4 := hB2.cell 4 _ rfl
  have hlog : s.spend.log = s.log := by unfold DS.spend; split <;> rfl
  rw [hlog] at d4
  have Hlog := Lib.hid hlog
  have hsz2 := hx02.size
  clear hB1 hl1 hs1 hbd1 hx1 hx2 hlog
  go_wp2_with (with_reducible refine wpList_make_z TBytes rfl rfl rfl (s.log.length + b.length) rfl rfl (by go_num) (by go_num) w2.heap.size (Nat.le_refl _) (by omega) (by unfold maxLen; omega) ?_)
  intro ad w3 hown3 hx3
  have hx23 := hx3
  have hg2 : g < w2.heap.size := by omega
  have cutk : ∀ w, (Instr.sliceAt 37 (.slice (some ad) (s.log.length + b.length) (s.log.length + b.length)) (some (.int .i64 (s.log.length : Int))) none none).run Try.prog w = .ok (.slice (cutAt (some ad) (s.log.length + b.length) s.log.length 1) b.length b.length) w := fun w => by
    have := run_cut_l TBytes w (some ad) (s.log.length + b.length) (s.log.length + b.length) .i64 s.log.length (by omega)
    rwa [Nat.add_sub_cancel_left] at this
  have e4 := hx3.keeps d4 (fun h => h)
  have hlr : Rd w3 la (bs s.log) := hl2.1.ext hx3 (fun _ _ h => h)
  go_wp2_with (with_reducible refine wpList_copy TBytes rfl rfl hown3 (off := 0) rfl rfl (fun _ => by rw [Addr.add_zero']) hlr (by simp) (bs_one _) (by omega) (by omega) ?_)
  intro w4 hown4 hx4
  have hx24 : Ext no w2 w4 := Ext.ofBelow (hx3.belowAll.trans (hown3.below hx4 hx3.size)) (Nat.le_refl _)
  clear hown3 hx4 e4 hlr
  have hbr : Rd w4 ba (bs b) := hbd2.ext hx24 (fun _ _ h => h)
  go_wp2_with (with_reducible refine wpList_copy TBytes rfl rfl hown4 (off := s.log.length) rfl rfl (fun hb => by unfold cutAt; rw [if_neg (by omega)]; simp) hbr (by simp) (bs_one _) (by omega) (by omega) ?_)
  intro w5 hown5 hx5
  have hx25 : Ext no w2 w5 := Ext.ofBelow (hx24.belowAll.trans (hown4.below hx5 hx24.size)) (Nat.le_refl _)
  have hnew : Own w5 w2.heap.size (some ad) 1 (s.log.length + b.length) (s.log.length + b.length) (bs (s.log ++ b)) := by
    refine cast (congrArg (Own w5 w2.heap.size (some ad) 1 (s.log.length + b.length) (s.log.length + b.length)) ?_) hown5
    simp [bs_append]
  clear hown4 hown5 hx5 hx24 hx3
  have hB5 := hB2.ext (by simp [dcells]) hx25 (fun h => h)
  have e4 := hx25.keeps d4 (fun h => h)
  have f4 := hB5.fr 4
  have hBe := hB5.set 4 (.slice (some ad) (s.log.length + b.length) (s.log.length + b.length)) (by simp [dcells])
  have hxs := Ext.at w5 g 4 (.slice (some ad) (s.log.length + b.length) (s.log.length + b.length))
  have hle : Sl (w5.setCell ⟨g, 4, none⟩ (.slice (some ad) (s.log.length + b.length) (s.log.length + b.length))) g N (some ad) (s.log.length + b.length) (s.log ++ b) :=
    (Sl.own hnew hg2 (fun k hk => by have := hN k hk; omega)).ext hxs (fun _ _ h => .inl h)
  have hse := (hs2.ext hx25 (fun _ _ h => h.elim)).ext hxs (fun _ _ h => .inl h)
  have hxe : Ext (just g) w (w5.setCell ⟨g, 4, none⟩ (.slice (some ad) (s.log.length + b.length) (s.log.length + b.length))) := (hx02.comp (hx25.mono (fun _ _ h => h.elim))).comp hxs
  have hDk : Dk (w5.setCell ⟨g, 4, none⟩ (.slice (some ad) (s.log.length + b.length) (s.log.length + b.length))) g { s.spend with log := s.log ++ b } N := by
    refine ⟨some ad, _, sa, sc, ?_, hle, ?_⟩
    · unfold dcells at hBe ⊢
      simp only [List.length_append]
      exact hBe
    · have : s.spend.snap = s.snap := by unfold DS.spend; split <;> rfl
      simp only [this]
      exact hse
  clear hB2 hl2 hs2 hbd2 hx02 hB5 hBe hle hse hnew hx23
  by_cases h1 : s.left = 1
  · have hb1 : decide (s.left = 1) = true := decT h1
    have Hr := Lib.hid (show S1 = ({ s.spend with log := s.log ++ b }, 18) by rw [HS1.out, Hap.out, if_pos h1])
    clear h1
    go_wp2_with fail
    go_ret
    rw [Hr.out]
    exact ⟨rfl, hDk, hxe⟩
  · have hb1 : decide (s.left = 1) = false := decF h1
    have Hr := Lib.hid (show S1 = ({ s.spend with log := s.log ++ b }, 0) by rw [HS1.out, Hap.out, if_neg h1])
    clear h1
    go_wp2_with fail
    go_ret
    rw [Hr.out]
    exact ⟨rfl, hDk, hxe⟩

set_option maxHeartbeats 1000000 in
theorem sync_any (w : World) (g : Nat) (s : DS) (N : Nat → Prop) (h : Dk w g s N) (hok : s.ok) :
    Calls Try.prog 70 #[.pointer (some ⟨g, 0, none⟩)] w (DkEnd w g N s.sync.1 s.sync.2) := by
  obtain ⟨la, lc, sa, sc, hB, hl, hs⟩ := h
  obtain ⟨k1, k2, k3, k4, k5, k6⟩ := hok
  have c3 := hB.cell 3 _ rfl
  by_cases hd : s.dead = true
  · have hap : s.sync = (s, 18) := by unfold DS.sync; rw [if_pos hd]
    rw [hap]
    rw [hd] at c3
    clear hap hd
    go_enter Try.func70, Try.ntmps70
    go_wp2_with fail
    go_ret
    exact ⟨rfl, ⟨la, lc, sa, sc, hB, hl, hs⟩, Ext.refl _ _⟩
  have hd' : s.dead = false := by simpa using hd
  rw [hd'] at c3
  have Hd := Lib.hid hd'
  have Hap := Lib.hid (show s.sync = if s.left = 1 then (s.spend, 18) else ({ s.spend with synced := s.log.length }, 0) by unfold DS.sync; rw [if_neg hd])
  have hlog : s.spend.log = s.log := by unfold DS.spend; split <;> rfl
  have hsnap : s.spend.snap = s.snap := by unfold DS.spend; split <;> rfl
  have Hlog := Lib.hid hlog
  have Hsnap := Lib.hid hsnap
  obtain ⟨S1, hS1⟩ : ∃ S1, S1 = s.sync := ⟨_, rfl⟩
  rw [← hS1]
  have HS1 := Lib.hid hS1
  clear hS1 hd hd' hlog hsnap
  go_enter Try.func70, Try.ntmps70
  go_wp2_with fail
  refine (spend_dk w g s la sa lc sc hB Hd.out k4 k6).mono ?_
  rintro e w2 ⟨rfl, hB2, hx2⟩
  have hl2 := hl.ext hx2 (fun _ _ h => .inl h)
  have hs2 := hs.ext hx2 (fun _ _ h => .inl h)
  have d4 := hB2.cell 4 _ rfl
  rw [Hlog.out] at d4
  have f5 := hB2.fr 5
  have c5 := hB2.cell 5 _ rfl
  clear hB hl hs c3
  by_cases h1 : s.left = 1
  · have hb1 : decide (s.left ≠ 1) = false := decF (by simpa using h1)
    have Hr := Lib.hid (show S1 = (s.spend, 18) by rw [HS1.out, Hap.out, if_pos h1])
    rw [hb1]
    clear h1 hb1
    go_wp2_with fail
    go_ret
    rw [Hr.out]
    exact ⟨rfl, ⟨la, lc, sa, sc, hB2, by rw [Hlog.out]; exact hl2, by rw [Hsnap.out]; exact hs2⟩, hx2⟩
  · have hb1 : decide (s.left ≠ 1) = true := decT h1
    have Hr := Lib.hid (show S1 = ({ s.spend with synced := s.log.length }, 0) by rw [HS1.out, Hap.out, if_neg h1])
    rw [hb1]
    clear h1 hb1
    have hBe := hB2.set 5 (.int .i64 s.log.length) (by simp [dcells])
    have hxs := Ext.at w2 g 5 (.int .i64 s.log.length)
    have hle := hl2.ext hxs (fun _ _ h => .inl h)
    have hse := hs2.ext hxs (fun _ _ h => .inl h)
    go_wp2_with fail
    go_ret
    rw [Hr.out]
    exact ⟨rfl, ⟨la, lc, sa, sc, hBe, by rw [Hlog.out]; exact hle, by rw [Hsnap.out]; exact hse⟩, hx2.comp hxs⟩
end Go.Proofs.Ytpljcnjkdjblmaa

/- Walks of the package disk: Cut, Swap. -/
namespace Go.Proofs.Ytpljcnjkdjblmaa
open Go.RowKit Go.Esc

theorem own_at (w : World) (a : Option Addr) (m c : Nat) (l : List UInt8) (hm : m = l.length) (hrd : Rd w a (bs l)) (hl : l.length ≤ 70368744177664) :
    Calls Try.prog 40 #[.slice a m c] w fun e w' => ∃ a' c', e = .returned (.slice a' m c') ∧ Own w' w.heap.size a' 1 m c' (bs l) ∧ Ext no w w' := by
  subst hm; exact own_any w a c l hrd hl

set_option maxHeartbeats 1000000 in
theorem cut_any (w : World) (g : Nat) (s : DS) (N : Nat → Prop) (h : Dk w g s N) (hN : ∀ k, N k → k < w.heap.size) (hok : s.ok) (n : Int) (hn : I64ok n) :
    Calls Try.prog 45 #[.pointer (some ⟨g, 0, none⟩), .int .i64 n] w (DkEnd w g N (s.cut n).1 (s.cut n).2) := by
  obtain ⟨hn1, hn2⟩ := hn
  obtain ⟨la, lc, sa, sc, hB, hl, hs⟩ := h
  obtain ⟨k1, k2, k3, k4, k5, k6⟩ := hok
  have hg := hB.lt (by simp [dcells])
  have c3 := hB.cell 3 _ rfl
  have c4 := hB.cell 4 _ rfl
  by_cases hd : s.dead = true
  · have hap : s.cut n = (s, 18) := by unfold DS.cut; rw [if_pos hd]
    rw [hap]
    rw [hd] at c3
    clear hap hd
    go_enter Try.func45, Try.ntmps45
    go_wp2_with fail
    go_ret
    exact ⟨rfl, ⟨la, lc, sa, sc, hB, hl, hs⟩, Ext.refl _ _⟩
  have hd' : s.dead = false := by simpa using hd
  rw [hd'] at c3
  have Hd := Lib.hid hd'
  by_cases hm : n < 0
  · have hap : s.cut n = (s, 1) := by unfold DS.cut; rw [if_neg hd, if_pos (.inl hm)]
    rw [hap]
    have d1 : decide (n < 0) = true := decT hm
    clear hap hd hd'
    go_enter Try.func45, Try.ntmps45
    go_wp2_with fail
    go_ret
    exact ⟨rfl, ⟨la, lc, sa, sc, hB, hl, hs⟩, Ext.refl _ _⟩
  have d1 : decide (n < 0) = false := decF hm
  by_cases hm2 : (s.log.length : Int) < n
  · have hap : s.cut n = (s, 1) := by unfold DS.cut; rw [if_neg hd, if_pos (.inr hm2)]
    rw [hap]
    have d2 : decide ((s.log.length : Int) < n) = true := decT hm2
    clear hap hd hd'
    go_enter Try.func45, Try.ntmps45
    go_wp2_with fail
    go_ret
    exact ⟨rfl, ⟨la, lc, sa, sc, hB, hl, hs⟩, Ext.refl _ _⟩
  have d2 : decide ((s.log.length : Int) < n) = false := decF hm2
  obtain ⟨m, rfl⟩ : ∃ m : Nat, n = m := ⟨n.toNat, by omega⟩
  have hml : m ≤ s.log.length := by omega
  have Hap := Lib.hid (show s.cut m = (if s.left ≠ 1 ∨ s.odd = 0 then { s.spend with log := s.log.take m, synced := m } else s.spend, if s.left = 1 then 18 else 0) by
    unfold DS.cut; rw [if_neg hd, if_neg (by omega), Int.toNat_natCast])
  have hlog : s.spend.log = s.log := by unfold DS.spend; split <;> rfl
  have hsnap : s.spend.snap = s.snap := by unfold DS.spend; split <;> rfl
  have hodd : s.spend.odd = s.odd := by unfold DS.spend; split <;> rfl
  have Hlog := Lib.hid hlog
  have Hsnap := Lib.hid hsnap
  have Hodd := Lib.hid hodd
  obtain ⟨S1, hS1⟩ : ∃ S1, S1 = s.cut m := ⟨_, rfl⟩
  rw [← hS1]
  have HS1 := Lib.hid hS1
  clear hS1 hd hd' hlog hsnap hodd hm hm2
  go_enter Try.func45, Try.ntmps45
  go_wp2_with fail
  refine (spend_dk w g s la sa lc sc hB Hd.out k4 k6).mono ?_
  rintro e w2 ⟨rfl, hB2, hx2⟩
  have hl2 := hl.ext hx2 (fun _ _ h => .inl h)
  have hs2 := hs.ext hx2 (fun _ _ h => .inl h)
  have e4 := hB2.cell 4 _ rfl
  rw [Hlog.out] at e4
  have e1 := hB2.cell 1 _ rfl
  rw [Hodd.out] at e1
  have hsz2 := hx2.size
  clear hB hl hs c3 c4
  by_cases hgo : s.left ≠ 1 ∨ s.odd = 0
  rotate_left
  · have h1 : s.left = 1 := Classical.byContradiction fun h => hgo (.inl h)
    have h0 : s.odd ≠ 0 := fun h => hgo (.inr h)
    have hb1 : decide (s.left ≠ 1) = false := decF (by simpa using h1)
    have hb0 : ((s.odd : Int) == 0) = false := by rw [beq_eq_false_iff_ne]; omega
    have Hr := Lib.hid (show S1 = (s.spend, 18) by rw [HS1.out, Hap.out, if_neg hgo, if_pos h1])
    rw [hb1]
    clear h1 h0 hgo hb1
    go_wp2_with fail
    go_ret
    rw [Hr.out]
    exact ⟨rfl, ⟨la, lc, sa, sc, hB2, by rw [Hlog.out]; exact hl2, by rw [Hsnap.out]; exact hs2⟩, hx2⟩
  have hlc := hl2.2.1
  have cutm : ∀ w, (Instr.sliceAt 37 (.slice la s.log.length lc) none (some (.int .i64 (m : Int))) none).run Try.prog w = .ok (.slice la m lc) w := fun w => run_cut_h TBytes w la s.log.length lc .i64 m (by omega)
  have hlm := (hl2.take m).1
  have Hml := Lib.hid (show m = (s.log.take m).length by rw [List.length_take]; omega)
  have key : ∀ (w3 : World) (a' : Option Addr) (c' : Nat), Own w3 w2.heap.size a' 1 m c' (bs (s.log.take m)) → Ext no w2 w3 →
      Dk ((w3.setCell ⟨g, 4, none⟩ (.slice a' m c')).setCell ⟨g, 5, none⟩ (.int .i64 m)) g { s.spend with log := s.log.take m, synced := m } N ∧
      Ext (just g) w ((w3.setCell ⟨g, 4, none⟩ (.slice a' m c')).setCell ⟨g, 5, none⟩ (.int .i64 m)) ∧ w3.cell? ⟨g, 4, none⟩ = some (.slice la s.log.length lc) ∧ w3.frozen? ⟨g, 4, none⟩ = false ∧ w3.frozen? ⟨g, 5, none⟩ = false ∧ w3.cell? ⟨g, 5, none⟩ = some (.int .i64 s.spend.synced) := by
    intro w3 a' c' ho hx
    have hB3 := hB2.ext (by simp [dcells]) hx (fun h => h)
    have hxs := (Ext.at w3 g 4 (.slice a' m c')).comp (Ext.at _ g 5 (.int .i64 m))
    have hB4 := (hB3.set 4 (.slice a' m c') (by simp [dcells])).set 5 (.int .i64 m) (by simp [dcells])
    refine ⟨⟨a', c', sa, sc, ?_, (Sl.own ho (by omega) (fun k hk => by have := hN k hk; omega)).ext hxs (fun _ _ h => .inl h), ?_⟩, (hx2.comp (hx.mono (fun _ _ h => h.elim))).comp hxs, hx.keeps e4 (fun h => h), hB3.fr 4, hB3.fr 5, hB3.cell 5 _ rfl⟩
    · unfold dcells at hB4 ⊢
      simp only [← Hml.out]
      exact hB4
    · simp only [Hsnap.out]
      exact (hs2.ext hx (fun _ _ h => h.elim)).ext hxs (fun _ _ h => .inl h)
  have Key := Lib.hid key
  clear key hl2 hs2 hB2
  by_cases h1 : s.left = 1
  · have h0 : s.odd = 0 := by rcases hgo with h | h; exact absurd h1 h; exact h
    have hb1 : decide (s.left ≠ 1) = false := decF (by simpa using h1)
    have hb0 : ((s.odd : Int) == 0) = true := by rw [beq_iff_eq]; omega
    have Hr := Lib.hid (show S1 = ({ s.spend with log := s.log.take m, synced := m }, 18) by rw [HS1.out, Hap.out, if_pos hgo, if_pos h1])
    rw [hb1]
    clear h1 h0 hgo hb1
    go_wp2_with fail
    refine (own_at w2 la m lc (s.log.take m) Hml.out hlm (by rw [← Hml.out]; omega)).mono ?_
    rintro e w3 ⟨a', c', rfl, ho, hx⟩
    obtain ⟨q1, q2, q3, q4, q5, q6⟩ := Key.out w3 a' c' ho hx
    go_wp2_with fail
    go_ret
    rw [Hr.out]
    exact ⟨rfl, q1, q2⟩
  · have hb1 : decide (s.left ≠ 1) = true := decT h1
    have Hr := Lib.hid (show S1 = ({ s.spend with log := s.log.take m, synced := m }, 0) by rw [HS1.out, Hap.out, if_pos hgo, if_neg h1])
    rw [hb1]
    clear h1 hgo hb1
    go_wp2_with fail
    refine (own_at w2 la m lc (s.log.take m) Hml.out hlm (by rw [← Hml.out]; omega)).mono ?_
    rintro e w3 ⟨a', c', rfl, ho, hx⟩
    obtain ⟨q1, q2, q3, q4, q5, q6⟩ := Key.out w3 a' c' ho hx
    go_wp2_with fail
    go_ret
    rw [Hr.out]
    exact ⟨rfl, q1, q2⟩
end Go.Proofs.Ytpljcnjkdjblmaa

/- Walks of the package disk: Swap, Stop, Log, Snap, Dead, Ops, New. -/
namespace Go.Proofs.Ytpljcnjkdjblmaa
open Go.RowKit Go.Esc

set_option maxHeartbeats 1000000 in
theorem swap_any (w : World) (g : Nat) (s : DS) (N : Nat → Prop) (h : Dk w g s N) (hN : ∀ k, N k → k < w.heap.size) (hok : s.ok) (ba : Option Addr) (bc : Nat) (b : List UInt8) (hbd : Rd w ba (bs b)) (hbg : b ≠ [] → ∀ ad, ba = some ad → ad.block ≠ g) (hbl : b.length ≤ 1099511627776) :
    Calls Try.prog 71 #[.pointer (some ⟨g, 0, none⟩), .slice ba b.length bc] w (DkEnd w g N (s.swap b).1 (s.swap b).2) := by
  obtain ⟨la, lc, sa, sc, hB, hl, hs⟩ := h
  obtain ⟨k1, k2, k3, k4, k5, k6⟩ := hok
  have hg := hB.lt (by simp [dcells])
  have c3 := hB.cell 3 _ rfl
  have c7 := hB.cell 7 _ rfl
  by_cases hd : s.dead = true
  · have hap : s.swap b = (s, 18) := by unfold DS.swap; rw [if_pos hd]
    rw [hap]
    rw [hd] at c3
    clear hap hd
    go_enter Try.func71, Try.ntmps71
    go_wp2_with fail
    go_ret
    exact ⟨rfl, ⟨la, lc, sa, sc, hB, hl, hs⟩, Ext.refl _ _⟩
  have hd' : s.dead = false := by simpa using hd
  rw [hd'] at c3
  have Hd := Lib.hid hd'
  by_cases hm : s.room < b.length
  · have hap : s.swap b = (s, 17) := by unfold DS.swap; rw [if_neg hd, if_pos hm]
    rw [hap]
    have d1 : decide (s.room < b.length) = true := decT hm
    clear hap hd hd'
    go_enter Try.func71, Try.ntmps71
    go_wp2_with fail
    go_ret
    exact ⟨rfl, ⟨la, lc, sa, sc, hB, hl, hs⟩, Ext.refl _ _⟩
  have d1 : decide (s.room < b.length) = false := decF hm
  have Hap := Lib.hid (show s.swap b = (if s.left ≠ 1 ∨ s.odd = 0 then { s.spend with snap := b, log := [], synced := 0 } else s.spend, if s.left = 1 then 18 else 0) by
    unfold DS.swap; rw [if_neg hd, if_neg hm])
  have hlog : s.spend.log = s.log := by unfold DS.spend; split <;> rfl
  have hsnap : s.spend.snap = s.snap := by unfold DS.spend; split <;> rfl
  have hodd : s.spend.odd = s.odd := by unfold DS.spend; split <;> rfl
  have Hlog := Lib.hid hlog
  have Hsnap := Lib.hid hsnap
  have Hodd := Lib.hid hodd
  obtain ⟨S1, hS1⟩ : ∃ S1, S1 = s.swap b := ⟨_, rfl⟩
  rw [← hS1]
  have HS1 := Lib.hid hS1
  clear hS1 hd hd' hlog hsnap hodd hm
  go_enter Try.func71, Try.ntmps71
  go_wp2_with fail
  refine (spend_dk w g s la sa lc sc hB Hd.out k4 k6).mono ?_
  rintro e w2 ⟨rfl, hB2, hx2⟩
  have hl2 := hl.ext hx2 (fun _ _ h => .inl h)
  have hs2 := hs.ext hx2 (fun _ _ h => .inl h)
  have e1 := hB2.cell 1 _ rfl
  rw [Hodd.out] at e1
  have hsz2 := hx2.size
  have hbd2 : Rd w2 ba (bs b) := by
    by_cases he : b = []
    · rw [he]; exact Rd.nil _ _
    · exact hbd.ext hx2 (fun ad ha h => hbg he ad ha h)
  clear hB hl hs c3 c7
  by_cases hgo : s.left ≠ 1 ∨ s.odd = 0
  rotate_left
  · have h1 : s.left = 1 := Classical.byContradiction fun h => hgo (.inl h)
    have h0 : s.odd ≠ 0 := fun h => hgo (.inr h)
    have hb1 : decide (s.left ≠ 1) = false := decF (by simpa using h1)
    have hb0 : ((s.odd : Int) == 0) = false := by rw [beq_eq_false_iff_ne]; omega
    have Hr := Lib.hid (show S1 = (s.spend, 18) by rw [HS1.out, Hap.out, if_neg hgo, if_pos h1])
    rw [hb1]
    clear h1 h0 hgo hb1
    go_wp2_with fail
    go_ret
    rw [Hr.out]
    exact ⟨rfl, ⟨la, lc, sa, sc, hB2, by rw [Hlog.out]; exact hl2, by rw [Hsnap.out]; exact hs2⟩, hx2⟩
  have key : ∀ (w3 : World) (a' : Option Addr) (c' : Nat), Own w3 w2.heap.size a' 1 b.length c' (bs b) → Ext no w2 w3 →
      Dk (((w3.setCell ⟨g, 6, none⟩ (.slice a' b.length c')).setCell ⟨g, 4, none⟩ (.slice none 0 0)).setCell ⟨g, 5, none⟩ (.int .i64 0)) g { s.spend with snap := b, log := [], synced := 0 } N ∧
      Ext (just g) w (((w3.setCell ⟨g, 6, none⟩ (.slice a' b.length c')).setCell ⟨g, 4, none⟩ (.slice none 0 0)).setCell ⟨g, 5, none⟩ (.int .i64 0)) ∧ w3.cell? ⟨g, 4, none⟩ = some (.slice la s.spend.log.length lc) ∧ w3.frozen? ⟨g, 4, none⟩ = false ∧ w3.frozen? ⟨g, 5, none⟩ = false ∧ w3.cell? ⟨g, 5, none⟩ = some (.int .i64 s.spend.synced) ∧
      w3.cell? ⟨g, 6, none⟩ = some (.slice sa s.spend.snap.length sc) ∧ w3.frozen? ⟨g, 6, none⟩ = false := by
    intro w3 a' c' ho hx
    have hB3 := hB2.ext (by simp [dcells]) hx (fun h => h)
    have hxs := ((Ext.at w3 g 6 (.slice a' b.length c')).comp (Ext.at _ g 4 (.slice none 0 0))).comp (Ext.at _ g 5 (.int .i64 0))
    have hB4 := ((hB3.set 6 (.slice a' b.length c') (by simp [dcells])).set 4 (.slice none 0 0) (by simp [dcells])).set 5 (.int .i64 0) (by simp [dcells])
    refine ⟨⟨none, 0, a', c', ?_, Sl.nil _ _ _, (Sl.own ho (by omega) (fun k hk => by have := hN k hk; omega)).ext hxs (fun _ _ h => .inl h)⟩, (hx2.comp (hx.mono (fun _ _ h => h.elim))).comp hxs, hB3.cell 4 _ rfl, hB3.fr 4, hB3.fr 5, hB3.cell 5 _ rfl, hB3.cell 6 _ rfl, hB3.fr 6⟩
    exact hB4
  have Key := Lib.hid key
  clear key hl2 hs2 hB2
  by_cases h1 : s.left = 1
  · have h0 : s.odd = 0 := by rcases hgo with h | h; exact absurd h1 h; exact h
    have hb1 : decide (s.left ≠ 1) = false := decF (by simpa using h1)
    have hb0 : ((s.odd : Int) == 0) = true := by rw [beq_iff_eq]; omega
    have Hr := Lib.hid (show S1 = ({ s.spend with snap := b, log := [], synced := 0 }, 18) by rw [HS1.out, Hap.out, if_pos hgo, if_pos h1])
    rw [hb1]
    clear h1 h0 hgo hb1
    go_wp2_with fail
    refine (own_any w2 ba bc b hbd2 (by omega)).mono ?_
    rintro e w3 ⟨a', c', rfl, ho, hx⟩
    obtain ⟨q1, q2, q3, q4, q5, q6, q7, q8⟩ := Key.out w3 a' c' ho hx
    go_wp2_with fail
    go_ret
    rw [Hr.out]
    exact ⟨rfl, q1, q2⟩
  · have hb1 : decide (s.left ≠ 1) = true := decT h1
    have Hr := Lib.hid (show S1 = ({ s.spend with snap := b, log := [], synced := 0 }, 0) by rw [HS1.out, Hap.out, if_pos hgo, if_neg h1])
    rw [hb1]
    clear h1 hgo hb1
    go_wp2_with fail
    refine (own_any w2 ba bc b hbd2 (by omega)).mono ?_
    rintro e w3 ⟨a', c', rfl, ho, hx⟩
    obtain ⟨q1, q2, q3, q4, q5, q6, q7, q8⟩ := Key.out w3 a' c' ho hx
    go_wp2_with fail
    go_ret
    rw [Hr.out]
    exact ⟨rfl, q1, q2⟩

theorem log_any' (w : World) (g : Nat) (s : DS) (N : Nat → Prop) (h : Dk w g s N) (hok : s.ok) :
    Calls Try.prog 20 #[.pointer (some ⟨g, 0, none⟩)] w fun e w' => ∃ a c, e = .returned (.slice a s.log.length c) ∧ Own w' w.heap.size a 1 s.log.length c (bs s.log) ∧ Ext no w w' := by
  obtain ⟨la, lc, sa, sc, hB, hl, hs⟩ := h
  obtain ⟨k1, k2, k3, k4, k5, k6⟩ := hok
  have c4 := hB.cell 4 _ rfl
  have hlr := hl.1
  go_enter Try.func20, Try.ntmps20
  go_wp2_with fail
  refine (own_any w la lc s.log hlr (by omega)).mono ?_
  rintro e w3 ⟨a', c', rfl, ho, hx⟩
  go_wp2_with fail
  go_ret
  exact ⟨a', c', rfl, ho, hx⟩

theorem snap_any (w : World) (g : Nat) (s : DS) (N : Nat → Prop) (h : Dk w g s N) (hok : s.ok) :
    Calls Try.prog 21 #[.pointer (some ⟨g, 0, none⟩)] w fun e w' => ∃ a c, e = .returned (.slice a s.snap.length c) ∧ Own w' w.heap.size a 1 s.snap.length c (bs s.snap) ∧ Ext no w w' := by
  obtain ⟨la, lc, sa, sc, hB, hl, hs⟩ := h
  obtain ⟨k1, k2, k3, k4, k5, k6⟩ := hok
  have c6 := hB.cell 6 _ rfl
  have hsr := hs.1
  go_enter Try.func21, Try.ntmps21
  go_wp2_with fail
  refine (own_any w sa sc s.snap hsr (by omega)).mono ?_
  rintro e w3 ⟨a', c', rfl, ho, hx⟩
  go_wp2_with fail
  go_ret
  exact ⟨a', c', rfl, ho, hx⟩

theorem dead_any (w : World) (g : Nat) (s : DS) (N : Nat → Prop) (h : Dk w g s N) :
    Calls Try.prog 29 #[.pointer (some ⟨g, 0, none⟩)] w fun e w' => e = .returned (.bool s.dead) ∧ w = w' := by
  obtain ⟨la, lc, sa, sc, hB, hl, hs⟩ := h
  have c3 := hB.cell 3 _ rfl
  go_enter Try.func29, Try.ntmps29
  go_wp2_with fail
  go_ret
  exact ⟨rfl, rfl⟩
set_option maxHeartbeats 1000000 in
theorem stop_any (w : World) (g : Nat) (s : DS) (N : Nat → Prop) (h : Dk w g s N) (n : Int) (hn : I64ok n) :
    Calls Try.prog 28 #[.pointer (some ⟨g, 0, none⟩), .int .i64 n] w fun e w' => e = .returned (.tuple #[]) ∧ Dk w' g (s.stop n) N ∧ Ext (just g) w w' := by
  obtain ⟨hn1, hn2⟩ := hn
  obtain ⟨la, lc, sa, sc, hB, hl, hs⟩ := h
  have c0 := hB.cell 0 _ rfl
  have c1 := hB.cell 1 _ rfl
  have f0 := hB.fr 0
  have f1 := hB.fr 1
  have hxs := (Ext.at w g 0 (.int .i64 n.toNat)).comp (Ext.at _ g 1 (.int .i64 (n.toNat % 2 : Nat)))
  have hB4 := (hB.set 0 (.int .i64 n.toNat) (by simp [dcells])).set 1 (.int .i64 (n.toNat % 2 : Nat)) (by simp [dcells])
  have hDk : Dk ((w.setCell ⟨g, 0, none⟩ (.int .i64 n.toNat)).setCell ⟨g, 1, none⟩ (.int .i64 (n.toNat % 2 : Nat))) g (s.stop n) N := ⟨la, lc, sa, sc, hB4, hl.ext hxs (fun _ _ h => .inl h), hs.ext hxs (fun _ _ h => .inl h)⟩
  have H := Lib.hid (And.intro hDk hxs)
  clear hDk hxs hB4
  by_cases hneg : n < 0
  · have H2 : Hid (Dk ((w.setCell ⟨g, 0, none⟩ (.int .i64 0)).setCell ⟨g, 1, none⟩ (.int .i64 0)) g (s.stop n) N ∧ Ext (just g) w ((w.setCell ⟨g, 0, none⟩ (.int .i64 0)).setCell ⟨g, 1, none⟩ (.int .i64 0))) := Lib.hid (by
      have h0 : n.toNat = 0 := by omega
      have := H.out
      rw [h0] at this
      exact this)
    clear H
    go_enter Try.func28, Try.ntmps28
    go_wp2_with fail
    go_end0
    exact ⟨rfl, H2.out⟩
  · have hpos : 0 ≤ n := by omega
    have H2 : Hid (Dk ((w.setCell ⟨g, 0, none⟩ (.int .i64 n)).setCell ⟨g, 1, none⟩ (.int .i64 (n % 2))) g (s.stop n) N ∧ Ext (just g) w ((w.setCell ⟨g, 0, none⟩ (.int .i64 n)).setCell ⟨g, 1, none⟩ (.int .i64 (n % 2)))) := Lib.hid (by
      have h0 : (n.toNat : Int) = n := by omega
      have h2 : ((n.toNat % 2 : Nat) : Int) = n % 2 := by omega
      have := H.out
      rw [h0, h2] at this
      exact this)
    clear H
    go_enter Try.func28, Try.ntmps28
    go_wp2_with fail
    go_end0
    exact ⟨rfl, H2.out⟩

set_option maxHeartbeats 1000000 in
theorem new_bad (w : World) (room : Int) (hr : room < 1 ∨ 16777216 < room) :
    Calls Try.prog 12 #[.int .i64 room] w fun e w' => e = .returned (.tuple #[.pointer none, .int .i64 1]) ∧ w = w' := by
  rcases hr with hr | hr
  · have d1 : decide (room < 1) = true := decT hr
    go_enter Try.func12, Try.ntmps12
    go_wp2_with fail
    go_ret2
    exact ⟨rfl, rfl⟩
  · have d1 : decide (room < 1) = false := decF (by omega)
    have d2 : decide (16777216 < room) = true := decT hr
    go_enter Try.func12, Try.ntmps12
    go_wp2_with fail
    go_ret2
    exact ⟨rfl, rfl⟩

set_option maxHeartbeats 1000000 in
theorem newdisk_any (w : World) (room : Nat) (hr1 : 1 ≤ room) (hr2 : room ≤ 16777216) (N : Nat → Prop) :
    Calls Try.prog 12 #[.int .i64 room] w fun e w' => ∃ g, e = .returned (.tuple #[.pointer (some ⟨g, 0, none⟩), .int .i64 0]) ∧ Dk w' g (DS.new room) N ∧ w.heap.size ≤ g ∧ Ext no w w' := by
  have d1 : decide ((room : Int) < 1) = false := decF (by omega)
  have d2 : decide (16777216 < (room : Int)) = false := decF (by omega)
  go_enter Try.func12, Try.ntmps12
  go_wp2_with fail
  go_ret2
  refine ⟨_, rfl, ⟨none, 0, none, 0, ?_, Sl.nil _ _ _, Sl.nil _ _ _⟩, Nat.le_refl _, Ext.alloc no _ _⟩
  exact Blk.lit w _ _
end Go.Proofs.Ytpljcnjkdjblmaa

/- The walk of the package disk: Crash. -/
namespace Go.Proofs.Ytpljcnjkdjblmaa
open Go.RowKit Go.Esc
set_option linter.unusedVariables false

set_option maxHeartbeats 2000000 in
theorem crash_any (w : World) (g : Nat) (s : DS) (N : Nat → Prop) (h : Dk w g s N) (hN : ∀ k, N k → k < w.heap.size) (hok : s.ok) (pick : Int) (hp : I64ok pick) :
    Calls Try.prog 30 #[.pointer (some ⟨g, 0, none⟩), .int .i64 pick] w fun e w' => e = .returned (.int .i64 (s.keeps pick)) ∧ Dk w' g (s.crash pick) N ∧ Ext (just g) w w' := by
  obtain ⟨hp1, hp2⟩ := hp
  obtain ⟨la, lc, sa, sc, hB, hl, hs⟩ := h
  obtain ⟨k1, k2, k3, k4, k5, k6⟩ := hok
  have hg := hB.lt (by simp [dcells])
  have c4 := hB.cell 4 _ rfl
  have c5 := hB.cell 5 _ rfl
  obtain ⟨M, hM⟩ : ∃ M, M = s.log.length - s.synced + 1 := ⟨_, rfl⟩
  obtain ⟨k, hk⟩ : ∃ k, k = s.keeps pick := ⟨_, rfl⟩
  have hkl := s.keeps_le pick
  rw [← hk] at hkl
  have hMi : (s.log.length : Int) - s.synced + 1 = (M : Int) := by omega
  have u1 : IntKind.i64.wrap ((s.log.length : Int) - s.synced) = (s.log.length : Int) - s.synced := by rw [IntKind.wrap_i64]; omega
  have u2 : IntKind.i64.wrap ((s.log.length : Int) - s.synced + 1) = (M : Int) := by rw [IntKind.wrap_i64]; omega
  have hM1 : 1 ≤ M := by omega
  have hM2 : M ≤ 16777217 := by omega
  have hb := Int.tmod_lt_of_pos pick (show (0 : Int) < M by omega)
  have he := tmod_pos pick M (by omega)
  have hb' : -(M : Int) ≤ pick.tmod M := by
    have e1 := Int.emod_nonneg pick (show (M : Int) ≠ 0 by omega)
    have e2 := Int.emod_lt_of_pos pick (show (0 : Int) < M by omega)
    split at he <;> omega
  have hkk : pick.tmod M % (M : Int) = (k : Int) := by
    have h1 : (k : Int) = pick % (M : Int) := by
      rw [hk]; unfold DS.keeps
      rw [← hM]
      have := Int.emod_nonneg pick (show (M : Int) ≠ 0 by omega)
      omega
    have e1 := Int.emod_nonneg pick (show (M : Int) ≠ 0 by omega)
    have e2 := Int.emod_lt_of_pos pick (show (0 : Int) < M by omega)
    rw [h1]
    split at he
    · rw [he, ← Int.add_emod_right, Int.emod_eq_of_lt (by omega) (by omega)]
    · rw [he, Int.emod_eq_of_lt (by omega) (by omega)]
  have Hk := Lib.hid hk
  have Hkk := Lib.hid hkk
  have Hkey := Lib.hid (show s.crash pick = { s with left := 0, odd := 0, dead := false, log := s.log.take (s.synced + k), synced := s.synced + k } by unfold DS.crash; rw [← hk])
  rw [← hk]
  clear he hk hkk hM hMi
  go_enter Try.func30, Try.ntmps30
  go_upto_region 1 with fail
  go_quiet (fail)
  have hB1 := hB.drewN nq
  have hx1 := Ext.drewN (just g) w nq
  have hl1 : Sl (w.drewN nq) g N la lc s.log := hl.ext (Ext.drewN no _ _) (fun _ _ h => h.elim)
  have hs1 : Sl (w.drewN nq) g N sa sc s.snap := hs.ext (Ext.drewN no _ _) (fun _ _ h => h.elim)
  have hsz1 := hx1.size
  clear hB hl hs c4 c5 u1 u2
  generalize w.drewN nq = w1 at *
  go_upto_region 3 with fail
  have c4 := hB1.cell 4 _ rfl
  have c5 := hB1.cell 5 _ rfl
  have hlc := hl1.2.1
  have hlr : Rd w1.drew la (bs (s.log.take (s.synced + k))) := (hl1.take (s.synced + k)).1.drew
  have Hlen := Lib.hid (show s.synced + k = (s.log.take (s.synced + k)).length by rw [List.length_take]; omega)
  have hB1d := hB1.drew
  have hs1d : Sl w1.drew g N sa sc s.snap := hs1.ext (Ext.drew no _) (fun _ _ h => h.elim)
  rw [show (pick.tmod (M : Int) + (M : Int)) % (M : Int) = (k : Int) from by rw [Int.add_emod_right]; exact Hkk.out]
  --<A
  refine wp_region_E [4, 8] (fun x => x = w1.drew) (by kernel_rfl) ?_
  refine wpE_take 0 (v := ?_) rfl (by kernel_rfl) (by kernel_rfl) (by kernel_rfl) (fun _ _ _ h => h) (rfl : w1.drew = w1.drew) (by rfl) ?_ ?_
  rotate_left
  · (intro wq; go_simp; try with_reducible rfl)
  simp only [Act.put, List.setIfInBounds_toArray, List.set_cons_zero, List.set_cons_succ]
  refine wpE_take 1 (v := ?_) rfl (by kernel_rfl) (by kernel_rfl) (by kernel_rfl) (fun _ _ _ h => h) (rfl : w1.drew = w1.drew) (by rfl) ?_ ?_
  rotate_left
  · (intro wq; go_simp; try with_reducible rfl)
  simp only [Act.put, List.setIfInBounds_toArray, List.set_cons_zero, List.set_cons_succ]
  refine wpE_take 2 (v := ?_) rfl (by kernel_rfl) (by kernel_rfl) (by kernel_rfl) (fun _ _ _ h => h) (rfl : w1.drew = w1.drew) (by rfl) ?_ ?_
  rotate_left
  · (intro wq; go_simp; try with_reducible rfl)
  simp only [Act.put, List.setIfInBounds_toArray, List.set_cons_zero, List.set_cons_succ]
  refine wpE_take 3 (v := ?_) rfl (by kernel_rfl) (by kernel_rfl) (by kernel_rfl) (fun _ _ _ h => h) (rfl : w1.drew = w1.drew) (by rfl) ?_ ?_
  rotate_left
  · (intro wq; go_simp; try with_reducible rfl)
  simp only [Act.put, List.setIfInBounds_toArray, List.set_cons_zero, List.set_cons_succ]
  refine wpE_look 4 (v := .slice la s.log.length lc) rfl rfl (by kernel_rfl) (by kernel_rfl) (by kernel_rfl) (by kernel_rfl) (fun _ _ _ h => h) (rfl : w1.drew = w1.drew) (by rfl) (fun w hS => by subst hS; go_simp) ?_
  simp only [Act.put, List.setIfInBounds_toArray, List.set_cons_zero, List.set_cons_succ]
  refine wpE_take 5 (v := ?_) rfl (by kernel_rfl) (by kernel_rfl) (by kernel_rfl) (fun _ _ _ h => h) (rfl : w1.drew = w1.drew) (by rfl) ?_ ?_
  rotate_left
  · (intro wq; go_simp; try with_reducible rfl)
  simp only [Act.put, List.setIfInBounds_toArray, List.set_cons_zero, List.set_cons_succ]
  refine wpE_take 6 (v := ?_) rfl (by kernel_rfl) (by kernel_rfl) (by kernel_rfl) (fun _ _ _ h => h) (rfl : w1.drew = w1.drew) (by rfl) ?_ ?_
  rotate_left
  · (intro wq; go_simp; try with_reducible rfl)
  simp only [Act.put, List.setIfInBounds_toArray, List.set_cons_zero, List.set_cons_succ]
  refine wpE_take 7 (v := ?_) rfl (by kernel_rfl) (by kernel_rfl) (by kernel_rfl) (fun _ _ _ h => h) (rfl : w1.drew = w1.drew) (by rfl) ?_ ?_
  rotate_left
  · (intro wq; go_simp; try with_reducible rfl)
  simp only [Act.put, List.setIfInBounds_toArray, List.set_cons_zero, List.set_cons_succ]
  refine wpE_look 8 (v := .int .i64 s.synced) rfl rfl (by kernel_rfl) (by kernel_rfl) (by kernel_rfl) (by kernel_rfl) (fun _ _ _ h => h) (rfl : w1.drew = w1.drew) (by rfl) (fun w hS => by subst hS; go_simp) ?_
  simp only [Act.put, List.setIfInBounds_toArray, List.set_cons_zero, List.set_cons_succ]
  refine wpE_take 9 (v := ?_) rfl (by kernel_rfl) (by kernel_rfl) (by kernel_rfl) (fun _ _ _ h => h) (rfl : w1.drew = w1.drew) (by rfl) ?_ ?_
  rotate_left
  · (intro wq; go_simp; try with_reducible rfl)
  simp only [Act.put, List.setIfInBounds_toArray, List.set_cons_zero, List.set_cons_succ]
  refine wpE_take 10 (v := .int .i64 ((s.synced : Int) + k)) rfl (by kernel_rfl) (by kernel_rfl) (by kernel_rfl) (fun _ _ _ h => h) (rfl : w1.drew = w1.drew) (by rfl) (by intro wq; go_simp; rw [IntKind.wrap_i64]; omega) ?_
  simp only [Act.put, List.setIfInBounds_toArray, List.set_cons_zero, List.set_cons_succ]
  refine wpE_take 11 (v := .slice la (s.synced + k) lc) rfl (by kernel_rfl) (by kernel_rfl) (by kernel_rfl) (fun _ _ _ h => h) (rfl : w1.drew = w1.drew) (by rfl) (by intro wq; exact yields_cut_h TBytes rfl rfl rfl (s.synced + k) (by simp) (by omega)) ?_
  simp only [Act.put, List.setIfInBounds_toArray, List.set_cons_zero, List.set_cons_succ]
  refine wpE_exec 12 rfl (by kernel_rfl) (by rfl) ?_
  intro K hK
  go_simp
  refine (own_at w1.drew la (s.synced + k) lc (s.log.take (s.synced + k)) Hlen.out hlr (by rw [← Hlen.out]; omega)).mono ?_
  rintro e w3 ⟨a', c', rfl, ho, hx3⟩
  have hB3 := hB1d.ext (by simp [dcells]) hx3 (fun h => h)
  have q4 := hB3.cell 4 _ rfl
  have f4 := hB3.fr 4
  have hS1 := trivial
  refine hK _ _ (fun x => True) (.inl (by kernel_rfl)) hS1 ?_
  clear hK K
  refine wpE_take 13 (v := ?_) rfl (by kernel_rfl) (by kernel_rfl) (by kernel_rfl) (fun _ _ _ h => h) hS1 (by rfl) ?_ ?_
  rotate_left
  · (intro wq; go_simp; try with_reducible rfl)
  simp only [Act.put, List.setIfInBounds_toArray, List.set_cons_zero, List.set_cons_succ]
  refine wpE_take 14 (v := ?_) rfl (by kernel_rfl) (by kernel_rfl) (by kernel_rfl) (fun _ _ _ h => h) hS1 (by rfl) ?_ ?_
  rotate_left
  · (intro wq; go_simp; try with_reducible rfl)
  simp only [Act.put, List.setIfInBounds_toArray, List.set_cons_zero, List.set_cons_succ]
  refine wpE_exec 15 rfl (by kernel_rfl) (by rfl) ?_
  intro K hK
  go_simp
  have hS2 := trivial
  refine hK _ _ (fun x => True) (.inr (fun x h => trivial)) hS2 ?_
  clear hK K
  refine wpE_done (by kernel_rfl) ?_ _
  have f5 := hB3.fr 5
  have q5 := hB3.cell 5 _ rfl
  have q2 := hB3.cell 2 _ rfl
  have q0 := hB3.cell 0 _ rfl
  have q1 := hB3.cell 1 _ rfl
  have q3 := hB3.cell 3 _ rfl
  have f0 := hB3.fr 0
  have f1 := hB3.fr 1
  have f2 := hB3.fr 2
  have f3 := hB3.fr 3
  have hg3 : g < w1.drew.heap.size := hB1d.lt (by simp [dcells])
  have hxs := (((((Ext.at w3 g 4 (.slice a' (s.synced + k) c')).comp (Ext.at _ g 5 (.int .i64 ((s.synced : Int) + k)))).comp (Ext.at _ g 0 (.int .i64 0))).comp (Ext.at _ g 1 (.int .i64 0))).comp (Ext.at _ g 2 (.int .i64 s.done))).comp (Ext.at _ g 3 (.bool false))
  have hBe := (((((hB3.set 4 (.slice a' (s.synced + k) c') (by simp [dcells])).set 5 (.int .i64 ((s.synced : Int) + k)) (by simp [dcells])).set 0 (.int .i64 0) (by simp [dcells])).set 1 (.int .i64 0) (by simp [dcells])).set 2 (.int .i64 s.done) (by simp [dcells])).set 3 (.bool false) (by simp [dcells])
  have hle := (Sl.own ho hg3 (fun k hk => by have := hN k hk; have := (Ext.drew no w1).size; omega) : Sl w3 g N a' c' (s.log.take (s.synced + k))).ext hxs (fun _ _ h => .inl h)
  have hse := (hs1d.ext hx3 (fun _ _ h => h.elim)).ext hxs (fun _ _ h => .inl h)
  have hxe := ((hx1.comp (Ext.drew _ _)).comp (hx3.mono (fun _ _ h => h.elim))).comp hxs
  go_wp2_with fail
  go_ret
  refine ⟨rfl, ⟨a', c', sa, sc, ?_, ?_, ?_⟩, hxe⟩
  · rw [Hkey.out]
    unfold dcells at hBe ⊢
    simp only [← Hlen.out]
    exact hBe
  · rw [Hkey.out]; exact hle
  · rw [Hkey.out]; exact hse
  -->A
end Go.Proofs.Ytpljcnjkdjblmaa

/- A disk, plainly: what its operations keep. -/
namespace Go.Esc

theorem DS.spend_log (s : DS) : s.spend.log = s.log ∧ s.spend.snap = s.snap ∧ s.spend.room = s.room ∧ s.spend.synced = s.synced ∧ s.spend.odd = s.odd := by
  unfold DS.spend; split <;> exact ⟨rfl, rfl, rfl, rfl, rfl⟩
theorem DS.spend_done (s : DS) : s.spend.done ≤ s.done + 1 ∧ s.spend.left ≤ s.left := by
  unfold DS.spend; split <;> simp
theorem DS.ok_spend {s : DS} (h : s.ok) (hd : s.done ≤ 1000000) : s.spend.ok := by
  obtain ⟨h1, h2, h3, h4, h5, h6⟩ := h
  obtain ⟨e1, e2, e3, e4, e5⟩ := s.spend_log
  obtain ⟨d1, d2⟩ := s.spend_done
  exact ⟨by rw [e4, e1]; exact h1, by rw [e1, e2, e3]; exact h2, by rw [e3]; exact h3, by omega, by rw [e5]; exact h5, by omega⟩
theorem DS.new_ok (room : Nat) (h : room ≤ 16777216) : (DS.new room).ok := ⟨by simp [DS.new], by simp [DS.new], h, by simp [DS.new], by simp [DS.new], by simp [DS.new]⟩
theorem DS.ok_append {s : DS} (h : s.ok) (hd : s.done ≤ 1000000) (b : List UInt8) : (s.append b).1.ok ∧ (s.append b).1.done ≤ s.done + 1 := by
  have hs := DS.ok_spend h hd
  obtain ⟨e1, e2, e3, e4, e5⟩ := s.spend_log
  obtain ⟨d1, d2⟩ := s.spend_done
  obtain ⟨h1, h2, h3, h4, h5, h6⟩ := h
  unfold DS.append
  split
  · exact ⟨⟨h1, h2, h3, h4, h5, h6⟩, by simp⟩
  · split
    · exact ⟨⟨h1, h2, h3, h4, h5, h6⟩, by simp⟩
    · rename_i hr
      refine ⟨⟨?_, ?_, hs.room, hs.left, hs.odd, hs.done⟩, d1⟩
      · simp only [List.length_append, e4]; omega
      · simp only [List.length_append, e2, e3]; omega
theorem DS.ok_sync {s : DS} (h : s.ok) (hd : s.done ≤ 1000000) : s.sync.1.ok ∧ s.sync.1.done ≤ s.done + 1 := by
  have hs := DS.ok_spend h hd
  obtain ⟨e1, e2, e3, e4, e5⟩ := s.spend_log
  obtain ⟨d1, d2⟩ := s.spend_done
  unfold DS.sync
  split
  · exact ⟨h, by simp⟩
  · split
    · exact ⟨hs, d1⟩
    · exact ⟨⟨by simp only [e1]; exact Nat.le_refl _, hs.fits, hs.room, hs.left, hs.odd, hs.done⟩, d1⟩
theorem DS.ok_cut {s : DS} (h : s.ok) (hd : s.done ≤ 1000000) (n : Int) : (s.cut n).1.ok ∧ (s.cut n).1.done ≤ s.done + 1 := by
  have hs := DS.ok_spend h hd
  obtain ⟨e1, e2, e3, e4, e5⟩ := s.spend_log
  obtain ⟨d1, d2⟩ := s.spend_done
  have h2 := h.fits
  unfold DS.cut
  split
  · exact ⟨h, by simp⟩
  · split
    · exact ⟨h, by simp⟩
    · split
      · refine ⟨⟨?_, ?_, hs.room, hs.left, hs.odd, hs.done⟩, d1⟩
        · simp only [List.length_take]; omega
        · simp only [List.length_take, e2, e3]; omega
      · exact ⟨hs, d1⟩
theorem DS.ok_swap {s : DS} (h : s.ok) (hd : s.done ≤ 1000000) (b : List UInt8) : (s.swap b).1.ok ∧ (s.swap b).1.done ≤ s.done + 1 := by
  have hs := DS.ok_spend h hd
  obtain ⟨e1, e2, e3, e4, e5⟩ := s.spend_log
  obtain ⟨d1, d2⟩ := s.spend_done
  unfold DS.swap
  split
  · exact ⟨h, by simp⟩
  · split
    · exact ⟨h, by simp⟩
    · split
      · refine ⟨⟨?_, ?_, hs.room, hs.left, hs.odd, hs.done⟩, d1⟩
        · simp
        · simp only [List.length_nil, e3]; omega
      · exact ⟨hs, d1⟩
theorem DS.ok_stop {s : DS} (h : s.ok) (n : Int) (hn : I64ok n) : (s.stop n).ok := by
  unfold I64ok at hn
  exact ⟨h.sync, h.fits, h.room, by simp only [DS.stop]; omega, by simp only [DS.stop]; omega, h.done⟩
theorem DS.ok_crash {s : DS} (h : s.ok) (pick : Int) : (s.crash pick).ok := by
  have hk := s.keeps_le pick
  have h1 := h.sync
  have h2 := h.fits
  refine ⟨?_, ?_, h.room, by simp [DS.crash], by simp [DS.crash], h.done⟩
  · simp only [DS.crash, List.length_take]; omega
  · simp only [DS.crash, List.length_take]; omega
/-- Where the power does not go. -/
theorem DS.append_live {s : DS} (hd : s.dead = false) (hl : s.left = 0) (b : List UInt8) (hr : s.log.length + s.snap.length + b.length ≤ s.room) : s.append b = ({ s with done := s.done + 1, log := s.log ++ b }, 0) := by
  unfold DS.append DS.spend
  rw [if_neg (by rw [hd]; simp), if_neg (by omega), if_neg (by omega), if_neg (by omega)]
  simp [hl]
theorem DS.sync_live {s : DS} (hd : s.dead = false) (hl : s.left = 0) : s.sync = ({ s with done := s.done + 1, synced := s.log.length }, 0) := by
  unfold DS.sync DS.spend
  rw [if_neg (by rw [hd]; simp), if_neg (by omega), if_neg (by omega)]
  simp [hl]
theorem DS.cut_live {s : DS} (hd : s.dead = false) (hl : s.left = 0) (n : Nat) (hn : n ≤ s.log.length) : s.cut n = ({ s with done := s.done + 1, log := s.log.take n, synced := n }, 0) := by
  unfold DS.cut DS.spend
  rw [if_neg (by rw [hd]; simp), if_neg (by omega)]
  simp [hl]
theorem DS.swap_live {s : DS} (hd : s.dead = false) (hl : s.left = 0) (b : List UInt8) (hr : b.length ≤ s.room) : s.swap b = ({ s with done := s.done + 1, snap := b, log := [], synced := 0 }, 0) := by
  unfold DS.swap DS.spend
  rw [if_neg (by rw [hd]; simp), if_neg (by omega)]
  simp [hl]
end Go.Esc

/- A journal, plainly; walks of Add, Snap, Count. -/
namespace Go.Esc

/-- A record is laid behind the others; a snapshot in the place of all. -/
def DS.jadd (s : DS) (b : List UInt8) : DS × Nat := if (s.append (frame b)).2 ≠ 0 then s.append (frame b) else (s.append (frame b)).1.sync
def DS.jsnap (s : DS) (b : List UInt8) : DS × Nat := s.swap (frame b)
/-- What Open finds. -/
def DS.opens (s : DS) : DS × Nat × List UInt8 × List (List UInt8) :=
  if s.dead = true then (s, 18, [], []) else
  if s.snap ≠ [] ∧ (one s.snap).2 ≠ 0 then (s, 10, [], []) else
  if (frScan s.log).2 < s.log.length then
    (if (s.cut (frScan s.log).2).2 ≠ 0 then ((s.cut (frScan s.log).2).1, (s.cut (frScan s.log).2).2, [], []) else ((s.cut (frScan s.log).2).1, 0, if s.snap = [] then [] else (one s.snap).1, (frScan s.log).1))
  else (s, 0, if s.snap = [] then [] else (one s.snap).1, (frScan s.log).1)

/-- How many records stand behind the snapshot: n1, if k is no error. -/
def tally (k n1 n : Nat) : Nat := if k = 0 then n1 else n
theorem tally_ok (n1 n : Nat) : tally 0 n1 n = n1 := rfl
theorem tally_err {k : Nat} (h : k ≠ 0) (n1 n : Nat) : tally k n1 n = n := if_neg h

def either (g j : Nat) : Nat → Prop := fun k => k = g ∨ k = j
end Go.Esc
namespace Go.Proofs.Ytpljcnjkdjblmaa
open Go.RowKit Go.Esc
set_option linter.unusedVariables false

theorem jmkFunc : ∀ (fn : Fn) (first cap : Array Value) (w : World), (Instr.makeFunc fn first cap).run Try.prog w = .ok (.func fn first cap) w := fun _ _ _ _ => rfl

/-- A journal in block j: its disk lies in block g, n records stand behind the snapshot. -/
def jcells (g n : Nat) : List Value := [.pointer (some ⟨g, 0, none⟩), .int .i64 n]
def JEnd (w : World) (g j : Nat) (N : Nat → Prop) (s : DS) (k n : Nat) (e : Ending) (w' : World) : Prop := e = .returned (.int .i64 k) ∧ Dk w' g s N ∧ Blk w' j (jcells g n) ∧ Ext (either g j) w w'

theorem appended_fresh {w w' : World} {a : Option Addr} {n c : Nat} {l : List UInt8} {g : Nat} (h : Own w' w.heap.size a 1 n c (bs l)) (hg : g < w.heap.size) : l ≠ [] → ∀ ad, a = some ad → ad.block ≠ g := fun _ ad ha => by have := (h.base ad ha).1; omega

set_option maxHeartbeats 1000000 in
theorem jadd_any (w : World) (g j n : Nat) (s : DS) (N : Nat → Prop) (h : Dk w g s N) (hJ : Blk w j (jcells g n)) (hjg : j ≠ g) (hNj : N j) (hN : ∀ k, N k → k < w.heap.size) (hok : s.ok) (hd : s.done ≤ 999990) (hn : n ≤ 1099511627776) (ba : Option Addr) (bc : Nat) (b : List UInt8) (hbd : Rd w ba (bs b)) (hbl : b.length ≤ 4194304) :
    Calls Try.prog 51 #[.pointer (some ⟨j, 0, none⟩), .slice ba b.length bc] w (JEnd w g j N (s.jadd b).1 (s.jadd b).2 (tally (s.jadd b).2 (n + 1) n)) := by
  have hgw := h.lt
  go_enter Try.func51, Try.ntmps51
  go_wp2_with fail
  refine (fframe_any w ba bc b hbd hbl).mono ?_
  rintro e w1 ⟨a1, c1, rfl, hown, hx1⟩
  have hJ1 := hJ.ext (by simp [jcells]) hx1 (fun h => h)
  have j0 := hJ1.cell 0 _ rfl
  have hfl : (frame b).length ≤ 1099511627776 := by rw [frame_length]; omega
  have hD1 := h.no hx1
  obtain ⟨hok2, hd2⟩ := DS.ok_append hok (by omega) (frame b)
  have Hj := Lib.hid (show s.jadd b = if (s.append (frame b)).2 ≠ 0 then s.append (frame b) else (s.append (frame b)).1.sync from rfl)
  go_wp2_with fail
  refine (append_any w1 g s N hD1 (fun k hk => Nat.lt_of_lt_of_le (hN k hk) hx1.size) hok a1 c1 (frame b) hown.rd (appended_fresh hown hgw) hfl).mono ?_
  rintro e w2 ⟨rfl, hD2, hx2⟩
  obtain ⟨s1, k, hr⟩ : ∃ s1 k, s.append (frame b) = (s1, k) := ⟨_, _, rfl⟩
  rw [hr] at Hj hok2 hd2 hD2 ⊢
  clear hr
  simp only at Hj hok2 hd2 hD2 ⊢
  have hx02 : Ext (just g) w w2 := (hx1.mono (fun _ _ h => h.elim)).comp hx2
  have hJ2 := hJ1.ext (by simp [jcells]) hx2 hjg
  clear j0 hJ1 hD1
  by_cases hk : k = 0
  rotate_left
  · have hkb : ((k : Int) == 0) = false := by rw [beq_eq_false_iff_ne]; omega
    rw [if_pos hk] at Hj
    go_wp2_with fail
    go_ret
    rw [Hj.out]
    simp only [tally_err hk]
    exact ⟨rfl, hD2, hJ2, hx02.mono (fun _ _ h => .inl h)⟩
  · subst hk
    rw [if_neg (by simp)] at Hj
    have j0 := hJ2.cell 0 _ rfl
    go_wp2_with fail
    refine (sync_any w2 g s1 N hD2 hok2).mono ?_
    rintro e w3 ⟨rfl, hD3, hx3⟩
    obtain ⟨s2, k, hr⟩ : ∃ s2 k, s1.sync = (s2, k) := ⟨_, _, rfl⟩
    rw [hr] at Hj hD3 ⊢
    clear hr
    simp only at hD3 ⊢
    have hx03 := hx02.comp hx3
    have hJ3 := hJ2.ext (by simp [jcells]) hx3 hjg
    clear j0 hJ2
    by_cases hk : k = 0
    rotate_left
    · have hkb : ((k : Int) == 0) = false := by rw [beq_eq_false_iff_ne]; omega
      go_wp2_with fail
      go_ret
      rw [Hj.out]
      simp only [tally_err hk]
      exact ⟨rfl, hD3, hJ3, hx03.mono (fun _ _ h => .inl h)⟩
    · subst hk
      have j1 := hJ3.cell 1 _ rfl
      have f1 := hJ3.fr 1
      go_wp2_with fail
      go_ret
      rw [Hj.out]
      simp only [tally_ok]
      refine ⟨rfl, hD3.ext (Ext.at w3 j 1 _) hjg.symm (fun k _ hk => by simp only [Esc.just] at hk; subst hk; exact hNj), ?_, (hx03.mono (fun _ _ h => .inl h)).comp (Ext.setCell _ _ _ (.inr rfl))⟩
      have := hJ3.set 1 (.int .i64 ((n + 1 : Nat) : Int)) (by simp [jcells])
      simpa [jcells] using this

set_option maxHeartbeats 1000000 in
theorem jsnap_any (w : World) (g j n : Nat) (s : DS) (N : Nat → Prop) (h : Dk w g s N) (hJ : Blk w j (jcells g n)) (hjg : j ≠ g) (hNj : N j) (hN : ∀ k, N k → k < w.heap.size) (hok : s.ok) (ba : Option Addr) (bc : Nat) (b : List UInt8) (hbd : Rd w ba (bs b)) (hbl : b.length ≤ 4194304) :
    Calls Try.prog 52 #[.pointer (some ⟨j, 0, none⟩), .slice ba b.length bc] w (JEnd w g j N (s.jsnap b).1 (s.jsnap b).2 (tally (s.jsnap b).2 0 n)) := by
  have hgw := h.lt
  go_enter Try.func52, Try.ntmps52
  go_wp2_with fail
  refine (fframe_any w ba bc b hbd hbl).mono ?_
  rintro e w1 ⟨a1, c1, rfl, hown, hx1⟩
  have hJ1 := hJ.ext (by simp [jcells]) hx1 (fun h => h)
  have j0 := hJ1.cell 0 _ rfl
  have hfl : (frame b).length ≤ 1099511627776 := by rw [frame_length]; omega
  have hD1 := h.no hx1
  go_wp2_with fail
  refine (swap_any w1 g s N hD1 (fun k hk => Nat.lt_of_lt_of_le (hN k hk) hx1.size) hok a1 c1 (frame b) hown.rd (appended_fresh hown hgw) hfl).mono ?_
  rintro e w2 ⟨rfl, hD2, hx2⟩
  obtain ⟨s1, k, hr⟩ : ∃ s1 k, s.swap (frame b) = (s1, k) := ⟨_, _, rfl⟩
  have Hj := Lib.hid (show s.jsnap b = (s1, k) from hr)
  rw [hr] at hD2 ⊢
  clear hr
  simp only at hD2 ⊢
  have hx02 : Ext (just g) w w2 := (hx1.mono (fun _ _ h => h.elim)).comp hx2
  have hJ2 := hJ1.ext (by simp [jcells]) hx2 hjg
  clear j0 hJ1 hD1
  by_cases hk : k = 0
  rotate_left
  · have hkb : ((k : Int) == 0) = false := by rw [beq_eq_false_iff_ne]; omega
    go_wp2_with fail
    go_ret
    rw [Hj.out]
    simp only [tally_err hk]
    exact ⟨rfl, hD2, hJ2, hx02.mono (fun _ _ h => .inl h)⟩
  · subst hk
    have j1 := hJ2.cell 1 _ rfl
    have f1 := hJ2.fr 1
    go_wp2_with fail
    go_ret
    rw [Hj.out]
    simp only [tally_ok]
    refine ⟨rfl, hD2.ext (Ext.at w2 j 1 _) hjg.symm (fun k _ hk => by simp only [Esc.just] at hk; subst hk; exact hNj), ?_, (hx02.mono (fun _ _ h => .inl h)).comp (Ext.setCell _ _ _ (.inr rfl))⟩
    have := hJ2.set 1 (.int .i64 0) (by simp [jcells])
    simpa [jcells] using this

theorem count_any (w : World) (g j n : Nat) (hJ : Blk w j (jcells g n)) :
    Calls Try.prog 50 #[.pointer (some ⟨j, 0, none⟩)] w fun e w' => e = .returned (.int .i64 n) ∧ w = w' := by
  have j1 := hJ.cell 1 _ rfl
  go_enter Try.func50, Try.ntmps50
  go_wp2_with fail
  go_ret
  exact ⟨rfl, rfl⟩
end Go.Proofs.Ytpljcnjkdjblmaa

/- The walk of journal.Open, first part: its closure, its results. -/
namespace Go.Esc
open Go.RowKit
theorem Ext.setNew {S : Nat → Prop} {w0 w : World} {b : Nat} (hx : Ext S w0 w) (hb : w0.heap.size ≤ b) (k : Nat) (v : Value) : Ext S w0 (w.setCell ⟨b, k, none⟩ v) :=
  hx.trans (Ext.setCell (S := just b) w ⟨b, k, none⟩ v rfl) (fun i hi h => by simp only [Esc.just] at h; omega)
end Go.Esc
namespace Go.Proofs.Ytpljcnjkdjblmaa
open Go.RowKit Go.Esc
set_option linter.unusedVariables false

theorem results_cell4 {P : Program} {fn : Func} {p1 p2 p3 p4 : Tmp} {t1 t2 t3 t4 : TypeId} (h : fn.results = #[.cell p1 t1, .cell p2 t2, .cell p3 t3, .cell p4 t4]) (tmps : Array Value) (w : World) {a1 a2 a3 a4 : Addr} {v1 v2 v3 v4 : Value}
    (e1 : tmps.getD p1 undef = .pointer (some a1)) (e2 : tmps.getD p2 undef = .pointer (some a2)) (e3 : tmps.getD p3 undef = .pointer (some a3)) (e4 : tmps.getD p4 undef = .pointer (some a4))
    (l1 : (loadVar t1 a1).run P w = .ok v1 w) (l2 : (loadVar t2 a2).run P w = .ok v2 w) (l3 : (loadVar t3 a3).run P w = .ok v3 w) (l4 : (loadVar t4 a4).run P w = .ok v4 w) :
    (results fn tmps).run P w = .ok (.tuple #[v1, v2, v3, v4]) w := by
  rw [Array.getD_eq_getD_getElem?] at e1 e2 e3 e4
  simp only [results, h]
  simp [Sem.run_bind, Result.andThen, asAddr, e1, e2, e3, e4, l1, l2, l3, l4]

theorem ld_j (w : World) (g : Nat) (v : Value) (h : Blk w g [v]) : (loadVar 74 ⟨g, 0, none⟩).run Try.prog w = .ok v w := by
  have c := h.cell 0 _ rfl
  go_simp
theorem ld_b (w : World) (g : Nat) (v : Value) (h : Blk w g [v]) : (loadVar 37 ⟨g, 0, none⟩).run Try.prog w = .ok v w := by
  have c := h.cell 0 _ rfl
  go_simp
theorem ld_l (w : World) (g : Nat) (v : Value) (h : Blk w g [v]) : (loadVar 75 ⟨g, 0, none⟩).run Try.prog w = .ok v w := by
  have c := h.cell 0 _ rfl
  go_simp
theorem ld_e (w : World) (g : Nat) (v : Value) (h : Blk w g [v]) : (loadVar 25 ⟨g, 0, none⟩).run Try.prog w = .ok v w := by
  have c := h.cell 0 _ rfl
  go_simp

/-- The deferred closure, where there was no error. -/
theorem open1_ok (w : World) (b2 b3 b4 b5 : Nat) (h5 : Blk w b5 [.int .i64 0]) :
    CallsD Try.prog 42 #[.pointer (some ⟨b5, 0, none⟩), .pointer (some ⟨b2, 0, none⟩), .pointer (some ⟨b3, 0, none⟩), .pointer (some ⟨b4, 0, none⟩)] .returning w fun e u' w' => u' = .returning ∧ e = .returned (.tuple #[]) ∧ w' = w := by
  have c5 := h5.cell 0 _ rfl
  go_enter_d Try.func42, Try.ntmps42
  go_wp2_with fail
  go_end0
  exact ⟨rfl, rfl⟩
/-- .. where there was one: all is made nothing. -/
theorem open1_err (w : World) (b2 b3 b4 b5 : Nat) (k : Nat) (hk : k ≠ 0) (v2 v3 v4 : Value) (h5 : Blk w b5 [.int .i64 k]) (h2 : Blk w b2 [v2]) (h3 : Blk w b3 [v3]) (h4 : Blk w b4 [v4]) (n23 : b2 ≠ b3) (n24 : b2 ≠ b4) (n34 : b3 ≠ b4) :
    CallsD Try.prog 42 #[.pointer (some ⟨b5, 0, none⟩), .pointer (some ⟨b2, 0, none⟩), .pointer (some ⟨b3, 0, none⟩), .pointer (some ⟨b4, 0, none⟩)] .returning w fun e u' w' => u' = .returning ∧ e = .returned (.tuple #[]) ∧
      w' = ((w.setCell ⟨b2, 0, none⟩ (.pointer none)).setCell ⟨b3, 0, none⟩ (.slice none 0 0)).setCell ⟨b4, 0, none⟩ (.slice none 0 0) := by
  have c5 := h5.cell 0 _ rfl
  have c2 := h2.cell 0 _ rfl
  have c3 := h3.cell 0 _ rfl
  have c4 := h4.cell 0 _ rfl
  have f2 := h2.fr 0
  have f3 := h3.fr 0
  have f4 := h4.fr 0
  have hkb : ((k : Int) != 0) = true := by simp; omega
  go_enter_d Try.func42, Try.ntmps42
  go_wp2_with fail
  go_end0
  exact ⟨rfl, rfl⟩
end Go.Proofs.Ytpljcnjkdjblmaa

/- A disk whose power does not go, and a journal on it, plainly. -/
namespace Go.Esc
theorem new_opens (room : Nat) : (DS.new room).opens = (DS.new room, 0, [], []) := by
  have h : frScan [] = ([], 0) := frScan_none (by unfold frameAt; rw [if_neg (by simp)])
  unfold DS.opens
  rw [if_neg (by simp [DS.new]), if_neg (by simp [DS.new])]
  simp [DS.new, h]

/-- A disk with this log and this snapshot, of at most D operations, whose power will not go. -/
structure Well (s : DS) (log snap : List UInt8) (room D : Nat) : Prop where
  dead : s.dead = false
  left : s.left = 0
  ilog : s.log = log
  isnap : s.snap = snap
  iroom : s.room = room
  done : s.done ≤ D
  odd : s.odd ≤ 1
  sync : s.synced ≤ log.length
theorem Well.ok {s : DS} {log snap : List UInt8} {room D : Nat} (h : Well s log snap room D) (hf : log.length + snap.length ≤ room) (hr : room ≤ 16777216) (hD : D ≤ 999990) : s.ok :=
  ⟨by rw [h.ilog]; exact h.sync, by rw [h.ilog, h.isnap, h.iroom]; exact hf, by rw [h.iroom]; exact hr, by rw [h.left]; omega, h.odd, by have := h.done; omega⟩
theorem Well.new (room : Nat) : Well (DS.new room) [] [] room 0 := ⟨rfl, rfl, rfl, rfl, rfl, Nat.le_refl _, by simp [DS.new], by simp [DS.new]⟩
theorem Well.more {s : DS} {log snap : List UInt8} {room D D' : Nat} (h : Well s log snap room D) (hD : D ≤ D') : Well s log snap room D' :=
  ⟨h.dead, h.left, h.ilog, h.isnap, h.iroom, Nat.le_trans h.done hD, h.odd, h.sync⟩
theorem Well.append {s : DS} {log snap : List UInt8} {room D : Nat} (h : Well s log snap room D) (b : List UInt8) (hf : log.length + snap.length + b.length ≤ room) :
    (s.append b).2 = 0 ∧ Well (s.append b).1 (log ++ b) snap room (D + 1) := by
  rw [DS.append_live h.dead h.left b (by rw [h.ilog, h.isnap, h.iroom]; exact hf)]
  exact ⟨rfl, h.dead, h.left, by simp only [h.ilog], h.isnap, h.iroom, by have := h.done; simp only; omega, h.odd, by have := h.sync; simp only [List.length_append]; omega⟩
theorem Well.jadd {s : DS} {log snap : List UInt8} {room D : Nat} (h : Well s log snap room D) (b : List UInt8) (hf : log.length + snap.length + (b.length + 8) ≤ room) :
    (s.jadd b).2 = 0 ∧ Well (s.jadd b).1 (log ++ frame b) snap room (D + 2) := by
  obtain ⟨h1, h2⟩ := h.append (frame b) (by rw [frame_length]; exact hf)
  unfold DS.jadd
  rw [if_neg (by omega), DS.sync_live h2.dead h2.left]
  exact ⟨rfl, h2.dead, h2.left, h2.ilog, h2.isnap, h2.iroom, by have := h2.done; simp only; omega, h2.odd, by simp only [h2.ilog]; exact Nat.le_refl _⟩
theorem Well.jsnap {s : DS} {log snap : List UInt8} {room D : Nat} (h : Well s log snap room D) (b : List UInt8) (hf : b.length + 8 ≤ room) :
    (s.jsnap b).2 = 0 ∧ Well (s.jsnap b).1 [] (frame b) room (D + 1) := by
  unfold DS.jsnap
  rw [DS.swap_live h.dead h.left (frame b) (by rw [h.iroom, frame_length]; exact hf)]
  exact ⟨rfl, h.dead, h.left, rfl, rfl, h.iroom, by have := h.done; simp only; omega, h.odd, by simp⟩
/-- What a snapshot's bytes say. -/
def said (snap : List UInt8) : List UInt8 := if snap = [] then [] else (one snap).1
theorem Well.opens {s : DS} {log snap : List UInt8} {room D : Nat} (h : Well s log snap room D) (ho : snap = [] ∨ (one snap).2 = 0) :
    ∃ s', s.opens = (s', 0, said snap, (frScan log).1) ∧ Well s' (log.take (frScan log).2) snap room (D + 1) := by
  have hsc := (frScan_le log.length log (Nat.le_refl _)).1
  unfold DS.opens said
  rw [if_neg (by rw [h.dead]; simp), h.isnap, h.ilog, if_neg (by rcases ho with ho | ho; exact fun hh => hh.1 ho; exact fun hh => hh.2 ho)]
  by_cases hc : (frScan log).2 < log.length
  · rw [if_pos hc, DS.cut_live h.dead h.left (frScan log).2 (by rw [h.ilog]; exact hsc)]
    exact ⟨_, rfl, h.dead, h.left, by simp only [h.ilog], h.isnap, h.iroom, by have := h.done; simp only; omega, h.odd, by simp only [List.length_take]; omega⟩
  · rw [if_neg hc]
    exact ⟨s, rfl, by rw [List.take_of_length_le (by omega)]; exact h.more (by omega)⟩
/-- .. where the log holds frames and what is none. -/
theorem Well.reopens {s : DS} {snap : List UInt8} {L : List (List UInt8)} {t : List UInt8} {room D : Nat} (h : Well s (L.flatMap frame ++ t) snap room D) (ho : snap = [] ∨ (one snap).2 = 0) (hL : ∀ b ∈ L, b.length ≤ 4194304) (ht : (frScan t).1 = []) :
    ∃ s', s.opens = (s', 0, said snap, L) ∧ Well s' (L.flatMap frame) snap room (D + 1) := by
  have h2 : (frScan t).2 = 0 := by
    cases hf : frameAt t with
    | none => rw [frScan_none hf]
    | some b => rw [frScan_some hf] at ht; cases ht
  obtain ⟨s', h1, h3⟩ := h.opens ho
  rw [frScan_frames L t hL, ht, h2] at h1 h3
  simp only [List.append_nil, Nat.add_zero, List.take_left] at h1 h3
  exact ⟨s', h1, h3⟩
theorem said_frame (b : List UInt8) (h : b.length ≤ 4194304) : said (frame b) = b := by
  unfold said
  rw [if_neg (fun e => by have := frame_length b; rw [e] at this; simp at this), one_frame b h]
theorem frScan_nil : frScan [] = ([], 0) := frScan_short (by simp)
theorem flat_take {L : List (List UInt8)} {k : Nat} (h : k < L.length) : (L.take (k + 1)).flatMap frame = (L.take k).flatMap frame ++ frame L[k] := by
  rw [List.take_succ_eq_append_getElem h, List.flatMap_append, List.flatMap_singleton]
theorem flat_len {L : List (List UInt8)} {n : Nat} (h : ∀ b ∈ L, b.length ≤ n) : (L.flatMap frame).length ≤ (n + 8) * L.length := by
  induction L with
  | nil => simp
  | cons b L ih =>
    have h1 := h b (by simp)
    have h2 := ih (fun x hx => h x (by simp [hx]))
    rw [List.flatMap_cons, List.length_append, frame_length, List.length_cons, Nat.mul_succ]
    omega
end Go.Esc
