/- What the statements of chapter 2 say, in plain terms: of no program. -/
import Derived.Test.YtpljcnjkdjblmaaFrA
namespace Go.Esc

theorem rd4_frame (b r : List UInt8) (h : b.length ≤ 4194304) : rd4 (frame b ++ r) = b.length := by rw [frame_append]; exact rd4_be4 _ (by omega) _
theorem rd4_take (b : List UInt8) (k : Nat) (h : b.length ≤ 4194304) (hk : 4 ≤ k) (hk2 : k ≤ (frame b).length) : rd4 ((frame b).take k) = b.length := by
  have h1 := rd4_append ((frame b).take k) ((frame b).drop k) (by rw [List.length_take]; omega)
  rw [List.take_append_drop] at h1
  have h2 := rd4_frame b [] h
  rw [List.append_nil] at h2
  rw [← h1, h2]
theorem one_cut (b : List UInt8) (h : b.length ≤ 4194304) (k : Nat) (hk : k < (frame b).length) : one ((frame b).take k) = ([], 8) := by
  have hl : ((frame b).take k).length = k := by rw [List.length_take]; omega
  have hf := frame_length b
  unfold one
  rw [hl]
  by_cases h8 : k < 8
  · rw [if_pos h8]
  · rw [if_neg h8, rd4_take b k h (by omega) (by omega), if_neg (by omega), if_pos (by omega)]
theorem frameAt_cut (b : List UInt8) (h : b.length ≤ 4194304) (k : Nat) (hk : k < (frame b).length) : frameAt ((frame b).take k) = none := by
  have hl : ((frame b).take k).length = k := by rw [List.length_take]; omega
  have hf := frame_length b
  unfold frameAt
  rw [hl]
  by_cases h8 : k < 8
  · rw [if_neg (by omega)]
  · rw [rd4_take b k h (by omega) (by omega), if_neg (by omega)]
theorem one_more (b m : List UInt8) (h : b.length ≤ 4194304) (hm : m ≠ []) : one (frame b ++ m) = ([], 9) := by
  have hl : (frame b ++ m).length = b.length + 8 + m.length := by rw [List.length_append, frame_length]
  have hm0 : 0 < m.length := List.length_pos_iff.2 hm
  unfold one
  rw [hl, rd4_frame b m h, if_neg (by omega), if_neg (by omega), if_neg (by omega), if_pos (by omega)]
theorem one_long (y : List UInt8) (h8 : 8 ≤ y.length) (h : 4194304 < rd4 y) : one y = ([], 5) := by
  unfold one; rw [if_neg (by omega), if_pos h]
theorem frScan_long (y : List UInt8) (h : 4194304 < rd4 y) : frScan y = ([], 0) := frScan_none (by unfold frameAt; rw [if_neg (by omega)])
theorem rd4_set0 (y : List UInt8) (v : UInt8) (h : 4 ≤ y.length) (hv : 1 ≤ v.toNat) : 4194304 < rd4 (y.set 0 v) := by
  obtain ⟨a, b, c, d, r, rfl⟩ := rd4_split y h
  simp only [List.set_cons_zero, rd4, num4]
  omega

/-- Two rows of bytes that differ at one place. -/
theorem set_split (l : List UInt8) (i : Nat) (h : i < l.length) (x : UInt8) : l = l.take i ++ l[i] :: l.drop (i + 1) ∧ l.set i x = l.take i ++ x :: l.drop (i + 1) := by
  refine ⟨?_, by rw [List.set_eq_take_append_cons_drop, if_pos h]⟩
  have h1 := List.take_append_drop i l
  rw [List.drop_eq_getElem_cons h] at h1
  exact h1.symm
theorem crc_set (l : List UInt8) (i : Nat) (h : i < l.length) (x : UInt8) (hx : x ≠ l[i]) : crc (l.set i x) ≠ crc l := by
  intro he
  obtain ⟨h1, h2⟩ := set_split l i h x
  rw [h2] at he
  conv at he => rhs; rw [h1]
  exact hx (crc_turn _ _ he)
theorem rd4_set (l : List UInt8) (h : 4 ≤ l.length) (i : Nat) (hi : i < 4) (x : UInt8) (hx : x ≠ l[i]) : rd4 (l.set i x) ≠ rd4 l := by
  obtain ⟨a, b, c, d, r, rfl⟩ := rd4_split l h
  have ha := a.toNat_lt
  have hb := b.toNat_lt
  have hc := c.toNat_lt
  have hd := d.toNat_lt
  have hxl := x.toNat_lt
  have key : ∀ y : UInt8, x ≠ y → x.toNat ≠ y.toNat := fun y h e => h (UInt8.toNat_inj.1 e)
  match i, hi with
  | 0, _ => have := key a hx; simp only [List.set_cons_zero, rd4, num4]; omega
  | 1, _ => have := key b hx; simp only [List.set_cons_succ, List.set_cons_zero, rd4, num4]; omega
  | 2, _ => have := key c hx; simp only [List.set_cons_succ, List.set_cons_zero, rd4, num4]; omega
  | 3, _ => have := key d hx; simp only [List.set_cons_succ, List.set_cons_zero, rd4, num4]; omega

/-- A frame one of whose bytes is turned, behind its length. -/
theorem turned_parts (b : List UInt8) (h : b.length ≤ 4194304) (j : Nat) (hj : j < 4 + b.length) (x : UInt8) (hx : (frame b)[4 + j]? ≠ some x) :
    ((frame b).set (4 + j) x).length = b.length + 8 ∧ rd4 ((frame b).set (4 + j) x) = b.length ∧ crc (((frame b).set (4 + j) x).drop 8) ≠ rd4 (((frame b).set (4 + j) x).drop 4) := by
  have hf := frame_length b
  have e0 : (frame b).set (4 + j) x = be4 b.length ++ ((be4 (crc b) ++ b).set j x) := by
    unfold frame
    rw [List.set_append_right _ _ (by rw [be4_length]; omega), be4_length, show 4 + j - 4 = j from by omega]
  have e1 : ((frame b).set (4 + j) x).drop 4 = (be4 (crc b) ++ b).set j x := by rw [e0]; exact List.drop_left' (be4_length _)
  have hxj : ((be4 (crc b) ++ b))[j]? ≠ some x := by
    intro hh; apply hx
    unfold frame
    rw [List.getElem?_append_right (by rw [be4_length]; omega), be4_length, show 4 + j - 4 = j from by omega]
    exact hh
  refine ⟨by rw [List.length_set, hf], by rw [e0]; exact rd4_be4 _ (by omega) _, ?_⟩
  rw [show (8 : Nat) = 4 + 4 from rfl, ← List.drop_drop, e1]
  by_cases h4 : j < 4
  · have e2 : (be4 (crc b) ++ b).set j x = (be4 (crc b)).set j x ++ b := List.set_append_left _ _ (by rw [be4_length]; exact h4)
    rw [e2, List.drop_left' (by rw [List.length_set, be4_length]), rd4_append _ _ (by rw [List.length_set, be4_length]; omega)]
    have hne : x ≠ (be4 (crc b))[j]'(by rw [be4_length]; exact h4) := by
      intro hh; apply hxj
      rw [List.getElem?_append_left (by rw [be4_length]; exact h4), List.getElem?_eq_getElem (by rw [be4_length]; exact h4), hh]
    have h5 := rd4_set (be4 (crc b)) (by rw [be4_length]; omega) j h4 x hne
    have h6 := rd4_be4 (crc b) (crc_lt b) []
    rw [List.append_nil] at h6
    rw [h6] at h5
    exact fun hh => h5 hh.symm
  · obtain ⟨i, rfl⟩ : ∃ i, j = 4 + i := ⟨j - 4, by omega⟩
    have e2 : (be4 (crc b) ++ b).set (4 + i) x = be4 (crc b) ++ b.set i x := by
      rw [List.set_append_right _ _ (by rw [be4_length]; omega), be4_length, show 4 + i - 4 = i from by omega]
    rw [e2, List.drop_left' (be4_length _), rd4_be4 _ (crc_lt b)]
    have hne : x ≠ b[i]'(by omega) := by
      intro hh; apply hxj
      rw [List.getElem?_append_right (by rw [be4_length]; omega), be4_length, show 4 + i - 4 = i from by omega, List.getElem?_eq_getElem (by omega), hh]
    exact crc_set b i (by omega) x hne
theorem turned_one (b : List UInt8) (h : b.length ≤ 4194304) (j : Nat) (hj : j < 4 + b.length) (x : UInt8) (hx : (frame b)[4 + j]? ≠ some x) : one ((frame b).set (4 + j) x) = ([], 10) := by
  obtain ⟨h1, h2, h3⟩ := turned_parts b h j hj x hx
  unfold one
  rw [h1, h2, if_neg (by omega), if_neg (by omega), if_neg (by omega), if_neg (by omega), if_neg h3]
theorem turned_at (b r : List UInt8) (h : b.length ≤ 4194304) (j : Nat) (hj : j < 4 + b.length) (x : UInt8) (hx : (frame b)[4 + j]? ≠ some x) : frameAt ((frame b).set (4 + j) x ++ r) = none := by
  obtain ⟨h1, h2, h3⟩ := turned_parts b h j hj x hx
  have h7 := turned_one b h j hj x hx
  generalize (frame b).set (4 + j) x = t at h1 h2 h7 ⊢
  have h4 : rd4 (t ++ r) = b.length := by rw [rd4_append _ _ (by omega), h2]
  have h5 : (t ++ r).take (8 + rd4 (t ++ r)) = t := by rw [h4, show 8 + b.length = t.length from by omega]; exact List.take_left
  have h6 := (frameAt_one (r := t ++ r) (by rw [List.length_append]; omega) (by omega) (by rw [List.length_append]; omega)).1
  rw [h5] at h6
  rw [h7] at h6
  simpa using h6
end Go.Esc
