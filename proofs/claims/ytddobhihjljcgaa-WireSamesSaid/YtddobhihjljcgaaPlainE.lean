/- Reading what was written, whole, with more behind it, or cut: in plain terms. -/
import Derived.Test.YtddobhihjljcgaaPlainC
namespace Go.Esc
open Go.RowKit

/-- How a reading stands while 'rem' is still to be read: 'some R': whole, with R behind; 'none': the end is cut off. -/
def Stand (m : Option (List UInt8)) (rem : List UInt8) (s : RS) (ok : Bool) : Prop :=
  match m with
  | some R => s = ⟨rem ++ R, 0⟩ ∧ ok = true
  | none => s.e = 8 ∨ (s.e = 0 ∧ ∃ t, t ≠ [] ∧ s.l ++ t = rem)

theorem rLen_split {l t : List UInt8} {n : Nat} {r : List UInt8} (h : rLen (l ++ t) = (.inr n, r)) : (r.length < t.length → rLen l = (.inl 8, [])) ∧ (t.length ≤ r.length → ∃ r', rLen l = (.inr n, r') ∧ r = r' ++ t) := by
  unfold rLen at h
  split at h
  · cases h
  · rename_i u r0 hs
    split at h
    · rename_i hu
      simp only [Prod.mk.injEq, Sum.inr.injEq] at h
      obtain ⟨rfl, rfl⟩ := h
      refine ⟨fun hr => rLen_err_of (scan_cut l t 0 true u _ hs hr), fun hr => ?_⟩
      obtain ⟨r', h1, h2⟩ := scan_keep l t 0 true u _ hs hr
      exact ⟨r', rLen_ok_of h1 hu.1 hu.2, h2⟩
    · cases h

theorem rNums_split : ∀ (n : Nat) (acc : List Int) (l t : List UInt8) (ns : List Int) (r : List UInt8), rNums n acc (l ++ t) = (.inr ns, r) → t ≠ [] → (r.length < t.length ∧ ∃ r', rNums n acc l = (.inl 8, r')) ∨ (∃ r', rNums n acc l = (.inr ns, r') ∧ r = r' ++ t)
  | 0, acc, l, t, ns, r, h, ht => by
    simp [rNums] at h
    obtain ⟨rfl, rfl⟩ := h
    exact .inr ⟨l, by simp [rNums], rfl⟩
  | n + 1, acc, l, t, ns, r, h, ht => by
    rw [rNums] at h
    split at h
    · cases h
    · rename_i u r0 hs
      by_cases hr : r0.length < t.length
      · refine .inl ⟨?_, [], ?_⟩
        · have : ∀ (n : Nat) (acc : List Int) (l : List UInt8), (rNums n acc l).2.length ≤ l.length := by
            intro n
            induction n with
            | zero => intro acc l; simp [rNums]
            | succ n ih =>
              intro acc l
              rw [rNums]
              have h0 := scan_len l 0 true
              split
              · rename_i hh; rw [hh] at h0; exact h0
              · rename_i hh; rw [hh] at h0; exact Nat.le_trans (ih _ _) h0
          have := this n (acc ++ [sgn u]) r0
          rw [h] at this
          simp at this; omega
        · rw [rNums, scan_cut l t 0 true u _ hs hr]
      · obtain ⟨r', h1, rfl⟩ := scan_keep l t 0 true u _ hs (by omega)
        rcases rNums_split n _ r' t ns r h ht with ⟨h2, r'', h3⟩ | ⟨r'', h3, h4⟩
        · exact .inl ⟨h2, r'', by rw [rNums, h1]; exact h3⟩
        · exact .inr ⟨r'', by rw [rNums, h1]; exact h3, h4⟩

theorem Stand.int {m : Option (List UInt8)} {rem : List UInt8} {s : RS} {ok : Bool} (n : Int) (hn : I64ok n) (h : Stand m (encI n ++ rem) s ok) : Stand m rem (rInt s).2 (decide ((rInt s).1 = n) && ok) := by
  cases m with
  | some R =>
    obtain ⟨rfl, rfl⟩ := h
    have := rInt_enc n hn (rem ++ R)
    rw [← List.append_assoc] at this
    rw [this]
    exact ⟨rfl, by simp⟩
  | none =>
    rcases h with h8 | ⟨h0, t, ht, he⟩
    · rw [rInt_skip (by omega)]; exact .inl h8
    · have hs := zig_enc n hn rem
      rw [← he] at hs
      by_cases hr : rem.length < t.length
      · rw [rInt_err h0 (scan_cut _ _ _ _ _ _ hs hr)]; exact .inl rfl
      · obtain ⟨r', h1, h2⟩ := scan_keep _ _ _ _ _ _ hs (by omega)
        rw [rInt_ok h0 h1]
        exact .inr ⟨rfl, t, ht, h2.symm⟩

theorem Stand.text {m : Option (List UInt8)} {rem : List UInt8} {s : RS} {ok : Bool} (x : List UInt8) (hx : x.length ≤ 65535) (h : Stand m (encT x ++ rem) s ok) : Stand m rem (rText s).2 (decide ((rText s).1 = x) && ok) := by
  cases m with
  | some R =>
    obtain ⟨rfl, rfl⟩ := h
    have := rText_enc x hx (rem ++ R)
    rw [← List.append_assoc] at this
    rw [this]
    exact ⟨rfl, by simp⟩
  | none =>
    rcases h with h8 | ⟨h0, t, ht, he⟩
    · rw [rText_skip (by omega)]; exact .inl h8
    · have hs : rLen (encT x ++ rem) = (.inr x.length, x ++ rem) := by unfold encT; rw [List.append_assoc]; exact rLen_enc _ hx _
      rw [← he] at hs
      obtain ⟨h1, h2⟩ := rLen_split hs
      by_cases hr : (x ++ rem).length < t.length
      · rw [rText_err h0 (h1 hr)]; exact .inl rfl
      · obtain ⟨r', h3, h4⟩ := h2 (by omega)
        by_cases hn : x.length ≤ r'.length
        · rw [rText_ok h0 h3 hn]
          refine .inr ⟨rfl, t, ht, ?_⟩
          have : (x ++ rem).drop x.length = (r' ++ t).drop x.length := by rw [h4]
          rw [List.drop_left, List.drop_append_of_le_length hn] at this
          exact this.symm
        · rw [rText_cut h0 h3 (by omega)]; exact .inl rfl

theorem Stand.ints {m : Option (List UInt8)} {rem : List UInt8} {s : RS} {ok : Bool} (x : List Int) (hx : x.length ≤ 65535) (hn : ∀ n ∈ x, I64ok n) (h : Stand m (encL x ++ rem) s ok) : Stand m rem (rInts s).2 (decide ((rInts s).1 = x) && ok) := by
  cases m with
  | some R =>
    obtain ⟨rfl, rfl⟩ := h
    have := rInts_enc x hx hn (rem ++ R)
    rw [← List.append_assoc] at this
    rw [this]
    exact ⟨rfl, by simp⟩
  | none =>
    rcases h with h8 | ⟨h0, t, ht, he⟩
    · rw [rInts_skip (by omega)]; exact .inl h8
    · have hs : rLen (encL x ++ rem) = (.inr x.length, x.flatMap encI ++ rem) := by unfold encL; rw [List.append_assoc]; exact rLen_enc _ hx _
      rw [← he] at hs
      obtain ⟨h1, h2⟩ := rLen_split hs
      by_cases hr : (x.flatMap encI ++ rem).length < t.length
      · rw [rInts_err h0 (h1 hr)]; exact .inl rfl
      · obtain ⟨r', h3, h4⟩ := h2 (by omega)
        have h5 := rNums_enc x [] rem hn
        rw [h4] at h5
        rcases rNums_split _ _ _ _ _ _ h5 ht with ⟨_, r'', h6⟩ | ⟨r'', h6, h7⟩
        · rw [rInts_bad h0 h3 h6]; exact .inl rfl
        · rw [rInts_ok h0 h3 h6]
          exact .inr ⟨rfl, t, ht, h7.symm⟩

/-- When all is read: the end says so. -/
theorem Stand.done {m : Option (List UInt8)} {s : RS} {ok : Bool} (h : Stand m [] s ok) : match m with
    | some R => ok = true ∧ rEnd s = (if R = [] then 0 else 9)
    | none => rEnd s = 8 := by
  cases m with
  | some R =>
    obtain ⟨rfl, rfl⟩ := h
    refine ⟨rfl, ?_⟩
    unfold rEnd
    cases R with
    | nil => rfl
    | cons x R => simp
  | none =>
    rcases h with h8 | ⟨h0, t, ht, he⟩
    · simp only
      unfold rEnd
      rw [h8, if_neg (by omega)]
    · simp at he
      exact absurd he.2 ht
theorem rNums_len : ∀ (n : Nat) (acc : List Int) (l : List UInt8) (ns : List Int) (r : List UInt8), rNums n acc l = (.inr ns, r) → ns.length = acc.length + n
  | 0, acc, l, ns, r, h => by simp [rNums] at h; rw [h.1]; rfl
  | n + 1, acc, l, ns, r, h => by
    rw [rNums] at h
    split at h
    · cases h
    · have := rNums_len n _ _ ns r h
      simp at this; omega
theorem rLen_le (l : List UInt8) (n : Nat) (r : List UInt8) (h : rLen l = (.inr n, r)) : n ≤ 65535 := by
  unfold rLen at h
  split at h
  · cases h
  · split at h
    · simp at h; omega
    · cases h
theorem rInts_len (s : RS) : (rInts s).1.length ≤ 65535 := by
  unfold rInts
  split
  · simp
  · split
    · simp
    · rename_i n r hl
      have := rLen_le _ _ _ hl
      split
      · simp
      · rename_i ns r' hn
        have := rNums_len _ _ _ _ _ hn
        simp at this ⊢; omega
end Go.Esc
