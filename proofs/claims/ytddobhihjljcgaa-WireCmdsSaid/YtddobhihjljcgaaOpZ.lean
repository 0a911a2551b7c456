/- What is read is written as it stood. -/
import Derived.Test.YtddobhihjljcgaaOpW
namespace Go.Esc
open Go.RowKit

theorem rInt_e {s : RS} (h : (rInt s).2.e = 0) : s.e = 0 := by
  by_cases h0 : s.e = 0
  · exact h0
  · rw [rInt_skip h0] at h; exact h
theorem rText_e {s : RS} (h : (rText s).2.e = 0) : s.e = 0 := by
  by_cases h0 : s.e = 0
  · exact h0
  · rw [rText_skip h0] at h; exact h
theorem rInt_canon {s : RS} (h : (rInt s).2.e = 0) : s.l = encI (rInt s).1 ++ (rInt s).2.l := by
  have h0 := rInt_e h
  cases hs : scan 0 true s.l with
  | mk v r =>
    cases v with
    | inl k =>
      rw [rInt_err h0 hs] at h
      have := scan_err _ _ _ _ _ hs
      simp only at h
      omega
    | inr u =>
      rw [rInt_ok h0 hs]
      simp only
      rw [encI_sgn]
      exact scan_canon _ _ _ hs
theorem rText_canon {s : RS} (h : (rText s).2.e = 0) : s.l = encT (rText s).1 ++ (rText s).2.l := by
  have h0 := rText_e h
  cases hs : scan 0 true s.l with
  | mk v r =>
    cases v with
    | inl k =>
      rw [rText_err h0 (rLen_err_of hs)] at h
      have := scan_err _ _ _ _ _ hs
      simp only at h
      omega
    | inr u =>
      by_cases hb : 0 ≤ sgn u ∧ sgn u ≤ 65535
      · have hl := rLen_ok_of hs hb.1 hb.2
        by_cases hn : (sgn u).toNat ≤ r.length
        · rw [rText_ok h0 hl hn]
          simp only
          unfold encT
          rw [List.length_take, Nat.min_eq_left hn, Int.toNat_of_nonneg hb.1, encI_sgn, List.append_assoc, List.take_append_drop]
          exact scan_canon _ _ _ hs
        · rw [rText_cut h0 hl (by omega)] at h
          simp only at h
          omega
      · rw [rText_err h0 (rLen_many_of hs hb)] at h
        simp only at h
        omega
theorem pDot_e {s : RS} (h : (pDot s).2.e = 0) : s.e = 0 := by
  unfold pDot at h
  exact rInt_e (rInt_e (rInt_e h))
theorem pDot_canon {s : RS} (h : (pDot s).2.e = 0) : s.l = dotEnc (pDot s).1 ++ (pDot s).2.l := by
  unfold pDot at *
  simp only at *
  have h2 := rInt_e h
  have h1 := rInt_e h2
  rw [rInt_canon h1]
  simp only [dotEnc, List.flatMap_cons, List.flatMap_nil, List.append_nil, List.append_assoc]
  congr 1
  rw [rInt_canon h2]
  congr 1
  exact rInt_canon h
theorem pDots_canon : ∀ (n : Nat) (s : RS), (pDots n s).2.e = 0 → s.l = (pDots n s).1.flatMap dotEnc ++ (pDots n s).2.l ∧ (pDots n s).1.length = n ∧ s.e = 0
  | 0, s, h => ⟨by simp [pDots], rfl, h⟩
  | n + 1, s, h => by
    by_cases h0 : s.e ≠ 0
    · rw [pDots_err h0] at h; exact absurd h h0
    · unfold pDots at *
      rw [if_neg h0] at h ⊢
      simp only at h ⊢
      obtain ⟨h1, h2, h3⟩ := pDots_canon n (pDot s).2 h
      refine ⟨?_, by rw [List.length_cons, h2], by omega⟩
      rw [List.flatMap_cons, List.append_assoc, ← h1]
      exact pDot_canon h3
theorem rFail_e (s : RS) (k : Int) (hk : k ≠ 0) : (rFail s k).e ≠ 0 := by
  unfold rFail
  split
  · exact hk
  · assumption
theorem pHead_canon {s : RS} (h : (pHead s).2.2.e = 0) : s.l = headEnc (pHead s).1 ++ encT (pHead s).1.key ++ encT (pHead s).1.text ++ [(pHead s).1.n, (pHead s).2.1].flatMap encI ++ (pHead s).2.2.l := by
  unfold pHead at *
  simp only at *
  have h8 := rInt_e h
  have h7 := rInt_e h8
  have h6 := rText_e h7
  have h5 := rText_e h6
  have h4 := rInt_e h5
  have h3 := rInt_e h4
  have h2 := rInt_e h3
  have h1 := rInt_e h2
  have c1 := pDot_canon h1
  have c2 := rInt_canon h2
  have c3 := rInt_canon h3
  have c4 := rInt_canon h4
  have c5 := rInt_canon h5
  have c6 := rText_canon h6
  have c7 := rText_canon h7
  have c8 := rInt_canon h8
  have c9 := rInt_canon h
  simp only [headEnc, List.flatMap_cons, List.flatMap_nil, List.append_nil, List.append_assoc]
  rw [c1]
  simp only [dotEnc, List.flatMap_cons, List.flatMap_nil, List.append_nil, List.append_assoc]
  congr 3
  rw [c2]
  congr 1
  rw [c3]
  congr 1
  rw [c4]
  congr 1
  rw [c5]
  congr 1
  rw [c6]
  congr 1
  rw [c7]
  congr 1
  rw [c8]
  congr 1
theorem pRead_canon {s : RS} (h : (pRead s).2.e = 0) : s.l = opEnc (pRead s).1 ++ (pRead s).2.l := by
  unfold pRead at *
  simp only at *
  by_cases hb : pBad (pHead s).2.1
  · rw [if_pos hb, if_pos hb] at h
    have := pDots_err (rFail_e (pHead s).2.2 4 (by omega)) 0
    rw [this] at h
    exact absurd h (rFail_e _ _ (by omega))
  · simp only [if_neg hb] at *
    obtain ⟨h1, h2, h3⟩ := pDots_canon _ _ h
    have c := pHead_canon h3
    have hn : ((pHead s).2.1.toNat : Int) = (pHead s).2.1 := by unfold pBad at hb; omega
    rw [c, h1]
    unfold opEnc headEnc
    simp only
    rw [h2, hn]
    simp only [List.append_assoc]
/-- What is read, and may be, is written as it stood. -/
theorem pOp_canon (l : List UInt8) (h : (pOp l).2 = 0) : opEnc (pOp l).1 = l := by
  unfold pOp at *
  simp only at *
  by_cases h0 : rEnd (pRead ⟨l, 0⟩).2 ≠ 0
  · rw [if_pos h0] at h
    exact absurd h h0
  · rw [if_neg h0] at h ⊢
    by_cases h1 : checkOp (pRead ⟨l, 0⟩).1 ≠ 0
    · rw [if_pos h1] at h
      simp only at h
      omega
    · rw [if_neg h1]
      have he : (pRead ⟨l, 0⟩).2.e = 0 ∧ (pRead ⟨l, 0⟩).2.l = [] := by
        have h2 : rEnd (pRead ⟨l, 0⟩).2 = 0 := by omega
        unfold rEnd at h2
        split at h2
        · omega
        · rename_i h3
          refine ⟨h2, ?_⟩
          cases hl : (pRead ⟨l, 0⟩).2.l with
          | nil => rfl
          | cons a m => exact absurd ⟨h2, by rw [hl]; simp⟩ h3
      have := pRead_canon he.1
      rw [he.2, List.append_nil] at this
      exact this.symm
end Go.Esc
