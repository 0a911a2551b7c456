/- Operations as they are read, plainly. -/
import Derived.Test.YtddobhihjljcgaaOpP
namespace Go.Esc
open Go.RowKit
theorem rText_len (s : RS) : (rText s).1.length ≤ 65535 := by
  unfold rText
  split
  · simp
  · split
    · simp
    · rename_i n r h
      have := rLen_le _ _ _ h
      split
      · simp only [List.length_take]
        omega
      · simp
theorem pRead_fine (s : RS) : (pRead s).1.ok ∧ (pRead s).1.key.length ≤ 65535 ∧ (pRead s).1.text.length ≤ 65535 ∧ (pRead s).1.dots.length ≤ 8 := by
  have hd : (pRead s).1.dots.length ≤ 8 := by
    unfold pRead
    simp only
    split
    · exact Nat.le_trans (pDots_len _ _) (by omega)
    · rename_i h
      refine Nat.le_trans (pDots_len _ _) ?_
      unfold pBad at h
      omega
  have hk : (pRead s).1.key.length ≤ 65535 := by unfold pRead pHead; exact rText_len _
  have ht : (pRead s).1.text.length ≤ 65535 := by unfold pRead pHead; exact rText_len _
  refine ⟨⟨?_, ?_, ?_, ?_, ?_, ?_, ?_, ?_, ?_⟩, hk, ht, hd⟩
  · unfold pRead pHead; exact pDot_ok _
  · unfold pRead pHead; exact rInt_okn _
  · unfold pRead pHead; exact rInt_okn _
  · unfold pRead pHead; exact rInt_okn _
  · unfold pRead pHead; exact rInt_okn _
  · unfold pRead pHead; exact rInt_okn _
  · exact Nat.le_trans hk (by unfold maxLen; omega)
  · exact Nat.le_trans ht (by unfold maxLen; omega)
  · unfold pRead; exact pDots_ok _ _
end Go.Esc
