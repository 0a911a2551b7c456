/- A disk, plainly: what its operations keep. -/
import Derived.Test.YtpljcnjkdjblmaaDkA
namespace Go.Esc

theorem DS.spend_log (s : DS) : s.spend.log = s.log ∧ s.spend.snap = s.snap ∧ s.spend.room = s.room ∧ s.spend.synced = s.synced ∧ s.spend.odd = s.odd := by
  unfold DS.spend; split <;> exact ⟨rfl, rfl, rfl, rfl, rfl⟩
theorem DS.spend_done (s : DS) : s.spend.done ≤ s.done + 1 ∧ s.spend.left ≤ s.left := by
  unfold DS.spend; split <;> simp
theorem DS.ok_spend {s : DS} (h : s.ok) (hd : s.done ≤ 1000000) : s.spend.ok := by
  obtain ⟨h1, h2, h3, h4, h5, h6⟩ := h
  obtain ⟨e1, e2, e3, e4, e5⟩ := s.spend_log
  obtain ⟨d1, d2⟩ := s.spend_done
  exact ⟨by rw [e4, e1]; exact h1, by rw [e1, e2, e3]; exact h2, by rw [e3]; exact h3, by omega, by rw [e5]; exact h5, by omega⟩
theorem DS.new_ok (room : Nat) (h : room ≤ 16777216) : (DS.new room).ok := ⟨by simp [DS.new], by simp [DS.new], h, by simp [DS.new], by simp [DS.new], by simp [DS.new]⟩
theorem DS.ok_append {s : DS} (h : s.ok) (hd : s.done ≤ 1000000) (b : List UInt8) : (s.append b).1.ok ∧ (s.append b).1.done ≤ s.done + 1 := by
  have hs := DS.ok_spend h hd
  obtain ⟨e1, e2, e3, e4, e5⟩ := s.spend_log
  obtain ⟨d1, d2⟩ := s.spend_done
  obtain ⟨h1, h2, h3, h4, h5, h6⟩ := h
  unfold DS.append
  split
  · exact ⟨⟨h1, h2, h3, h4, h5, h6⟩, by simp⟩
  · split
    · exact ⟨⟨h1, h2, h3, h4, h5, h6⟩, by simp⟩
    · rename_i hr
      refine ⟨⟨?_, ?_, hs.room, hs.left, hs.odd, hs.done⟩, d1⟩
      · simp only [List.length_append, e4]; omega
      · simp only [List.length_append, e2, e3]; omega
theorem DS.ok_sync {s : DS} (h : s.ok) (hd : s.done ≤ 1000000) : s.sync.1.ok ∧ s.sync.1.done ≤ s.done + 1 := by
  have hs := DS.ok_spend h hd
  obtain ⟨e1, e2, e3, e4, e5⟩ := s.spend_log
  obtain ⟨d1, d2⟩ := s.spend_done
  unfold DS.sync
  split
  · exact ⟨h, by simp⟩
  · split
    · exact ⟨hs, d1⟩
    · exact ⟨⟨by simp only [e1]; exact Nat.le_refl _, hs.fits, hs.room, hs.left, hs.odd, hs.done⟩, d1⟩
theorem DS.ok_cut {s : DS} (h : s.ok) (hd : s.done ≤ 1000000) (n : Int) : (s.cut n).1.ok ∧ (s.cut n).1.done ≤ s.done + 1 := by
  have hs := DS.ok_spend h hd
  obtain ⟨e1, e2, e3, e4, e5⟩ := s.spend_log
  obtain ⟨d1, d2⟩ := s.spend_done
  have h2 := h.fits
  unfold DS.cut
  split
  · exact ⟨h, by simp⟩
  · split
    · exact ⟨h, by simp⟩
    · split
      · refine ⟨⟨?_, ?_, hs.room, hs.left, hs.odd, hs.done⟩, d1⟩
        · simp only [List.length_take]; omega
        · simp only [List.length_take, e2, e3]; omega
      · exact ⟨hs, d1⟩
theorem DS.ok_swap {s : DS} (h : s.ok) (hd : s.done ≤ 1000000) (b : List UInt8) : (s.swap b).1.ok ∧ (s.swap b).1.done ≤ s.done + 1 := by
  have hs := DS.ok_spend h hd
  obtain ⟨e1, e2, e3, e4, e5⟩ := s.spend_log
  obtain ⟨d1, d2⟩ := s.spend_done
  unfold DS.swap
  split
  · exact ⟨h, by simp⟩
  · split
    · exact ⟨h, by simp⟩
    · split
      · refine ⟨⟨?_, ?_, hs.room, hs.left, hs.odd, hs.done⟩, d1⟩
        · simp
        · simp only [List.length_nil, e3]; omega
      · exact ⟨hs, d1⟩
theorem DS.ok_stop {s : DS} (h : s.ok) (n : Int) (hn : I64ok n) : (s.stop n).ok := by
  unfold I64ok at hn
  exact ⟨h.sync, h.fits, h.room, by simp only [DS.stop]; omega, by simp only [DS.stop]; omega, h.done⟩
theorem DS.ok_crash {s : DS} (h : s.ok) (pick : Int) : (s.crash pick).ok := by
  have hk := s.keeps_le pick
  have h1 := h.sync
  have h2 := h.fits
  refine ⟨?_, ?_, h.room, by simp [DS.crash], by simp [DS.crash], h.done⟩
  · simp only [DS.crash, List.length_take]; omega
  · simp only [DS.crash, List.length_take]; omega
/-- Where the power does not go. -/
theorem DS.append_live {s : DS} (hd : s.dead = false) (hl : s.left = 0) (b : List UInt8) (hr : s.log.length + s.snap.length + b.length ≤ s.room) : s.append b = ({ s with done := s.done + 1, log := s.log ++ b }, 0) := by
  unfold DS.append DS.spend
  rw [if_neg (by rw [hd]; simp), if_neg (by omega), if_neg (by omega), if_neg (by omega)]
  simp [hl]
theorem DS.sync_live {s : DS} (hd : s.dead = false) (hl : s.left = 0) : s.sync = ({ s with done := s.done + 1, synced := s.log.length }, 0) := by
  unfold DS.sync DS.spend
  rw [if_neg (by rw [hd]; simp), if_neg (by omega), if_neg (by omega)]
  simp [hl]
theorem DS.cut_live {s : DS} (hd : s.dead = false) (hl : s.left = 0) (n : Nat) (hn : n ≤ s.log.length) : s.cut n = ({ s with done := s.done + 1, log := s.log.take n, synced := n }, 0) := by
  unfold DS.cut DS.spend
  rw [if_neg (by rw [hd]; simp), if_neg (by omega)]
  simp [hl]
theorem DS.swap_live {s : DS} (hd : s.dead = false) (hl : s.left = 0) (b : List UInt8) (hr : b.length ≤ s.room) : s.swap b = ({ s with done := s.done + 1, snap := b, log := [], synced := 0 }, 0) := by
  unfold DS.swap DS.spend
  rw [if_neg (by rw [hd]; simp), if_neg (by omega)]
  simp [hl]
end Go.Esc
