/- The laws of chapter 3: what they share. -/
import Derived.Test.YtfihjjbonahahaaDkF
import Derived.Test.YtfihjjbonahahaaStr
import Derived.Lib.SlBytesConst
namespace Go.Esc

theorem DS.spend_log (s : DS) : s.spend.log = s.log ∧ s.spend.snap = s.snap ∧ s.spend.room = s.room ∧ s.spend.synced = s.synced ∧ s.spend.odd = s.odd := by
  unfold DS.spend; split <;> exact ⟨rfl, rfl, rfl, rfl, rfl⟩
theorem DS.spend_done (s : DS) : s.spend.done ≤ s.done + 1 ∧ s.spend.left ≤ s.left := by
  unfold DS.spend; split <;> simp
theorem DS.ok_spend {s : DS} (h : s.ok) (hd : s.done ≤ 1000000) : s.spend.ok := by
  obtain ⟨h1, h2, h3, h4, h5, h6⟩ := h
  obtain ⟨e1, e2, e3, e4, e5⟩ := s.spend_log
  obtain ⟨d1, d2⟩ := s.spend_done
  exact ⟨by rw [e4, e1]; exact h1, by rw [e1, e2, e3]; exact h2, by rw [e3]; exact h3, by omega, by rw [e5]; exact h5, by omega⟩
theorem DS.new_ok (room : Nat) (h : room ≤ 16777216) : (DS.new room).ok := ⟨by simp [DS.new], by simp [DS.new], h, by simp [DS.new], by simp [DS.new], by simp [DS.new]⟩
theorem DS.ok_append {s : DS} (h : s.ok) (hd : s.done ≤ 1000000) (b : List UInt8) : (s.append b).1.ok ∧ (s.append b).1.done ≤ s.done + 1 := by
  have hs := DS.ok_spend h hd
  obtain ⟨e1, e2, e3, e4, e5⟩ := s.spend_log
  obtain ⟨d1, d2⟩ := s.spend_done
  obtain ⟨h1, h2, h3, h4, h5, h6⟩ := h
  unfold DS.append
  split
  · exact ⟨⟨h1, h2, h3, h4, h5, h6⟩, by simp⟩
  · split
    · exact ⟨⟨h1, h2, h3, h4, h5, h6⟩, by simp⟩
    · rename_i hr
      refine ⟨⟨?_, ?_, hs.room, hs.left, hs.odd, hs.done⟩, d1⟩
      · simp only [List.length_append, e4]; omega
      · simp only [List.length_append, e2, e3]; omega
theorem DS.ok_sync {s : DS} (h : s.ok) (hd : s.done ≤ 1000000) : s.sync.1.ok ∧ s.sync.1.done ≤ s.done + 1 := by
  have hs := DS.ok_spend h hd
  obtain ⟨e1, e2, e3, e4, e5⟩ := s.spend_log
  obtain ⟨d1, d2⟩ := s.spend_done
  unfold DS.sync
  split
  · exact ⟨h, by simp⟩
  · split
    · exact ⟨hs, d1⟩
    · exact ⟨⟨by simp only [e1]; exact Nat.le_refl _, hs.fits, hs.room, hs.left, hs.odd, hs.done⟩, d1⟩
theorem DS.ok_cut {s : DS} (h : s.ok) (hd : s.done ≤ 1000000) (n : Int) : (s.cut n).1.ok ∧ (s.cut n).1.done ≤ s.done + 1 := by
  have hs := DS.ok_spend h hd
  obtain ⟨e1, e2, e3, e4, e5⟩ := s.spend_log
  obtain ⟨d1, d2⟩ := s.spend_done
  have h2 := h.fits
  unfold DS.cut
  split
  · exact ⟨h, by simp⟩
  · split
    · exact ⟨h, by simp⟩
    · split
      · refine ⟨⟨?_, ?_, hs.room, hs.left, hs.odd, hs.done⟩, d1⟩
        · simp only [List.length_take]; omega
        · simp only [List.length_take, e2, e3]; omega
      · exact ⟨hs, d1⟩
theorem DS.ok_swap {s : DS} (h : s.ok) (hd : s.done ≤ 1000000) (b : List UInt8) : (s.swap b).1.ok ∧ (s.swap b).1.done ≤ s.done + 1 := by
  have hs := DS.ok_spend h hd
  obtain ⟨e1, e2, e3, e4, e5⟩ := s.spend_log
  obtain ⟨d1, d2⟩ := s.spend_done
  unfold DS.swap
  split
  · exact ⟨h, by simp⟩
  · split
    · exact ⟨h, by simp⟩
    · split
      · refine ⟨⟨?_, ?_, hs.room, hs.left, hs.odd, hs.done⟩, d1⟩
        · simp
        · simp only [List.length_nil, e3]; omega
      · exact ⟨hs, d1⟩
theorem DS.ok_stop {s : DS} (h : s.ok) (n : Int) (hn : I64ok n) : (s.stop n).ok := by
  unfold I64ok at hn
  exact ⟨h.sync, h.fits, h.room, by simp only [DS.stop]; omega, by simp only [DS.stop]; omega, h.done⟩
theorem DS.ok_crash {s : DS} (h : s.ok) (pick : Int) : (s.crash pick).ok := by
  have hk := s.keeps_le pick
  have h1 := h.sync
  have h2 := h.fits
  refine ⟨?_, ?_, h.room, by simp [DS.crash], by simp [DS.crash], h.done⟩
  · simp only [DS.crash, List.length_take]; omega
  · simp only [DS.crash, List.length_take]; omega
/-- Where the power does not go. -/
theorem DS.append_live {s : DS} (hd : s.dead = false) (hl : s.left = 0) (b : List UInt8) (hr : s.log.length + s.snap.length + b.length ≤ s.room) : s.append b = ({ s with done := s.done + 1, log := s.log ++ b }, 0) := by
  unfold DS.append DS.spend
  rw [if_neg (by rw [hd]; simp), if_neg (by omega), if_neg (by omega), if_neg (by omega)]
  simp [hl]
theorem DS.sync_live {s : DS} (hd : s.dead = false) (hl : s.left = 0) : s.sync = ({ s with done := s.done + 1, synced := s.log.length }, 0) := by
  unfold DS.sync DS.spend
  rw [if_neg (by rw [hd]; simp), if_neg (by omega), if_neg (by omega)]
  simp [hl]
theorem DS.cut_live {s : DS} (hd : s.dead = false) (hl : s.left = 0) (n : Nat) (hn : n ≤ s.log.length) : s.cut n = ({ s with done := s.done + 1, log := s.log.take n, synced := n }, 0) := by
  unfold DS.cut DS.spend
  rw [if_neg (by rw [hd]; simp), if_neg (by omega)]
  simp [hl]
theorem DS.swap_live {s : DS} (hd : s.dead = false) (hl : s.left = 0) (b : List UInt8) (hr : b.length ≤ s.room) : s.swap b = ({ s with done := s.done + 1, snap := b, log := [], synced := 0 }, 0) := by
  unfold DS.swap DS.spend
  rw [if_neg (by rw [hd]; simp), if_neg (by omega)]
  simp [hl]
end Go.Esc
namespace Go.Proofs.Ytfihjjbonahahaa
open Go.RowKit Go.Esc

set_option maxHeartbeats 400000 in
theorem within_any (a n : Int) (w : World) (h1 : 0 < n) (h2 : n ≤ 4611686018427387904) (h3 : I64ok a) :
    Calls Try.prog 29 #[.int .i64 a, .int .i64 n] w fun e w' => e = .returned (.int .i64 (a % n)) ∧ w = w' := by
  obtain ⟨h3, h4⟩ := h3
  have hb := Int.tmod_lt_of_pos a h1
  have hb' : -n ≤ a.tmod n := by
    have := tmod_pos a n h1
    have e1 := Int.emod_nonneg a (show n ≠ 0 by omega)
    have e2 := Int.emod_lt_of_pos a h1
    generalize a % n = q at *
    split at this <;> omega
  have he := tmod_pos a n h1
  have He := Lib.hid he
  clear he
  by_cases hn : a.tmod n < 0
  · go_enter Try.func29, Try.ntmps29
    go_wp2
    go_ret
    exact ⟨by rw [He.out, if_pos (by omega)]; rfl, rfl⟩
  · go_enter Try.func29, Try.ntmps29
    go_wp2
    go_ret
    exact ⟨by rw [He.out, if_neg (by omega)]; rfl, rfl⟩


set_option maxHeartbeats 1000000 in
theorem known_any (w : World) : Calls Try.prog 22 #[] w fun e w' => e = .returned (.bool true) ∧ Ext no w w' := by
  have kc := fun (w : World) (C : Array Value) (n c : Nat) => Lib.run_convert_bytes_const (P := Try.prog) w 23 5 C n c Try.underlying23 Try.underlying5
  go_enter Try.func22, Try.ntmps22
  go_wp2_with fail
  refine (newdisk_any w 10 (by omega) (by omega) no).mono ?_
  rintro e w1 ⟨g, rfl, hD1, hg, hx1⟩
  go_wp2_with fail
  have hD2 := hD1.no (Ext.alloc no w1 (.cells #[.int .u8 97, .int .u8 98, .int .u8 99] 5 (3, 4)))
  have hrd := Rd.lit w1 #[.int .u8 97, .int .u8 98, .int .u8 99] 5 (3, 4)
  refine (append_any _ g (DS.new 10) no hD2 (fun k h => h.elim) (DS.new_ok 10 (by omega)) _ 3 [97, 98, 99] hrd (fun _ ad h => by cases h; have := hD1.lt; simp only; omega) (by simp)).mono ?_
  rintro e w2 ⟨rfl, hD3, hx2⟩
  have e1 : (DS.new 10).append [97, 98, 99] = (⟨0, 0, 1, false, [97, 98, 99], 0, [], 10⟩, 0) := rfl
  rw [e1] at hD3 ⊢
  go_wp2_with fail
  refine (crash_any w2 g _ no hD3 (fun k h => h.elim) ⟨by simp, by simp, by simp, by simp, by simp, by simp⟩ 2 ⟨by omega, by omega⟩).mono ?_
  rintro e w3 ⟨rfl, hD4, hx3⟩
  have e2 : (DS.mk 0 0 1 false [97, 98, 99] 0 [] 10).keeps 2 = 2 := rfl
  have e3 : (DS.mk 0 0 1 false [97, 98, 99] 0 [] 10).crash 2 = ⟨0, 0, 1, false, [97, 98], 2, [], 10⟩ := rfl
  rw [e3] at hD4
  rw [e2]
  have hx13 : Ext no w w3 := (hx1.comp (Ext.alloc no _ _)).trans (hx2.comp hx3) (fun i hi h => by simp only [Esc.just] at h; omega)
  clear hx1 hx2 hx3 hD1 hD2 hD3 e1 e2 e3
  go_wp2_with fail
  refine (log_any' w3 g _ no hD4 ⟨by simp, by simp, by simp, by simp, by simp, by simp⟩).mono ?_
  rintro e w4 ⟨a4, c4, rfl, ho, hx4⟩
  have cx : (convert 23 9 (.slice a4 2 c4)).run Try.prog w4 = .ok (.string (str [97, 98])) w4 := convStr _ _ _ _ _ rfl ho.rd
  have hb : ((str [97, 98]).toList == [97, 98]) = true := by rw [toList_str]; rfl
  go_wp2_with fail
  go_ret
  exact ⟨rfl, hx13.comp hx4⟩
end Go.Proofs.Ytfihjjbonahahaa
