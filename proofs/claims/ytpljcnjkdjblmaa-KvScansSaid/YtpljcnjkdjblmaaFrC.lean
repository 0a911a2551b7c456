/- Walks of the package frames: Frame, One. -/
import Derived.Test.YtpljcnjkdjblmaaFrB
namespace Go.Proofs.Ytpljcnjkdjblmaa
open Go.RowKit Go.Esc

set_option maxHeartbeats 400000 in
theorem fframe_any (w : World) (a : Option Addr) (c : Nat) (l : List UInt8) (hrd : Rd w a (bs l)) (hl : l.length ≤ 4194304) :
    Calls Try.prog 68 #[.slice a l.length c] w fun e w' => ∃ a' c', e = .returned (.tuple #[.slice a' (frame l).length c', .int .i64 0]) ∧ Own w' w.heap.size a' 1 (frame l).length c' (bs (frame l)) ∧ Ext no w w' := by
  have hlt := crc_lt l
  go_enter Try.func68, Try.ntmps68
  go_wp2_with fail
  refine (four_any w l.length (by omega)).mono ?_
  rintro e w1 ⟨a1, c1, rfl, hown1, hext1⟩
  go_wp2_with fail
  refine (fcrc_any w1 a c l (hrd.ext hext1 (fun _ _ h => h)) (by omega)).mono ?_
  rintro e w2 ⟨rfl, rfl⟩
  go_wp2_with fail
  refine (four_any w1 (crc l) hlt).mono ?_
  rintro e w2 ⟨a2, c2, rfl, hown2, hext2⟩
  go_wp2_with fail
  have hfl : flat [⟨a1, be4 l.length, c1⟩, ⟨a2, be4 (crc l), c2⟩, ⟨a, l, c⟩] = frame l := by simp [flat, frame]
  have hfn := frame_length l
  refine (concat_any _ _ 3 [⟨a1, be4 l.length, c1⟩, ⟨a2, be4 (crc l), c2⟩, ⟨a, l, c⟩] (by simp) (Rd.lit w2 _ _ _) ?_ ?_).mono ?_
  · intro p hp
    simp only [List.mem_cons, List.not_mem_nil, or_false] at hp
    rcases hp with rfl | rfl | rfl
    · exact (hown1.rd.ext hext2 (fun _ _ h => h)).alloc _
    · exact hown2.rd.alloc _
    · exact (hrd.ext (hext1.comp hext2) (fun _ _ h => h)).alloc _
  · rw [hfl]; omega
  · rintro e w3 ⟨a3, c3, rfl, hown3, hext3⟩
    rw [hfl] at hown3 ⊢
    clear hfl hfn
    go_wp2_with fail
    go_ret2
    exact ⟨a3, c3, rfl, hown3.mono (by have := hext1.size; have := hext2.size; simp; omega), ((hext1.comp hext2).comp (Ext.alloc no _ _)).comp hext3⟩

set_option maxHeartbeats 400000 in
theorem fone_new (w : World) (a : Option Addr) (c : Nat) (l : List UInt8) (hrd : Rd w a (bs l)) (hl : l.length ≤ 1099511627776) (hlc : l.length ≤ c) :
    Calls Try.prog 43 #[.slice a l.length c] w fun e w' => ∃ a' c', e = .returned (.tuple #[.slice a' (one l).1.length c', .int .i64 (one l).2]) ∧ Rd w' a' (bs (one l).1) ∧ (∀ ad, a' = some ad → w.heap.size ≤ ad.block) ∧ Ext no w w' := by
  by_cases h8 : l.length < 8
  · have ho : one l = ([], 8) := by unfold one; rw [if_pos h8]
    rw [ho]
    clear ho
    go_enter Try.func43, Try.ntmps43
    go_wp2_with fail
    go_ret2
    exact ⟨none, 0, rfl, Rd.nil _ _, (fun _ h => by cases h), Ext.refl _ _⟩
  · have hrest : Rd w (cutAt a c 8 1) (bs (l.drop 8)) := by
      have := hrd.cut c 8 1 (fun _ => by simp; omega)
      rw [bs_drop] at this; exact this
    have hsum : Rd w (cutAt a c 4 1) (bs (l.drop 4)) := by
      have := hrd.cut c 4 1 (fun _ => by simp; omega)
      rw [bs_drop] at this; exact this
    have cut8 : ∀ w, (Instr.sliceAt 37 (.slice a l.length c) (some (.int .i64 8)) none none).run Try.prog w = .ok (.slice (cutAt a c 8 1) (l.length - 8) (c - 8)) w := fun w => run_cut_l TBytes w a l.length c .i64 8 (by omega)
    have cut4 : ∀ w, (Instr.sliceAt 37 (.slice a l.length c) (some (.int .i64 4)) none none).run Try.prog w = .ok (.slice (cutAt a c 4 1) (l.length - 4) (c - 4)) w := fun w => run_cut_l TBytes w a l.length c .i64 4 (by omega)
    have hn := rd4_lt l
    have hs := rd4_lt (l.drop 4)
    have hc := crc_lt (l.drop 8)
    obtain ⟨o, ho⟩ : ∃ o, o = one l := ⟨_, rfl⟩
    rw [← ho]
    have Ho := Lib.hid ho
    clear ho
    go_enter Try.func43, Try.ntmps43
    go_upto_region 3 with fail
    go_quiet ((go_at_call 58; exact fnum_q w _ a _ c l rfl hrd (by omega) hl))
    generalize cutAt a c 8 1 = a8 at *
    have hx1 := Ext.drewN no w nq
    have hrest1 := hrest.drewN nq
    have hsum1 := hsum.drewN nq
    clear cut8 hrest hsum
    generalize w.drewN nq = w1 at *
    by_cases h1 : 4194304 < rd4 l
    · have Hoo := Lib.hid (show one l = ([], 5) by unfold one; rw [if_neg h8, if_pos h1])
      go_wp2_with fail
      go_ret2
      rw [Ho.out, Hoo.out]
      exact ⟨none, 0, rfl, Rd.nil _ _, (fun _ h => by cases h), hx1⟩
    by_cases h2 : l.length - 8 < rd4 l
    · have Hoo := Lib.hid (show one l = ([], 8) by unfold one; rw [if_neg h8, if_neg h1, if_pos h2])
      go_wp2_with fail
      go_ret2
      rw [Ho.out, Hoo.out]
      exact ⟨none, 0, rfl, Rd.nil _ _, (fun _ h => by cases h), hx1⟩
    by_cases h3 : rd4 l < l.length - 8
    · have Hoo := Lib.hid (show one l = ([], 9) by unfold one; rw [if_neg h8, if_neg h1, if_neg h2, if_pos h3])
      go_wp2_with fail
      go_ret2
      rw [Ho.out, Hoo.out]
      exact ⟨none, 0, rfl, Rd.nil _ _, (fun _ h => by cases h), hx1⟩
    have hl8 : (l.drop 8).length ≤ 1099511627776 := by simp; omega
    have hl4 : (l.drop 4).length ≤ 1099511627776 := by simp; omega
    have hl44 : 4 ≤ (l.drop 4).length := by simp; omega
    have Hoo := Lib.hid (show one l = if crc (l.drop 8) = rd4 (l.drop 4) then (l.drop 8, 0) else ([], 10) by unfold one; rw [if_neg h8, if_neg h1, if_neg h2, if_neg h3])
    go_upto_region 10 with fail
    go_quiet (first | (go_at_call 58; exact fnum_q _ _ _ _ _ (l.drop 4) (by simp) hsum1 hl44 hl4) | (go_at_call 59; exact fcrc_q _ _ _ _ _ (l.drop 8) (by simp) hrest1 hl8))
    have hx2 := hx1.comp (Ext.drewN no w1 nq)
    have hrest2 := hrest1.drewN nq
    generalize w1.drewN nq = w2 at *
    by_cases hq : crc (l.drop 8) = rd4 (l.drop 4)
    · have hb : ((crc (l.drop 8) : Int) != (rd4 (l.drop 4) : Int)) = false := by simp [hq]
      rw [if_pos hq] at Hoo
      clear hq
      go_wp2_with fail
      rw [show l.length - 8 = (l.drop 8).length from by simp]
      refine (clone_any w2 a8 (c - 8) (l.drop 8) hrest2 (by omega)).mono ?_
      rintro e w3 ⟨a3, c3, rfl, hown3, hx3⟩
      go_wp2_with fail
      go_ret2
      rw [Ho.out, Hoo.out]
      exact ⟨a3, c3, by rw [List.length_drop]; rfl, hown3.rd, (fun ad h => Nat.le_trans hx2.size (hown3.base ad h).1), hx2.comp hx3⟩
    · have hb : ((crc (l.drop 8) : Int) != (rd4 (l.drop 4) : Int)) = true := by simp; omega
      rw [if_neg hq] at Hoo
      clear hq
      go_wp2_with fail
      go_ret2
      rw [Ho.out, Hoo.out]
      exact ⟨none, 0, rfl, Rd.nil _ _, (fun _ h => by cases h), hx2⟩
theorem fone_any (w : World) (a : Option Addr) (c : Nat) (l : List UInt8) (hrd : Rd w a (bs l)) (hl : l.length ≤ 1099511627776) (hlc : l.length ≤ c) :
    Calls Try.prog 43 #[.slice a l.length c] w fun e w' => ∃ a' c', e = .returned (.tuple #[.slice a' (one l).1.length c', .int .i64 (one l).2]) ∧ Rd w' a' (bs (one l).1) ∧ Ext no w w' :=
  (fone_new w a c l hrd hl hlc).mono fun _ _ ⟨a', c', h1, h2, _, h4⟩ => ⟨a', c', h1, h2, h4⟩
end Go.Proofs.Ytpljcnjkdjblmaa
