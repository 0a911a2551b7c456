/- The walk of the law DiskTurns. -/
import Derived.Test.YtfihjjbonahahaaDkL
import Derived.Test.YtfihjjbonahahaaOpen
namespace Go.Proofs.Ytfihjjbonahahaa
open Go.RowKit Go.Esc
set_option linter.unusedVariables false

/-- A disk that holds a, whose power goes in l operations. -/
structure Turn (s : DS) (a : List UInt8) (l o m : Nat) : Prop where
  ok : s.ok
  dead : s.dead = false
  left : s.left = l
  odd : s.odd = o
  log : s.log = a
  snap : s.snap = []
  room : s.room = 100000
  done : s.done ≤ m

theorem Turn.step {s : DS} {a : List UInt8} {l o m : Nat} (h : Turn s a (l + 2) o m) (ha : a.length ≤ 300) (hm : m ≤ 100) : (s.append []).2 = 0 ∧ Turn (s.append []).1 a (l + 1) o (m + 1) := by
  have hl : s.log.length ≤ 300 := by rw [h.log]; exact ha
  have hs : s.snap.length = 0 := by rw [h.snap]; rfl
  have hl2 := h.left
  have hdn := h.done
  have ho := DS.ok_append h.ok (by omega) []
  have e : s.append [] = ({ s with left := l + 1, done := s.done + 1, log := s.log ++ [] }, 0) := by
    unfold DS.append DS.spend
    rw [if_neg (by rw [h.dead]; simp), if_neg (by rw [h.room]; simp; omega), if_neg (by omega), if_neg (by omega), hl2]
    rfl
  rw [e] at ho ⊢
  exact ⟨rfl, ⟨ho.1, h.dead, rfl, h.odd, by simp [h.log], h.snap, h.room, by simp only; omega⟩⟩
theorem Turn.swap {s : DS} {a b : List UInt8} {o m : Nat} (h : Turn s a 1 o m) (hb : b.length ≤ 300) (hm : m ≤ 100) : (s.swap b).2 = 18 ∧ (s.swap b).1.ok ∧ (s.swap b).1.dead = true ∧ (s.swap b).1.log = (if o = 0 then [] else a) ∧ (s.swap b).1.snap = (if o = 0 then b else []) := by
  have hdn := h.done
  have ho := DS.ok_swap h.ok (by omega) b
  have h1 := h.left
  have e : s.swap b = (if s.odd = 0 then { s.spend with snap := b, log := [], synced := 0 } else s.spend, 18) := by
    unfold DS.swap
    rw [if_neg (by rw [h.dead]; simp), if_neg (by rw [h.room]; omega)]
    simp [h1]
  have e2 : s.spend = { s with left := 0, dead := true } := by unfold DS.spend; rw [if_pos h1]
  rw [e] at ho ⊢
  refine ⟨rfl, ho.1, ?_, ?_, ?_⟩
  · simp only; split <;> rw [e2]
  · simp only [h.odd]; split
    · rfl
    · rw [e2]; exact h.log
  · simp only [h.odd]; split
    · rfl
    · rw [e2]; exact h.snap
theorem Turn.cut {s : DS} {a : List UInt8} {o m : Nat} (h : Turn s a 1 o m) (n : Nat) (hn : n ≤ a.length) (hm : m ≤ 100) : (s.cut n).2 = 18 ∧ (s.cut n).1.ok ∧ (s.cut n).1.dead = true ∧ (s.cut n).1.log = (if o = 0 then a.take n else a) ∧ (s.cut n).1.snap = [] := by
  have hdn := h.done
  have ho := DS.ok_cut h.ok (by omega) n
  have h1 := h.left
  have e : s.cut n = (if s.odd = 0 then { s.spend with log := s.log.take n, synced := n } else s.spend, 18) := by
    unfold DS.cut
    rw [if_neg (by rw [h.dead]; simp), if_neg (by rw [h.log]; omega)]
    simp [h1]
  have e2 : s.spend = { s with left := 0, dead := true } := by unfold DS.spend; rw [if_pos h1]
  rw [e] at ho ⊢
  refine ⟨rfl, ho.1, ?_, ?_, ?_⟩
  · simp only; split <;> rw [e2]
  · simp only [h.odd]; split
    · rw [h.log]
    · rw [e2]; exact h.log
  · simp only [h.odd]; split <;> (rw [e2]; exact h.snap)

set_option maxRecDepth 100000 in
set_option maxHeartbeats 8000000 in
theorem turns_walk (w : World) (aa : Option Addr) (a : List UInt8) (ac : Nat) (ba : Option Addr) (b : List UInt8) (bc : Nat) (n0 : Int) (sw : Bool) (k0 : Int)
    (had : Rd w aa (bs a)) (hal : a.length ≤ ac) (hac : ac ≤ maxLen) (hbd : Rd w ba (bs b)) (hbl : b.length ≤ bc) (hbc : bc ≤ maxLen) (hn0 : I64ok n0) (hk0 : I64ok k0) :
    Calls Try.prog 10 #[.slice aa a.length ac, .slice ba b.length bc, .int .i64 n0, .bool sw, .int .i64 k0] w fun e w' => e = .returned (.bool true) ∧ Ext no w w' := by
  have Hn0 := Lib.hid hn0
  have Hk0 := Lib.hid hk0
  clear hn0 hk0
  unfold maxLen at hac hbc
  by_cases h300 : 300 < a.length
  · have d1 : decide ((300 : Int) < a.length) = true := decT (by omega)
    go_enter Try.func10, Try.ntmps10
    go_wp2_with fail
    refine (known_any w).mono ?_
    rintro e w1 ⟨rfl, hx1⟩
    go_wp2_with fail
    go_ret
    exact ⟨rfl, hx1⟩
  have d1 : decide ((300 : Int) < a.length) = false := decF (by omega)
  by_cases h300b : 300 < b.length
  · have d2 : decide ((300 : Int) < b.length) = true := decT (by omega)
    go_enter Try.func10, Try.ntmps10
    go_wp2_with fail
    refine (known_any w).mono ?_
    rintro e w1 ⟨rfl, hx1⟩
    go_wp2_with fail
    go_ret
    exact ⟨rfl, hx1⟩
  have d2 : decide ((300 : Int) < b.length) = false := decF (by omega)
  obtain ⟨k, hk⟩ : ∃ k : Nat, k0 % 3 = k := ⟨(k0 % 3).toNat, by omega⟩
  have hk3 : k < 3 := by omega
  have Hk := Lib.hid hk
  obtain ⟨n, hn⟩ : ∃ n : Nat, n0 % ((a.length : Int) + 1) = n := ⟨(n0 % ((a.length : Int) + 1)).toNat, by have := Int.emod_nonneg n0 (show (a.length : Int) + 1 ≠ 0 by omega); omega⟩
  have hnl : n ≤ a.length := by have := Int.emod_lt_of_pos n0 (show (0 : Int) < (a.length : Int) + 1 by omega); omega
  have Hn := Lib.hid hn
  clear hk hn
  go_enter Try.func10, Try.ntmps10
  go_wp2_with fail
  refine (known_any w).mono ?_
  rintro e w1 ⟨rfl, hx1⟩
  go_wp2_with fail
  refine (newdisk_any w1 100000 (by omega) (by omega) no).mono ?_
  rintro e w2 ⟨g, rfl, hD, hg, hx2⟩
  have hx02 := hx1.comp hx2
  have hgw : w.heap.size ≤ g := Nat.le_trans hx1.size hg
  have old : ∀ (b : Option Addr) (l : List UInt8), Rd w b (bs l) → l ≠ [] → ∀ ad, b = some ad → ad.block ≠ g := fun b l hb he ad ha => by
    obtain ⟨ad', ha', hlt⟩ := hb.ne (by rw [bs_length]; exact List.length_pos_iff.2 he)
    rw [ha] at ha'; cases ha'; omega
  have Old := Lib.hid old
  clear old
  go_wp2_with fail
  refine (append_any w2 g (DS.new 100000) no hD (fun k h => h.elim) (DS.new_ok 100000 (by omega)) aa ac a (had.ext hx02 (fun _ _ h => h)) (Old.out _ _ had) (by omega)).mono ?_
  rintro e w3 ⟨rfl, hD3, hx3⟩
  have e1 : (DS.new 100000).append a = ({ DS.new 100000 with done := 1, log := a }, 0) := by
    rw [DS.append_live rfl rfl a (by simp [DS.new]; omega)]; rfl
  rw [e1] at hD3 ⊢
  clear e1 hD
  go_wp2_with fail
  refine (sync_any w3 g { DS.new 100000 with done := 1, log := a } no hD3 ⟨by simp [DS.new], by simp [DS.new]; omega, by simp [DS.new], by simp [DS.new], by simp [DS.new], by simp⟩).mono ?_
  rintro e w4 ⟨rfl, hD4, hx4⟩
  have e2 : (DS.sync { DS.new 100000 with done := 1, log := a }) = ({ DS.new 100000 with done := 2, log := a, synced := a.length }, 0) := by
    rw [DS.sync_live rfl rfl]
  rw [e2] at hD4 ⊢
  have hok4 : DS.ok { DS.new 100000 with done := 2, log := a, synced := a.length } := ⟨by simp, by simp [DS.new]; omega, by simp [DS.new], by simp [DS.new], by simp [DS.new], by simp⟩
  have hx04 : Ext no w w4 := hx02.trans (hx3.comp hx4) (fun i hi h => by simp only [Esc.just] at h; omega)
  clear e2 hD3 hx1 hx2 hx3 hx4 hx02
  go_wp2_with fail
  refine (within_any k0 3 w4 (by omega) (by omega) Hk0.out).mono ?_
  rintro e w5 ⟨rfl, rfl⟩
  rw [Hk.out]
  go_wp2_with fail
  rw [show ((k : Int) + 1) = ((k + 1 : Nat) : Int) from by omega]
  refine (stop_any w4 g { DS.new 100000 with done := 2, log := a, synced := a.length } no hD4 ((k + 1 : Nat) : Int) ⟨by omega, by omega⟩).mono ?_
  rintro e w5 ⟨rfl, hD5, hx5⟩
  have ht0 : Turn (DS.stop { DS.new 100000 with done := 2, log := a, synced := a.length } ((k + 1 : Nat) : Int)) a (k + 1 - 0) ((k + 1) % 2) (2 + 0) := ⟨DS.ok_stop hok4 _ ⟨by omega, by omega⟩, rfl, by simp [DS.stop], by simp [DS.stop], rfl, rfl, rfl, by simp [DS.stop]⟩
  have hx05 : Ext no w w5 := hx04.trans hx5 (fun i hi h => by simp only [Esc.just] at h; omega)
  generalize DS.stop _ _ = s0 at *
  clear hD4 hok4 hx04 hx5
  go_wp2_with fail
  go_loopw [14] (fun s14 wr => ∃ (i : Nat) (s : DS), i ≤ k ∧ s14 = .int .i64 i ∧ Dk wr g s no ∧ Turn s a (k + 1 - i) ((k + 1) % 2) (2 + i) ∧ Ext no w wr) (fun s14 _ => k - (intOf s14).toNat)
  case atStart => exact ⟨0, s0, by omega, rfl, hD5, ht0, hx05⟩
  case round =>
    clear hD5 ht0 hx05
    obtain ⟨i, s, hi, rfl, hDk, ht, hxr⟩ := hrel
    by_cases hlt : i < k
    · have ht' : Turn s a ((k - i - 1) + 2) ((k + 1) % 2) (2 + i) := by rw [show k - i - 1 + 2 = k + 1 - i from by omega]; exact ht
      obtain ⟨q1, q2⟩ := ht'.step (by omega) (by omega)
      rw [show k - i - 1 + 1 = k + 1 - (i + 1) from by omega] at q2
      have Q1 := Lib.hid q1
      have hok := ht.ok
      clear q1 ht ht'
      go_wp2_with fail
      refine (append_any wr g s no hDk (fun k h => h.elim) hok none 0 [] (Rd.nil _ _) (fun h => absurd rfl h) (by simp)).mono ?_
      rintro e w6 ⟨rfl, hD6, hx6⟩
      rw [Q1.out]
      have hx06 : Ext no w w6 := hxr.trans hx6 (fun i hi h => by simp only [Esc.just] at h; omega)
      clear hDk hxr hx6
      generalize (s.append []).1 = S at *
      go_wp2_with fail
      go_roundw
      case rel => exact ⟨i + 1, S, by omega, by go_num, hD6, by rw [show 2 + (i + 1) = 2 + i + 1 from by omega]; exact q2, hx06⟩
      case measure => simp [intOf]; omega
    · obtain rfl : i = k := by omega
      rw [show i + 1 - i = 1 from by omega] at ht
      have Ht := Lib.hid ht
      have hok := ht.ok
      have har := had.ext hxr (fun _ _ h => h)
      have hbr := hbd.ext hxr (fun _ _ h => h)
      clear ht
      go_wp2_with fail
      refine (within_any n0 ((a.length : Int) + 1) wr (by omega) (by omega) Hn0.out).mono ?_
      rintro e w6 ⟨rfl, rfl⟩
      rw [Hn.out]
      have hpar : (((i : Int) + 1) % 2 == 0) = decide (i = 1) := by
        rcases (show i = 0 ∨ i = 1 ∨ i = 2 by omega) with rfl | rfl | rfl <;> rfl
      have hodd : (i + 1) % 2 = if i = 1 then 0 else 1 := by
        rcases (show i = 0 ∨ i = 1 ∨ i = 2 by omega) with rfl | rfl | rfl <;> rfl
      rw [hodd] at Ht
      clear hodd
      cases sw
      · obtain ⟨p1, p2, p3, p4, p5⟩ := Ht.out.cut n hnl (by omega)
        by_cases hi1 : i = 1
        · have hb0 : (((i : Int) + 1) % 2 == 0) = true := by rw [hpar]; exact decT hi1
          rw [if_pos (by rw [if_pos hi1])] at p4
          have P1 := Lib.hid p1
          have P3 := Lib.hid p3
          have P4 := Lib.hid p4
          have P5 := Lib.hid p5
          clear p1 p3 p4 p5 hi1 hpar
          go_wp2_with fail
          refine (cut_any wr g s no hDk (fun k h => h.elim) hok n ⟨by omega, by omega⟩).mono ?_
          rintro e w7 ⟨rfl, hD7, hx7⟩
          rw [P1.out]
          have hx07 : Ext no w w7 := hxr.trans hx7 (fun i hi h => by simp only [Esc.just] at h; omega)
          clear hDk hx7 hxr har hbr Ht hok
          generalize (s.cut (n : Int)).1 = S at *
          have har := had.ext hx07 (fun _ _ h => h)
          have hbr := hbd.ext hx07 (fun _ _ h => h)
          have ca : (convert 23 9 (.slice aa a.length ac)).run Try.prog w7 = .ok (.string (str a)) w7 := convStr _ _ _ _ _ rfl har
          have Hnt := Lib.hid (show n = (a.take n).length by rw [List.length_take]; omega)
          have cutn : ∀ w, (Instr.sliceAt 23 (.slice aa a.length ac) none (some (.int .i64 (n : Int))) none).run Try.prog w = .ok (.slice aa n ac) w := fun w => run_cut_h TBytes w aa a.length ac .i64 n (by omega)
          have ct : (convert 23 9 (.slice aa n ac)).run Try.prog w7 = .ok (.string (str (a.take n))) w7 := convStr _ _ _ _ _ Hnt.out (by rw [← bs_take]; exact har.take n)
          have h17 : ((str S.log).toList == (str (a.take n)).toList) = true := beqStrT P4.out
          have h18 : ((str S.snap).toList == []) = true := by rw [toList_str, P5.out]; rfl
          have Hsy := Lib.hid (show S.sync = (S, 18) by unfold DS.sync; rw [if_pos P3.out])
          have Hcu := Lib.hid (show S.cut 0 = (S, 18) by unfold DS.cut; rw [if_pos P3.out])
          have hD8 := hD7
          have hx08 := hx07
          obtain ⟨w8, hw8⟩ : ∃ w8, w8 = w7 := ⟨_, rfl⟩
          subst hw8
          clear hD7 hx07
          go_wp2_with fail
          refine (dead_any w8 g S no hD8).mono ?_
          rintro e w9 ⟨rfl, rfl⟩
          rw [P3.out]
          go_wp2_with fail
          refine (log_any' w8 g S no hD8 p2).mono ?_
          rintro e w9 ⟨b6, c6, rfl, ho6, hx9⟩
          have cx : (convert 23 9 (.slice b6 S.log.length c6)).run Try.prog w9 = .ok (.string (str S.log)) w9 := convStr _ _ _ _ _ rfl ho6.rd
          have hD9 := hD8.no hx9
          go_wp2_with fail
          refine (snap_any w9 g S no hD9 p2).mono ?_
          rintro e w10 ⟨b7, c7, rfl, ho7, hx10⟩
          have cy : (convert 23 9 (.slice b7 S.snap.length c7)).run Try.prog w10 = .ok (.string (str S.snap)) w10 := convStr _ _ _ _ _ rfl ho7.rd
          have hD10 := hD9.no hx10
          go_wp2_with fail
          refine (sync_any w10 g S no hD10 p2).mono ?_
          rintro e w11 ⟨rfl, hD11, hx11⟩
          rw [Hsy.out] at hD11 ⊢
          go_wp2_with fail
          refine (cut_any w11 g S no hD11 (fun k h => h.elim) p2 0 ⟨by omega, by omega⟩).mono ?_
          rintro e w12 ⟨rfl, hD12, hx12⟩
          rw [Hcu.out]
          go_wp2_with fail
          go_ret
          exact ⟨rfl, ((hx08.comp hx9).comp hx10).trans (hx11.comp hx12) (fun i hi h => by simp only [Esc.just] at h; omega)⟩
        · have hb0 : (((i : Int) + 1) % 2 == 0) = false := by rw [hpar]; exact decF hi1
          rw [if_neg (by rw [if_neg hi1]; decide)] at p4
          have P1 := Lib.hid p1
          have P3 := Lib.hid p3
          have P4 := Lib.hid p4
          have P5 := Lib.hid p5
          clear p1 p3 p4 p5 hi1 hpar
          go_wp2_with fail
          refine (cut_any wr g s no hDk (fun k h => h.elim) hok n ⟨by omega, by omega⟩).mono ?_
          rintro e w7 ⟨rfl, hD7, hx7⟩
          rw [P1.out]
          have hx07 : Ext no w w7 := hxr.trans hx7 (fun i hi h => by simp only [Esc.just] at h; omega)
          clear hDk hx7 hxr har hbr Ht hok
          generalize (s.cut (n : Int)).1 = S at *
          have har := had.ext hx07 (fun _ _ h => h)
          have hbr := hbd.ext hx07 (fun _ _ h => h)
          have ca : (convert 23 9 (.slice aa a.length ac)).run Try.prog w7 = .ok (.string (str a)) w7 := convStr _ _ _ _ _ rfl har
          have h17 : ((str S.log).toList == (str a).toList) = true := beqStrT P4.out
          have h18 : ((str S.snap).toList == []) = true := by rw [toList_str, P5.out]; rfl
          have Hsy := Lib.hid (show S.sync = (S, 18) by unfold DS.sync; rw [if_pos P3.out])
          have Hcu := Lib.hid (show S.cut 0 = (S, 18) by unfold DS.cut; rw [if_pos P3.out])
          have hD8 := hD7
          have hx08 := hx07
          obtain ⟨w8, hw8⟩ : ∃ w8, w8 = w7 := ⟨_, rfl⟩
          subst hw8
          clear hD7 hx07
          go_wp2_with fail
          refine (dead_any w8 g S no hD8).mono ?_
          rintro e w9 ⟨rfl, rfl⟩
          rw [P3.out]
          go_wp2_with fail
          refine (log_any' w8 g S no hD8 p2).mono ?_
          rintro e w9 ⟨b6, c6, rfl, ho6, hx9⟩
          have cx : (convert 23 9 (.slice b6 S.log.length c6)).run Try.prog w9 = .ok (.string (str S.log)) w9 := convStr _ _ _ _ _ rfl ho6.rd
          have hD9 := hD8.no hx9
          go_wp2_with fail
          refine (snap_any w9 g S no hD9 p2).mono ?_
          rintro e w10 ⟨b7, c7, rfl, ho7, hx10⟩
          have cy : (convert 23 9 (.slice b7 S.snap.length c7)).run Try.prog w10 = .ok (.string (str S.snap)) w10 := convStr _ _ _ _ _ rfl ho7.rd
          have hD10 := hD9.no hx10
          go_wp2_with fail
          refine (sync_any w10 g S no hD10 p2).mono ?_
          rintro e w11 ⟨rfl, hD11, hx11⟩
          rw [Hsy.out] at hD11 ⊢
          go_wp2_with fail
          refine (cut_any w11 g S no hD11 (fun k h => h.elim) p2 0 ⟨by omega, by omega⟩).mono ?_
          rintro e w12 ⟨rfl, hD12, hx12⟩
          rw [Hcu.out]
          go_wp2_with fail
          go_ret
          exact ⟨rfl, ((hx08.comp hx9).comp hx10).trans (hx11.comp hx12) (fun i hi h => by simp only [Esc.just] at h; omega)⟩
      · obtain ⟨p1, p2, p3, p4, p5⟩ := Ht.out.swap (b := b) (by omega) (by omega)
        by_cases hi1 : i = 1
        · have hb0 : (((i : Int) + 1) % 2 == 0) = true := by rw [hpar]; exact decT hi1
          rw [if_pos (by rw [if_pos hi1])] at p4
          rw [if_pos (by rw [if_pos hi1])] at p5
          have P1 := Lib.hid p1
          have P3 := Lib.hid p3
          have P4 := Lib.hid p4
          have P5 := Lib.hid p5
          clear p1 p3 p4 p5 hi1 hpar
          go_wp2_with fail
          refine (swap_any wr g s no hDk (fun k h => h.elim) hok ba bc b hbr (Old.out _ _ hbd) (by omega)).mono ?_
          rintro e w7 ⟨rfl, hD7, hx7⟩
          rw [P1.out]
          have hx07 : Ext no w w7 := hxr.trans hx7 (fun i hi h => by simp only [Esc.just] at h; omega)
          clear hDk hx7 hxr har hbr Ht hok
          generalize (s.swap b).1 = S at *
          have har := had.ext hx07 (fun _ _ h => h)
          have hbr := hbd.ext hx07 (fun _ _ h => h)
          have ca : (convert 23 9 (.slice aa a.length ac)).run Try.prog w7 = .ok (.string (str a)) w7 := convStr _ _ _ _ _ rfl har
          have cb : ∀ m, (convert 23 9 (.slice ba b.length bc)).run Try.prog (w7.drewN m) = .ok (.string (str b)) (w7.drewN m) := fun m => convStr _ _ _ _ _ rfl (hbr.drewN m)
          have h17 : ((str S.log).toList == []) = true := by rw [toList_str, P4.out]; rfl
          have h18 : ((str S.snap).toList == (str b).toList) = true := beqStrT P5.out
          have Hsy := Lib.hid (show S.sync = (S, 18) by unfold DS.sync; rw [if_pos P3.out])
          have Hcu := Lib.hid (show S.cut 0 = (S, 18) by unfold DS.cut; rw [if_pos P3.out])
          go_upto_region 23 with fail
          go_quiet (fail)
          have hD8 := hD7.no (Ext.drewN no w7 nq)
          have hx08 := hx07.comp (Ext.drewN no w7 nq)
          clear hD7 hx07 cb ca
          generalize w7.drewN nq = w8 at *
          go_wp2_with fail
          refine (dead_any w8 g S no hD8).mono ?_
          rintro e w9 ⟨rfl, rfl⟩
          rw [P3.out]
          go_wp2_with fail
          refine (log_any' w8 g S no hD8 p2).mono ?_
          rintro e w9 ⟨b6, c6, rfl, ho6, hx9⟩
          have cx : (convert 23 9 (.slice b6 S.log.length c6)).run Try.prog w9 = .ok (.string (str S.log)) w9 := convStr _ _ _ _ _ rfl ho6.rd
          have hD9 := hD8.no hx9
          go_wp2_with fail
          refine (snap_any w9 g S no hD9 p2).mono ?_
          rintro e w10 ⟨b7, c7, rfl, ho7, hx10⟩
          have cy : (convert 23 9 (.slice b7 S.snap.length c7)).run Try.prog w10 = .ok (.string (str S.snap)) w10 := convStr _ _ _ _ _ rfl ho7.rd
          have hD10 := hD9.no hx10
          go_wp2_with fail
          refine (sync_any w10 g S no hD10 p2).mono ?_
          rintro e w11 ⟨rfl, hD11, hx11⟩
          rw [Hsy.out] at hD11 ⊢
          go_wp2_with fail
          refine (cut_any w11 g S no hD11 (fun k h => h.elim) p2 0 ⟨by omega, by omega⟩).mono ?_
          rintro e w12 ⟨rfl, hD12, hx12⟩
          rw [Hcu.out]
          go_wp2_with fail
          go_ret
          exact ⟨rfl, ((hx08.comp hx9).comp hx10).trans (hx11.comp hx12) (fun i hi h => by simp only [Esc.just] at h; omega)⟩
        · have hb0 : (((i : Int) + 1) % 2 == 0) = false := by rw [hpar]; exact decF hi1
          rw [if_neg (by rw [if_neg hi1]; decide)] at p4
          rw [if_neg (by rw [if_neg hi1]; decide)] at p5
          have P1 := Lib.hid p1
          have P3 := Lib.hid p3
          have P4 := Lib.hid p4
          have P5 := Lib.hid p5
          clear p1 p3 p4 p5 hi1 hpar
          go_wp2_with fail
          refine (swap_any wr g s no hDk (fun k h => h.elim) hok ba bc b hbr (Old.out _ _ hbd) (by omega)).mono ?_
          rintro e w7 ⟨rfl, hD7, hx7⟩
          rw [P1.out]
          have hx07 : Ext no w w7 := hxr.trans hx7 (fun i hi h => by simp only [Esc.just] at h; omega)
          clear hDk hx7 hxr har hbr Ht hok
          generalize (s.swap b).1 = S at *
          have har := had.ext hx07 (fun _ _ h => h)
          have hbr := hbd.ext hx07 (fun _ _ h => h)
          have ca : (convert 23 9 (.slice aa a.length ac)).run Try.prog w7 = .ok (.string (str a)) w7 := convStr _ _ _ _ _ rfl har
          have h17 : ((str S.log).toList == (str a).toList) = true := beqStrT P4.out
          have h18 : ((str S.snap).toList == []) = true := by rw [toList_str, P5.out]; rfl
          have Hsy := Lib.hid (show S.sync = (S, 18) by unfold DS.sync; rw [if_pos P3.out])
          have Hcu := Lib.hid (show S.cut 0 = (S, 18) by unfold DS.cut; rw [if_pos P3.out])
          have hD8 := hD7
          have hx08 := hx07
          obtain ⟨w8, hw8⟩ : ∃ w8, w8 = w7 := ⟨_, rfl⟩
          subst hw8
          clear hD7 hx07
          go_wp2_with fail
          refine (dead_any w8 g S no hD8).mono ?_
          rintro e w9 ⟨rfl, rfl⟩
          rw [P3.out]
          go_wp2_with fail
          refine (log_any' w8 g S no hD8 p2).mono ?_
          rintro e w9 ⟨b6, c6, rfl, ho6, hx9⟩
          have cx : (convert 23 9 (.slice b6 S.log.length c6)).run Try.prog w9 = .ok (.string (str S.log)) w9 := convStr _ _ _ _ _ rfl ho6.rd
          have hD9 := hD8.no hx9
          go_wp2_with fail
          refine (snap_any w9 g S no hD9 p2).mono ?_
          rintro e w10 ⟨b7, c7, rfl, ho7, hx10⟩
          have cy : (convert 23 9 (.slice b7 S.snap.length c7)).run Try.prog w10 = .ok (.string (str S.snap)) w10 := convStr _ _ _ _ _ rfl ho7.rd
          have hD10 := hD9.no hx10
          go_wp2_with fail
          refine (sync_any w10 g S no hD10 p2).mono ?_
          rintro e w11 ⟨rfl, hD11, hx11⟩
          rw [Hsy.out] at hD11 ⊢
          go_wp2_with fail
          refine (cut_any w11 g S no hD11 (fun k h => h.elim) p2 0 ⟨by omega, by omega⟩).mono ?_
          rintro e w12 ⟨rfl, hD12, hx12⟩
          rw [Hcu.out]
          go_wp2_with fail
          go_ret
          exact ⟨rfl, ((hx08.comp hx9).comp hx10).trans (hx11.comp hx12) (fun i hi h => by simp only [Esc.just] at h; omega)⟩
end Go.Proofs.Ytfihjjbonahahaa
