/- The walk of the law DiskRoom. -/
import Derived.Test.YtfihjjbonahahaaDkL
import Derived.Test.YtfihjjbonahahaaOpen
namespace Go.Proofs.Ytfihjjbonahahaa
open Go.RowKit Go.Esc
set_option linter.unusedVariables false

/-- A disk whose power stays. -/
structure Live (s : DS) (R k : Nat) : Prop where
  ok : s.ok
  dead : s.dead = false
  left : s.left = 0
  room : s.room = R
  done : s.done ≤ k

theorem Live.next {s : DS} {R k : Nat} (h : Live s R k) : Live s R (k + 1) := ⟨h.ok, h.dead, h.left, h.room, by have := h.done; omega⟩
theorem zeros_bs (m : Nat) : List.replicate m (Value.int .u8 0) = bs (List.replicate m 0) := by simp [bs, B8]
theorem tdiv3_ok (n : Int) (h : I64ok n) : I64ok (n.tdiv 3) := by
  unfold I64ok at *
  have h1 := @Int.tdiv_eq_ediv n 3
  have h2 : Int.sign 3 = 1 := rfl
  rw [h2] at h1
  split at h1 <;> omega

theorem append_at (w : World) (g : Nat) (s : DS) (N : Nat → Prop) (h : Dk w g s N) (hN : ∀ k, N k → k < w.heap.size) (hok : s.ok) (ba : Option Addr) (m bc : Nat) (b : List UInt8) (hm : m = b.length) (hbd : Rd w ba (bs b)) (hbg : b ≠ [] → ∀ ad, ba = some ad → ad.block ≠ g) (hbl : b.length ≤ 1099511627776) :
    Calls Try.prog 24 #[.pointer (some ⟨g, 0, none⟩), .slice ba m bc] w (DkEnd w g N (s.append b).1 (s.append b).2) := by
  subst hm; exact append_any w g s N h hN hok ba bc b hbd hbg hbl
theorem swap_at (w : World) (g : Nat) (s : DS) (N : Nat → Prop) (h : Dk w g s N) (hN : ∀ k, N k → k < w.heap.size) (hok : s.ok) (ba : Option Addr) (m bc : Nat) (b : List UInt8) (hm : m = b.length) (hbd : Rd w ba (bs b)) (hbg : b ≠ [] → ∀ ad, ba = some ad → ad.block ≠ g) (hbl : b.length ≤ 1099511627776) :
    Calls Try.prog 36 #[.pointer (some ⟨g, 0, none⟩), .slice ba m bc] w (DkEnd w g N (s.swap b).1 (s.swap b).2) := by
  subst hm; exact swap_any w g s N h hN hok ba bc b hbd hbg hbl

set_option maxRecDepth 100000 in
set_option maxHeartbeats 4000000 in
theorem room_walk (w : World) (room0 : Int) (za : Option Addr) (zs : List Int) (zc : Nat) (hr0 : I64ok room0) (hzd : Rd w za (is zs)) (hzok : ∀ n ∈ zs, I64ok n) (hzl : zs.length ≤ zc) (hzc : zc ≤ maxLen) :
    Calls Try.prog 9 #[.int .i64 room0, .slice za zs.length zc] w fun e w' => e = .returned (.bool true) ∧ Ext no w w' := by
  have Hr0 := Lib.hid hr0
  have Hzok := Lib.hid hzok
  clear hr0 hzok
  unfold maxLen at hzc
  obtain ⟨r, hr⟩ : ∃ r : Nat, room0 % 200 = r := ⟨(room0 % 200).toNat, by omega⟩
  have hr200 : r < 200 := by omega
  have Hr := Lib.hid hr
  clear hr
  go_enter Try.func9, Try.ntmps9
  go_wp2_with fail
  refine (known_any w).mono ?_
  rintro e w1 ⟨rfl, hx1⟩
  go_wp2_with fail
  refine (within_any room0 200 w1 (by omega) (by omega) Hr0.out).mono ?_
  rintro e w2 ⟨rfl, rfl⟩
  rw [Hr.out]
  go_wp2_with fail
  rw [show (1 + (r : Int)) = ((1 + r : Nat) : Int) from by omega]
  refine (newdisk_any w1 (1 + r) (by omega) (by omega) no).mono ?_
  rintro e w2 ⟨g, rfl, hD, hg, hx2⟩
  have hx02 := hx1.comp hx2
  have hgw : w.heap.size ≤ g := Nat.le_trans hx1.size hg
  have hl0 : Live (DS.new (1 + r)) (1 + r) 0 := ⟨DS.new_ok _ (by omega), rfl, rfl, rfl, by simp [DS.new]⟩
  obtain ⟨R, hR⟩ : ∃ R, R = 1 + r := ⟨_, rfl⟩
  have hR2 : R ≤ 200 := by omega
  rw [← hR] at hD hl0 ⊢
  clear hR hx1 hx2
  go_wp2_with fail
  go_loopw [7, 8, 9] (fun s7 s8 s9 wr => ∃ (k : Nat) (s : DS), k ≤ zs.length ∧ k ≤ 30 ∧ s9 = .int .i64 k ∧ s7 = .int .i64 s.log.length ∧ s8 = .int .i64 s.snap.length ∧ Dk wr g s no ∧ Live s R k ∧ Ext no w wr) (fun _ _ s9 _ => zs.length - (intOf s9).toNat)
  case atStart => exact ⟨0, DS.new R, Nat.zero_le _, by omega, rfl, rfl, rfl, hD, hl0, hx02⟩
  case round =>
    clear hD hl0 hx02
    obtain ⟨k, s, hk, hk30, rfl, rfl, rfl, hDk, hlv, hxr⟩ := hrel
    by_cases hlt : k < zs.length
    rotate_left
    · have dd : decide ((k : Int) < zs.length) = false := decF (by omega)
      go_wp2_with fail
      go_ret
      exact ⟨rfl, hxr⟩
    have dd : decide ((k : Int) < zs.length) = true := decT (by omega)
    by_cases hl30 : k < 30
    rotate_left
    · have dd2 : decide ((k : Int) < 30) = false := decF (by omega)
      go_wp2_with fail
      go_ret
      exact ⟨rfl, hxr⟩
    have dd2 : decide ((k : Int) < 30) = true := decT (by omega)
    obtain ⟨zad, rfl, _⟩ := hzd.ne (by simp; omega)
    have hcell := hxr.keeps (hzd.cell k (by simpa using hlt)) (fun h => h)
    rw [show (is zs)[k]'(by simpa using hlt) = .int .i64 zs[k] from by simp [is, I64]] at hcell
    have hqo := Hzok.out zs[k] (by simp)
    generalize zs[k] = q at *
    have hq3 := tdiv3_ok q hqo
    have hw3 : wrap64 (q.tdiv 3) = q.tdiv 3 := by unfold wrap64; unfold I64ok at hq3; omega
    obtain ⟨m, hm⟩ : ∃ m : Nat, q.tdiv 3 % 60 = m := ⟨(q.tdiv 3 % 60).toNat, by omega⟩
    have hm60 : m < 60 := by omega
    have Hm := Lib.hid hm
    have Hqo := Lib.hid hqo
    have Hq3 := Lib.hid hq3
    obtain ⟨c, hc⟩ : ∃ c : Int, q % 3 = c := ⟨_, rfl⟩
    have hc3 : c = 0 ∨ c = 1 ∨ c = 2 := by omega
    have Hc := Lib.hid hc
    have hfit := hlv.ok.fits
    have hrm := hlv.room
    have hok := hlv.ok
    have hdn := hlv.done
    have hd := hlv.dead
    have hl := hlv.left
    rw [hrm] at hfit
    have Hrm := Lib.hid hrm
    have Hd := Lib.hid hd
    have Hl := Lib.hid hl
    clear hm hqo hq3 hc hrm hd hl
    go_wp2_with fail
    refine (within_any (q.tdiv 3) 60 wr (by omega) (by omega) Hq3.out).mono ?_
    rintro e w3 ⟨rfl, rfl⟩
    rw [Hm.out]
    go_wp2_with fail
    refine (within_any q 3 wr (by omega) (by omega) Hqo.out).mono ?_
    rintro e w3 ⟨rfl, rfl⟩
    rw [Hc.out]
    rcases hc3 with rfl | rfl | rfl
    · by_cases hf : R < s.log.length + s.snap.length + m
      · have dF : decide ((R : Int) < (s.log.length : Int) + s.snap.length + m) = true := decT (by omega)
        go_wp2_with (with_reducible refine wpList_make_z TBytes rfl rfl rfl m rfl rfl rfl rfl wr.heap.size (Nat.le_refl _) (by omega) (by unfold maxLen; omega) ?_)
        intro ad w4 hown hx4
        rw [zeros_bs] at hown
        have hD4 := hDk.no hx4
        have hne : List.replicate m (0 : UInt8) ≠ [] → ∀ ad', some ad = some ad' → ad'.block ≠ g := fun _ ad' h => by cases h; have := (hown.base _ rfl).1; have := hDk.lt; omega
        have hbl : (List.replicate m (0 : UInt8)).length ≤ 1099511627776 := by simp; omega
        have hml : m = (List.replicate m (0 : UInt8)).length := by simp
        have Hml := Lib.hid hml
        clear hml
        go_wp2_with fail
        refine (append_at w4 g s no hD4 (fun k h => h.elim) hok (some ad) m m (List.replicate m 0) Hml.out hown.rd hne hbl).mono ?_
        rintro e w5 ⟨rfl, hD5, hx5⟩
        have hap : s.append (List.replicate m 0) = (s, 17) := by unfold DS.append; rw [if_neg (by rw [Hd.out]; simp), if_pos (by rw [Hrm.out]; simp; omega)]
        have hlv5 : Live (s.append (List.replicate m 0)).1 R (k + 1) := by
          have h1 := DS.ok_append hok (by omega) (List.replicate m 0)
          refine ⟨h1.1, ?_, ?_, ?_, by have := h1.2; omega⟩ <;> rw [hap] <;> first | exact Hd.out | exact Hl.out | exact Hrm.out
        have hx05 : Ext no w w5 := (hxr.comp hx4).trans hx5 (fun i hi h => by simp only [Esc.just] at h; omega)
        have hlen7 : ((s.append (List.replicate m 0)).1.log.length : Int) = (s.log.length : Int) := by rw [hap]
        have hlen8 : ((s.append (List.replicate m 0)).1.snap.length : Int) = (s.snap.length : Int) := by rw [hap]
        have hb7 : (((s.append (List.replicate m 0)).1.log.length : Int) != (s.log.length : Int)) = false := by simp only [bne_eq_false_iff_eq]; exact hlen7
        have hb8 : (((s.append (List.replicate m 0)).1.snap.length : Int) != (s.snap.length : Int)) = false := by simp only [bne_eq_false_iff_eq]; exact hlen8
        have H7 := Lib.hid hlen7
        have H8 := Lib.hid hlen8
        have herr : (s.append (List.replicate m 0)).2 = 17 := by rw [hap]
        rw [herr]
        clear hap herr hlen7 hlen8 hxr hx4 hx5 hDk hlv hcell
        clear hown hD4 hne hbl
        generalize (s.append (List.replicate m 0)).1 = S at *
        go_wp2_with fail
        refine (log_any' w5 g S no hD5 hlv5.ok).mono ?_
        rintro e w6 ⟨b6, c6, rfl, ho6, hx6⟩
        go_wp2_with fail
        refine (snap_any w6 g S no (hD5.no hx6) hlv5.ok).mono ?_
        rintro e w7 ⟨b7, c7, rfl, ho7, hx7⟩
        have hD7 := (hD5.no hx6).no hx7
        have hx07 := (hx05.comp hx6).comp hx7
        clear ho6 ho7 hx6 hx7 hD5 hx05
        go_wp2_with fail
        go_roundw
        case rel => exact ⟨k + 1, S, by omega, by omega, by go_num, by rw [H7.out], by rw [H8.out], hD7, hlv5, hx07⟩
        case measure => simp [intOf]; omega
      · have dF : decide ((R : Int) < (s.log.length : Int) + s.snap.length + m) = false := decF (by omega)
        go_wp2_with (with_reducible refine wpList_make_z TBytes rfl rfl rfl m rfl rfl rfl rfl wr.heap.size (Nat.le_refl _) (by omega) (by unfold maxLen; omega) ?_)
        intro ad w4 hown hx4
        rw [zeros_bs] at hown
        have hD4 := hDk.no hx4
        have hne : List.replicate m (0 : UInt8) ≠ [] → ∀ ad', some ad = some ad' → ad'.block ≠ g := fun _ ad' h => by cases h; have := (hown.base _ rfl).1; have := hDk.lt; omega
        have hbl : (List.replicate m (0 : UInt8)).length ≤ 1099511627776 := by simp; omega
        have hml : m = (List.replicate m (0 : UInt8)).length := by simp
        have Hml := Lib.hid hml
        clear hml
        go_wp2_with fail
        refine (append_at w4 g s no hD4 (fun k h => h.elim) hok (some ad) m m (List.replicate m 0) Hml.out hown.rd hne hbl).mono ?_
        rintro e w5 ⟨rfl, hD5, hx5⟩
        have hap : s.append (List.replicate m 0) = ({ s with done := s.done + 1, log := s.log ++ List.replicate m 0 }, 0) := DS.append_live Hd.out Hl.out _ (by rw [Hrm.out]; simp; omega)
        have hlv5 : Live (s.append (List.replicate m 0)).1 R (k + 1) := by
          have h1 := DS.ok_append hok (by omega) (List.replicate m 0)
          refine ⟨h1.1, ?_, ?_, ?_, by have := h1.2; omega⟩ <;> rw [hap] <;> first | exact Hd.out | exact Hl.out | exact Hrm.out
        have hx05 : Ext no w w5 := (hxr.comp hx4).trans hx5 (fun i hi h => by simp only [Esc.just] at h; omega)
        have hlen7 : ((s.append (List.replicate m 0)).1.log.length : Int) = ((s.log.length : Int) + m) := by rw [hap]; simp
        have hlen8 : ((s.append (List.replicate m 0)).1.snap.length : Int) = (s.snap.length : Int) := by rw [hap]
        have hb7 : (((s.append (List.replicate m 0)).1.log.length : Int) != ((s.log.length : Int) + m)) = false := by simp only [bne_eq_false_iff_eq]; exact hlen7
        have hb8 : (((s.append (List.replicate m 0)).1.snap.length : Int) != (s.snap.length : Int)) = false := by simp only [bne_eq_false_iff_eq]; exact hlen8
        have H7 := Lib.hid hlen7
        have H8 := Lib.hid hlen8
        have herr : (s.append (List.replicate m 0)).2 = 0 := by rw [hap]
        rw [herr]
        clear hap herr hlen7 hlen8 hxr hx4 hx5 hDk hlv hcell
        clear hown hD4 hne hbl
        generalize (s.append (List.replicate m 0)).1 = S at *
        go_wp2_with fail
        refine (log_any' w5 g S no hD5 hlv5.ok).mono ?_
        rintro e w6 ⟨b6, c6, rfl, ho6, hx6⟩
        go_wp2_with fail
        refine (snap_any w6 g S no (hD5.no hx6) hlv5.ok).mono ?_
        rintro e w7 ⟨b7, c7, rfl, ho7, hx7⟩
        have hD7 := (hD5.no hx6).no hx7
        have hx07 := (hx05.comp hx6).comp hx7
        clear ho6 ho7 hx6 hx7 hD5 hx05
        go_wp2_with fail
        go_roundw
        case rel => exact ⟨k + 1, S, by omega, by omega, by go_num, by rw [H7.out], by rw [H8.out], hD7, hlv5, hx07⟩
        case measure => simp [intOf]; omega
    · by_cases hf : R < m
      · have dF : decide (R < m) = true := decT (by omega)
        go_wp2_with (with_reducible refine wpList_make_z TBytes rfl rfl rfl m rfl rfl rfl rfl wr.heap.size (Nat.le_refl _) (by omega) (by unfold maxLen; omega) ?_)
        intro ad w4 hown hx4
        rw [zeros_bs] at hown
        have hD4 := hDk.no hx4
        have hne : List.replicate m (0 : UInt8) ≠ [] → ∀ ad', some ad = some ad' → ad'.block ≠ g := fun _ ad' h => by cases h; have := (hown.base _ rfl).1; have := hDk.lt; omega
        have hbl : (List.replicate m (0 : UInt8)).length ≤ 1099511627776 := by simp; omega
        have hml : m = (List.replicate m (0 : UInt8)).length := by simp
        have Hml := Lib.hid hml
        clear hml
        go_wp2_with fail
        refine (swap_at w4 g s no hD4 (fun k h => h.elim) hok (some ad) m m (List.replicate m 0) Hml.out hown.rd hne hbl).mono ?_
        rintro e w5 ⟨rfl, hD5, hx5⟩
        have hap : s.swap (List.replicate m 0) = (s, 17) := by unfold DS.swap; rw [if_neg (by rw [Hd.out]; simp), if_pos (by rw [Hrm.out]; simp; omega)]
        have hlv5 : Live (s.swap (List.replicate m 0)).1 R (k + 1) := by
          have h1 := DS.ok_swap hok (by omega) (List.replicate m 0)
          refine ⟨h1.1, ?_, ?_, ?_, by have := h1.2; omega⟩ <;> rw [hap] <;> first | exact Hd.out | exact Hl.out | exact Hrm.out
        have hx05 : Ext no w w5 := (hxr.comp hx4).trans hx5 (fun i hi h => by simp only [Esc.just] at h; omega)
        have hlen7 : ((s.swap (List.replicate m 0)).1.log.length : Int) = (s.log.length : Int) := by rw [hap]
        have hlen8 : ((s.swap (List.replicate m 0)).1.snap.length : Int) = (s.snap.length : Int) := by rw [hap]
        have hb7 : (((s.swap (List.replicate m 0)).1.log.length : Int) != (s.log.length : Int)) = false := by simp only [bne_eq_false_iff_eq]; exact hlen7
        have hb8 : (((s.swap (List.replicate m 0)).1.snap.length : Int) != (s.snap.length : Int)) = false := by simp only [bne_eq_false_iff_eq]; exact hlen8
        have H7 := Lib.hid hlen7
        have H8 := Lib.hid hlen8
        have herr : (s.swap (List.replicate m 0)).2 = 17 := by rw [hap]
        rw [herr]
        clear hap herr hlen7 hlen8 hxr hx4 hx5 hDk hlv hcell
        clear hown hD4 hne hbl
        generalize (s.swap (List.replicate m 0)).1 = S at *
        go_wp2_with fail
        refine (log_any' w5 g S no hD5 hlv5.ok).mono ?_
        rintro e w6 ⟨b6, c6, rfl, ho6, hx6⟩
        go_wp2_with fail
        refine (snap_any w6 g S no (hD5.no hx6) hlv5.ok).mono ?_
        rintro e w7 ⟨b7, c7, rfl, ho7, hx7⟩
        have hD7 := (hD5.no hx6).no hx7
        have hx07 := (hx05.comp hx6).comp hx7
        clear ho6 ho7 hx6 hx7 hD5 hx05
        go_wp2_with fail
        go_roundw
        case rel => exact ⟨k + 1, S, by omega, by omega, by go_num, by rw [H7.out], by rw [H8.out], hD7, hlv5, hx07⟩
        case measure => simp [intOf]; omega
      · have dF : decide (R < m) = false := decF (by omega)
        go_wp2_with (with_reducible refine wpList_make_z TBytes rfl rfl rfl m rfl rfl rfl rfl wr.heap.size (Nat.le_refl _) (by omega) (by unfold maxLen; omega) ?_)
        intro ad w4 hown hx4
        rw [zeros_bs] at hown
        have hD4 := hDk.no hx4
        have hne : List.replicate m (0 : UInt8) ≠ [] → ∀ ad', some ad = some ad' → ad'.block ≠ g := fun _ ad' h => by cases h; have := (hown.base _ rfl).1; have := hDk.lt; omega
        have hbl : (List.replicate m (0 : UInt8)).length ≤ 1099511627776 := by simp; omega
        have hml : m = (List.replicate m (0 : UInt8)).length := by simp
        have Hml := Lib.hid hml
        clear hml
        go_wp2_with fail
        refine (swap_at w4 g s no hD4 (fun k h => h.elim) hok (some ad) m m (List.replicate m 0) Hml.out hown.rd hne hbl).mono ?_
        rintro e w5 ⟨rfl, hD5, hx5⟩
        have hap : s.swap (List.replicate m 0) = ({ s with done := s.done + 1, snap := List.replicate m 0, log := [], synced := 0 }, 0) := DS.swap_live Hd.out Hl.out _ (by rw [Hrm.out]; simp; omega)
        have hlv5 : Live (s.swap (List.replicate m 0)).1 R (k + 1) := by
          have h1 := DS.ok_swap hok (by omega) (List.replicate m 0)
          refine ⟨h1.1, ?_, ?_, ?_, by have := h1.2; omega⟩ <;> rw [hap] <;> first | exact Hd.out | exact Hl.out | exact Hrm.out
        have hx05 : Ext no w w5 := (hxr.comp hx4).trans hx5 (fun i hi h => by simp only [Esc.just] at h; omega)
        have hlen7 : ((s.swap (List.replicate m 0)).1.log.length : Int) = 0 := by rw [hap]; simp
        have hlen8 : ((s.swap (List.replicate m 0)).1.snap.length : Int) = (m : Int) := by rw [hap]; simp
        have hb7 : (((s.swap (List.replicate m 0)).1.log.length : Int) != 0) = false := by simp only [bne_eq_false_iff_eq]; exact hlen7
        have hb8 : (((s.swap (List.replicate m 0)).1.snap.length : Int) != (m : Int)) = false := by simp only [bne_eq_false_iff_eq]; exact hlen8
        have H7 := Lib.hid hlen7
        have H8 := Lib.hid hlen8
        have herr : (s.swap (List.replicate m 0)).2 = 0 := by rw [hap]
        rw [herr]
        clear hap herr hlen7 hlen8 hxr hx4 hx5 hDk hlv hcell
        clear hown hD4 hne hbl
        generalize (s.swap (List.replicate m 0)).1 = S at *
        go_wp2_with fail
        refine (log_any' w5 g S no hD5 hlv5.ok).mono ?_
        rintro e w6 ⟨b6, c6, rfl, ho6, hx6⟩
        go_wp2_with fail
        refine (snap_any w6 g S no (hD5.no hx6) hlv5.ok).mono ?_
        rintro e w7 ⟨b7, c7, rfl, ho7, hx7⟩
        have hD7 := (hD5.no hx6).no hx7
        have hx07 := (hx05.comp hx6).comp hx7
        clear ho6 ho7 hx6 hx7 hD5 hx05
        go_wp2_with fail
        go_roundw
        case rel => exact ⟨k + 1, S, by omega, by omega, by go_num, by rw [H7.out], by rw [H8.out], hD7, hlv5, hx07⟩
        case measure => simp [intOf]; omega
    · by_cases hf : s.log.length < m
      · have dF : decide (s.log.length < m) = true := decT (by omega)
        have hx4 := Ext.refl no wr
        go_wp2_with fail
        refine (cut_any wr g s no hDk (fun k h => h.elim) hok m ⟨by omega, by omega⟩).mono ?_
        rintro e w5 ⟨rfl, hD5, hx5⟩
        have hap : s.cut (m : Int) = (s, 1) := by unfold DS.cut; rw [if_neg (by rw [Hd.out]; simp), if_pos (by omega)]
        have hlv5 : Live (s.cut (m : Int)).1 R (k + 1) := by
          have h1 := DS.ok_cut hok (by omega) (m : Int)
          refine ⟨h1.1, ?_, ?_, ?_, by have := h1.2; omega⟩ <;> rw [hap] <;> first | exact Hd.out | exact Hl.out | exact Hrm.out
        have hx05 : Ext no w w5 := (hxr.comp hx4).trans hx5 (fun i hi h => by simp only [Esc.just] at h; omega)
        have hlen7 : ((s.cut (m : Int)).1.log.length : Int) = (s.log.length : Int) := by rw [hap]
        have hlen8 : ((s.cut (m : Int)).1.snap.length : Int) = (s.snap.length : Int) := by rw [hap]
        have hb7 : (((s.cut (m : Int)).1.log.length : Int) != (s.log.length : Int)) = false := by simp only [bne_eq_false_iff_eq]; exact hlen7
        have hb8 : (((s.cut (m : Int)).1.snap.length : Int) != (s.snap.length : Int)) = false := by simp only [bne_eq_false_iff_eq]; exact hlen8
        have H7 := Lib.hid hlen7
        have H8 := Lib.hid hlen8
        have herr : (s.cut (m : Int)).2 = 1 := by rw [hap]
        rw [herr]
        clear hap herr hlen7 hlen8 hxr hx4 hx5 hDk hlv hcell
        generalize (s.cut (m : Int)).1 = S at *
        go_wp2_with fail
        refine (log_any' w5 g S no hD5 hlv5.ok).mono ?_
        rintro e w6 ⟨b6, c6, rfl, ho6, hx6⟩
        go_wp2_with fail
        refine (snap_any w6 g S no (hD5.no hx6) hlv5.ok).mono ?_
        rintro e w7 ⟨b7, c7, rfl, ho7, hx7⟩
        have hD7 := (hD5.no hx6).no hx7
        have hx07 := (hx05.comp hx6).comp hx7
        clear ho6 ho7 hx6 hx7 hD5 hx05
        go_wp2_with fail
        go_roundw
        case rel => exact ⟨k + 1, S, by omega, by omega, by go_num, by rw [H7.out], by rw [H8.out], hD7, hlv5, hx07⟩
        case measure => simp [intOf]; omega
      · have dF : decide (s.log.length < m) = false := decF (by omega)
        have hx4 := Ext.refl no wr
        go_wp2_with fail
        refine (cut_any wr g s no hDk (fun k h => h.elim) hok m ⟨by omega, by omega⟩).mono ?_
        rintro e w5 ⟨rfl, hD5, hx5⟩
        have hap : s.cut (m : Int) = ({ s with done := s.done + 1, log := s.log.take m, synced := m }, 0) := DS.cut_live Hd.out Hl.out m (by omega)
        have hlv5 : Live (s.cut (m : Int)).1 R (k + 1) := by
          have h1 := DS.ok_cut hok (by omega) (m : Int)
          refine ⟨h1.1, ?_, ?_, ?_, by have := h1.2; omega⟩ <;> rw [hap] <;> first | exact Hd.out | exact Hl.out | exact Hrm.out
        have hx05 : Ext no w w5 := (hxr.comp hx4).trans hx5 (fun i hi h => by simp only [Esc.just] at h; omega)
        have hlen7 : ((s.cut (m : Int)).1.log.length : Int) = (m : Int) := by rw [hap]; simp; omega
        have hlen8 : ((s.cut (m : Int)).1.snap.length : Int) = (s.snap.length : Int) := by rw [hap]
        have hb7 : (((s.cut (m : Int)).1.log.length : Int) != (m : Int)) = false := by simp only [bne_eq_false_iff_eq]; exact hlen7
        have hb8 : (((s.cut (m : Int)).1.snap.length : Int) != (s.snap.length : Int)) = false := by simp only [bne_eq_false_iff_eq]; exact hlen8
        have H7 := Lib.hid hlen7
        have H8 := Lib.hid hlen8
        have herr : (s.cut (m : Int)).2 = 0 := by rw [hap]
        rw [herr]
        clear hap herr hlen7 hlen8 hxr hx4 hx5 hDk hlv hcell
        generalize (s.cut (m : Int)).1 = S at *
        go_wp2_with fail
        refine (log_any' w5 g S no hD5 hlv5.ok).mono ?_
        rintro e w6 ⟨b6, c6, rfl, ho6, hx6⟩
        go_wp2_with fail
        refine (snap_any w6 g S no (hD5.no hx6) hlv5.ok).mono ?_
        rintro e w7 ⟨b7, c7, rfl, ho7, hx7⟩
        have hD7 := (hD5.no hx6).no hx7
        have hx07 := (hx05.comp hx6).comp hx7
        clear ho6 ho7 hx6 hx7 hD5 hx05
        go_wp2_with fail
        go_roundw
        case rel => exact ⟨k + 1, S, by omega, by omega, by go_num, by rw [H7.out], by rw [H8.out], hD7, hlv5, hx07⟩
        case measure => simp [intOf]; omega
end Go.Proofs.Ytfihjjbonahahaa
