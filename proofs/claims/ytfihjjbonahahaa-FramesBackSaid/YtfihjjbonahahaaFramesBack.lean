/- The walk of the law FramesBack. -/
import Derived.Test.YtfihjjbonahahaaFrO
import Derived.Test.YtfihjjbonahahaaFrP
namespace Go.Proofs.Ytfihjjbonahahaa
open Go.RowKit Go.Esc
set_option linter.unusedVariables false

theorem fone_at' (w : World) (a : Option Addr) (m c : Nat) (l : List UInt8) (hm : m = l.length) (hrd : Rd w a (bs l)) (hl : l.length ≤ 1099511627776) (hlc : l.length ≤ c) :
    Calls Try.prog 28 #[.slice a m c] w fun e w' => ∃ a' c', e = .returned (.tuple #[.slice a' (one l).1.length c', .int .i64 (one l).2]) ∧ Rd w' a' (bs (one l).1) ∧ Ext no w w' := by
  subst hm; exact fone_any w a c l hrd hl hlc
theorem fscan_at' (w : World) (a : Option Addr) (m c : Nat) (l : List UInt8) (hm : m = l.length) (hrd : Rd w a (bs l)) (hl : l.length ≤ 1099511627776) (hlc : l.length ≤ c) (hcm : c ≤ maxLen) :
    Calls Try.prog 19 #[.slice a m c] w (ScanEnd w l) := by
  subst hm; exact fscan_any w a c l hrd hl hlc hcm
theorem flat_snoc (b : List UInt8) (k : Nat) : (List.replicate (k + 1) b).flatMap frame = (List.replicate k b).flatMap frame ++ frame b := by
  rw [List.replicate_succ', List.flatMap_append, List.flatMap_singleton]

set_option maxRecDepth 100000 in
set_option maxHeartbeats 4000000 in
theorem back_walk (w : World) (ba : Option Addr) (b : List UInt8) (bc : Nat) (n0 : Int) (hbd : Rd w ba (bs b)) (hbl : b.length ≤ bc) (hbc : bc ≤ maxLen) (hn0 : I64ok n0) :
    Calls Try.prog 13 #[.slice ba b.length bc, .int .i64 n0] w fun e w' => e = .returned (.bool true) ∧ Ext no w w' := by
  have Hn0 := Lib.hid hn0
  clear hn0
  unfold maxLen at hbc
  by_cases h300 : 300 < b.length
  · have d1 : decide ((300 : Int) < b.length) = true := by rw [decide_eq_true_eq]; omega
    go_enter Try.func13, Try.ntmps13
    go_wp2_with fail
    refine (known_any w).mono ?_
    rintro e w1 ⟨rfl, hx1⟩
    go_wp2_with fail
    go_ret
    exact ⟨rfl, hx1⟩
  have d1 : decide ((300 : Int) < b.length) = false := by rw [decide_eq_false_iff_not]; omega
  obtain ⟨n, hn⟩ : ∃ n : Nat, n0 % 4 = n := ⟨(n0 % 4).toNat, by omega⟩
  have hn4 : n < 4 := by omega
  have Hn := Lib.hid hn
  clear hn
  go_enter Try.func13, Try.ntmps13
  go_wp2_with fail
  refine (known_any w).mono ?_
  rintro e w1 ⟨rfl, hx1⟩
  go_wp2_with fail
  refine (within_any n0 4 w1 (by omega) (by omega) Hn0.out).mono ?_
  rintro e w2 ⟨rfl, rfl⟩
  rw [Hn.out]
  have hz := emptied w1 5
  go_wp2_with fail
  go_loopw [5, 6] (fun s5 s6 wr => ∃ (k : Nat) (v : Option Addr) (cv : Nat) (M : List UInt8), k ≤ n ∧ s6 = .int .i64 k ∧ s5 = .slice v M.length cv ∧ M = (List.replicate k b).flatMap frame ∧ M.length ≤ 308 * k ∧ Own wr w1.heap.size v 1 M.length cv (bs M) ∧ Ext no w1 wr) (fun _ s6 _ => n - (intOf s6).toNat)
  case atStart => exact ⟨0, _, 0, [], Nat.zero_le _, rfl, rfl, by simp, by simp, hz, Ext.alloc no _ _⟩
  case round =>
    clear hz
    obtain ⟨k, v, cv, M, hk, rfl, rfl, hM, hMl, hown, hx⟩ := hrel
    have HM := Lib.hid hM
    clear hM
    by_cases hlt : k < n
    · have Hst := Lib.hid (show (List.replicate (k + 1) b).flatMap frame = M ++ frame b by rw [flat_snoc, HM.out])
      have Hone := Lib.hid (one_frame b (by omega))
      have hfl := frame_length b
      have hF : (frame b).length ≤ 308 := by omega
      have hFe : (((frame b).length : Int) != (b.length : Int) + 8) = false := by simp; omega
      have hbd1 := hbd.ext (hx1.comp hx) (fun _ _ h => h)
      clear hfl
      go_wp2_with fail
      refine (fframe_any wr ba bc b hbd1 (by omega)).mono ?_
      rintro e w3 ⟨xa, xc, rfl, hownx, hx3⟩
      have hrdx := hownx.rd
      have hnx := hownx.nc
      have hx13 := hx.comp hx3
      have hown3 := hown.ext hx3 (fun _ _ h => h)
      clear hownx hown hbd1 hx3
      generalize frame b = F at *
      go_wp2_with fail
      refine (fone_at' w3 xa F.length xc F rfl hrdx (by omega) hnx).mono ?_
      rintro e w4 ⟨ya, yc, rfl, hrdy, hx4⟩
      rw [Hone.out] at hrdy ⊢
      have hx14 := hx13.comp hx4
      have hrdx4 := hrdx.ext hx4 (fun _ _ h => h)
      have hown4 := hown3.ext hx4 (fun _ _ h => h)
      have hbd4 := hbd.ext (hx1.comp hx14) (fun _ _ h => h)
      have cx : (convert 23 9 (.slice ya b.length yc)).run Try.prog w4 = .ok (.string (str b)) w4 := convStr _ _ _ _ _ rfl hrdy
      have cb : (convert 23 9 (.slice ba b.length bc)).run Try.prog w4 = .ok (.string (str b)) w4 := convStr _ _ _ _ _ rfl hbd4
      have hs4 := hx14.size
      clear hx13 hx4 hown3 hrdx
      go_wp2_with (at_builtin; refine wpList_append TBytes rfl rfl rfl hown4 rfl hrdx4 (by simp) (bs_one _) (by unfold maxLen; omega) (by omega) hs4 ?_)
      intro a5 c5 w5 happ
      obtain ⟨hown5, hx5⟩ := appended hown4 hx14 happ
      clear happ hown4 hx14 cx cb
      rw [← List.length_append] at hown5
      have hml : (M ++ F).length ≤ 308 * (k + 1) := by rw [List.length_append]; omega
      go_wp2_with fail
      go_roundw
      case rel => exact ⟨k + 1, a5, c5, M ++ F, by omega, by go_num, by simp, Hst.out.symm, hml, hown5, hx5⟩
      case measure => simp [intOf]; omega
    · obtain rfl : k = n := by omega
      have HS := Lib.hid (show scan M = (List.replicate k b, M.length) by
        have := scan_frames (List.replicate k b) [] (fun x hx => by rw [List.eq_of_mem_replicate hx]; omega)
        rw [List.append_nil, scan_short (r := []) (by simp), List.append_nil, Nat.add_zero, ← HM.out] at this
        exact this)
      go_wp2_with fail
      refine (fscan_at' wr v M.length cv M rfl hown.rd (by omega) hown.nc hown.cm).mono ?_
      rintro e w3 ⟨la, lc, rfl, hL, hx3⟩
      rw [HS.out] at hL ⊢
      have hx03 := (hx1.comp hx).comp hx3
      obtain ⟨qs, hqs0, hqd, hqr⟩ := hL
      have hqs : qs.map Part.l = List.replicate k b := hqs0
      clear hqs0
      have hql : qs.length = k := by have := congrArg List.length hqs; simpa using this
      have Hqb := Lib.hid (show ∀ q ∈ qs, q.l = b from fun q hq => List.eq_of_mem_replicate (n := k) (hqs ▸ List.mem_map.2 ⟨q, hq, rfl⟩ : q.l ∈ List.replicate k b))
      have Hqr := Lib.hid hqr
      have Hql := Lib.hid hql
      clear hqs hqr hql hx hx3 hown
      go_wp2_with fail
      go_loopw [13] (fun s13 wr => ∃ j : Nat, j ≤ k ∧ s13 = .int .i64 j ∧ Ext no w3 wr) (fun s13 _ => k - (intOf s13).toNat)
      case atStart => exact ⟨0, Nat.zero_le _, rfl, Ext.refl _ _⟩
      case round =>
        obtain ⟨j, hj, rfl, hxr⟩ := hrel
        by_cases hlt : j < k
        · have hjq : j < qs.length := by rw [Hql.out]; exact hlt
          obtain ⟨ad, rfl, _⟩ := hqd.ne (by simp; omega)
          have hcell := hxr.keeps (hqd.cell j (by simpa using hjq)) (fun h => h)
          rw [List.getElem_map, Part.v] at hcell
          have hrq := (Hqr.out qs[j] (by simp)).ext hxr (fun _ _ h => h)
          have hqb := Hqb.out qs[j] (by simp)
          rw [hqb] at hcell hrq
          generalize qs[j] = q at *
          clear hqb
          have hbr := hbd.ext (hx03.comp hxr) (fun _ _ h => h)
          have cx : ∀ m, (convert 23 9 (.slice q.a b.length q.c)).run Try.prog (wr.drewN m) = .ok (.string (str b)) (wr.drewN m) := fun m => convStr _ _ _ _ _ rfl (hrq.drewN m)
          have cb : ∀ m, (convert 23 9 (.slice ba b.length bc)).run Try.prog (wr.drewN m) = .ok (.string (str b)) (wr.drewN m) := fun m => convStr _ _ _ _ _ rfl (hbr.drewN m)
          go_upto_region 19 with fail
          go_quiet (fail)
          go_wp2_with fail
          go_roundw
          case rel => exact ⟨j + 1, by omega, by go_num, hxr.comp (Ext.drewN no _ _)⟩
          case measure => simp [intOf]; omega
        · go_wp2_with fail
          go_ret
          exact ⟨rfl, hx03.comp hxr⟩
end Go.Proofs.Ytfihjjbonahahaa
