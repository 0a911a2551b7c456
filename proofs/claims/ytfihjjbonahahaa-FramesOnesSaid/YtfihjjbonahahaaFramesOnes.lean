/- The walk of the law FramesOnes. -/
import Derived.Test.YtfihjjbonahahaaFrO
import Derived.Test.YtfihjjbonahahaaFrP
namespace Go.Proofs.Ytfihjjbonahahaa
open Go.RowKit Go.Esc
set_option linter.unusedVariables false

theorem fone_at (w : World) (a : Option Addr) (m c : Nat) (l : List UInt8) (hm : m = l.length) (hrd : Rd w a (bs l)) (hl : l.length ≤ 1099511627776) (hlc : l.length ≤ c) :
    Calls Try.prog 28 #[.slice a m c] w fun e w' => ∃ a' c', e = .returned (.tuple #[.slice a' (one l).1.length c', .int .i64 (one l).2]) ∧ Rd w' a' (bs (one l).1) ∧ Ext no w w' := by
  subst hm; exact fone_any w a c l hrd hl hlc

theorem fscan_at (w : World) (a : Option Addr) (m c : Nat) (l : List UInt8) (hm : m = l.length) (hrd : Rd w a (bs l)) (hl : l.length ≤ 1099511627776) (hlc : l.length ≤ c) (hcm : c ≤ maxLen) :
    Calls Try.prog 19 #[.slice a m c] w (ScanEnd w l) := by
  subst hm; exact fscan_any w a c l hrd hl hlc hcm

set_option maxRecDepth 100000 in
set_option maxHeartbeats 4000000 in
theorem ones_walk (w : World) (ba : Option Addr) (b : List UInt8) (bc : Nat) (cut : Int) (ma : Option Addr) (more : List UInt8) (mc : Nat)
    (hbd : Rd w ba (bs b)) (hbl : b.length ≤ bc) (hbc : bc ≤ maxLen) (hcut : I64ok cut) (hmd : Rd w ma (bs more)) (hml : more.length ≤ mc) (hmc : mc ≤ maxLen) :
    Calls Try.prog 14 #[.slice ba b.length bc, .int .i64 cut, .slice ma more.length mc] w fun e w' => e = .returned (.bool true) ∧ Ext no w w' := by
  have Hcut := Lib.hid hcut
  clear hcut
  unfold maxLen at hbc hmc
  by_cases h300 : 300 < b.length
  · have d1 : decide ((300 : Int) < b.length) = true := by rw [decide_eq_true_eq]; omega
    go_enter Try.func14, Try.ntmps14
    go_wp2_with fail
    refine (known_any w).mono ?_
    rintro e w1 ⟨rfl, hx1⟩
    go_wp2_with fail
    go_ret
    exact ⟨rfl, hx1⟩
  have d1 : decide ((300 : Int) < b.length) = false := by rw [decide_eq_false_iff_not]; omega
  by_cases h50 : 50 < more.length
  · have d2 : decide ((50 : Int) < more.length) = true := by rw [decide_eq_true_eq]; omega
    go_enter Try.func14, Try.ntmps14
    go_wp2_with fail
    refine (known_any w).mono ?_
    rintro e w1 ⟨rfl, hx1⟩
    go_wp2_with fail
    go_ret
    exact ⟨rfl, hx1⟩
  have d2 : decide ((50 : Int) < more.length) = false := by rw [decide_eq_false_iff_not]; omega
  go_enter Try.func14, Try.ntmps14
  go_wp2_with fail
  refine (known_any w).mono ?_
  rintro e w1 ⟨rfl, hx1⟩
  go_wp2_with fail
  refine (fframe_any w1 ba bc b (hbd.ext hx1 (fun _ _ h => h)) (by omega)).mono ?_
  rintro e w2 ⟨xa, xc, rfl, hownx, hx2⟩
  have hx02 := hx1.comp hx2
  have hfl := frame_length b
  have Hone := Lib.hid (one_cut b (by omega))
  have Hmore := Lib.hid (show (one (frame b ++ more)).2 = if more = [] then 0 else 9 by
    split
    · rename_i hm; rw [hm, List.append_nil, one_frame b (by omega)]
    · rename_i hm; rw [one_more b more (by omega) hm])
  have Hlong := Lib.hid (fun v : UInt8 => rd4_set0 (frame b) v (by omega))
  have hF8 : 8 ≤ (frame b).length := by omega
  have hF3 : (frame b).length ≤ 308 := by omega
  have hxd := hownx.rd
  have hxnc := hownx.nc
  clear hx1 hx2 hfl hownx
  generalize frame b = F at *
  obtain ⟨k, hk⟩ : ∃ k : Nat, cut % (F.length : Int) = k := ⟨(cut % (F.length : Int)).toNat, by have := Int.emod_nonneg cut (show (F.length : Int) ≠ 0 by omega); omega⟩
  have hkl : k < F.length := by have := Int.emod_lt_of_pos cut (show (0 : Int) < F.length by omega); omega
  have cutk : ∀ w, (Instr.sliceAt 23 (.slice xa F.length xc) none (some (.int .i64 (k : Int))) none).run Try.prog w = .ok (.slice xa k xc) w := fun w => run_cut_h TBytes w xa F.length xc .i64 k (by omega)
  have Hk := Lib.hid hk
  have HkF := Lib.hid (show k = (F.take k).length by rw [List.length_take]; omega)
  clear hk
  go_wp2_with fail
  refine (within_any cut F.length w2 (by omega) (by omega) Hcut.out).mono ?_
  rintro e w3 ⟨rfl, rfl⟩
  rw [Hk.out]
  go_wp2_with fail
  refine (fone_at w2 xa k xc (F.take k) HkF.out (by rw [← bs_take]; exact hxd.take k) (by rw [← HkF.out]; omega) (by rw [← HkF.out]; omega)).mono ?_
  rintro e w3 ⟨a3, c3, rfl, hrd3, hx3⟩
  rw [Hone.out k hkl] at hrd3 ⊢
  clear hrd3
  have hxd3 := hxd.ext hx3 (fun _ _ h => h)
  have hx03 := hx02.comp hx3
  clear hx3 hxd
  go_wp2_with (at_builtin; refine wpList_append TBytes rfl rfl rfl (emptied w3 5) rfl (hxd3.alloc _) (by simp) (bs_one _) (by unfold maxLen; omega) (by omega) (by simp) ?_)
  intro a4 c4 w4 happ
  obtain ⟨hown4, hx4⟩ := copied happ
  clear happ
  have hmd4 := hmd.ext (hx03.comp hx4) (fun _ _ h => h)
  go_wp2_with (at_builtin; refine wpList_append TBytes rfl rfl rfl hown4 rfl hmd4 (by simp) (bs_one _) (by unfold maxLen; omega) (by omega) hx4.size ?_)
  intro a5 c5 w5 happ
  obtain ⟨hown5, hx5⟩ := appended hown4 hx4 happ
  clear happ hown4 hx4 hmd4
  go_wp2_with fail
  refine (fone_at w5 a5 (F.length + more.length) c5 (F ++ more) (by simp) hown5.rd (by simp; omega) (by simp; exact hown5.nc)).mono ?_
  rintro e w6 ⟨a6, c6, rfl, hrd6, hx6⟩
  obtain ⟨q, hq⟩ : ∃ q : Nat, (one (F ++ more)).2 = q := ⟨_, rfl⟩
  rw [hq]
  have Hq := Lib.hid hq
  clear hq
  have hx06 := (hx03.comp hx5).comp hx6
  have hxd6 := hxd3.ext (hx5.comp hx6) (fun _ _ h => h)
  clear hrd6 hx6 hx5 hown5 hx03 hxd3
  generalize (one (F ++ more)).1 = z1 at *
  go_wp2_with (at_builtin; refine wpList_append TBytes rfl rfl rfl (emptied w6 5) rfl (hxd6.alloc _) (by simp) (bs_one _) (by unfold maxLen; omega) (by omega) (by simp) ?_)
  intro a7 c7 w7 happ
  obtain ⟨hown7, hx7⟩ := copied happ
  clear happ
  obtain ⟨j, hj⟩ : ∃ j : Nat, cut % 255 = j := ⟨(cut % 255).toNat, by omega⟩
  have hjl : j < 255 := by omega
  have Hj := Lib.hid hj
  clear hj
  go_wp2_with fail
  refine (within_any cut 255 w7 (by omega) (by omega) Hcut.out).mono ?_
  rintro e w8 ⟨rfl, rfl⟩
  rw [Hj.out]
  obtain ⟨yb, yo, rfl, hylt⟩ := hown7.rd.shape (by rw [bs_length]; omega)
  have hcell := hown7.rd.lookup 0 (by rw [bs_length]; omega)
  rw [Nat.add_zero] at hcell
  have hfr : w7.frozen? ⟨yb, yo, none⟩ = false := by
    obtain ⟨_, e, _, f⟩ := hown7.can 0 (by have := hown7.nc; omega)
    cases e; rwa [Addr.add_zero'] at f
  have hset : Own (w7.setCell ⟨yb, yo, none⟩ (.int .u8 (1 + (j : Int)))) w6.heap.size (some ⟨yb, yo, none⟩) 1 F.length c7 (bs (F.set 0 (b8 (1 + j)))) := by
    have := hown7.set 0 (by omega) (B8 (b8 (1 + j)))
    rw [Addr.add_zero', bs_set, B8_b8 _ (by omega)] at this
    simpa using this
  have hx8 : Ext no w6 (w7.setCell ⟨yb, yo, none⟩ (.int .u8 (1 + (j : Int)))) := hx7.trans (Ext.setCell (S := just yb) _ _ _ rfl) (fun i hi h => by have := (hown7.base _ rfl).1; simp only [Esc.just] at h; simp only at this; omega)
  have hl := Hlong.out (b8 (1 + j)) (by rw [b8_toNat _ (by omega)]; omega)
  have hyl : (F.set 0 (b8 (1 + j))).length = F.length := by simp
  have Hyl := Lib.hid hyl
  have H1 := Lib.hid (one_long (F.set 0 (b8 (1 + j))) (by omega) hl)
  have H2 := Lib.hid (scan_long (F.set 0 (b8 (1 + j))) hl)
  clear hl hyl
  have hF0 : (0 : Int) < F.length := by omega
  have hcell' : w7.cell? ⟨yb, yo, none⟩ = some (.int .u8 F[0].toNat) := by rw [hcell]; simp [bs, B8]
  clear hcell
  go_wp2_with fail
  generalize w7.setCell ⟨yb, yo, none⟩ (.int .u8 (1 + (j : Int))) = w8 at *
  generalize F.set 0 (b8 (1 + j)) = y at *
  clear hcell' hfr hown7 hx7 hylt
  have hcm := hset.cm
  have hcn := hset.nc
  refine (fone_at w8 (some ⟨yb, yo, none⟩) F.length c7 y Hyl.out.symm hset.rd (by rw [Hyl.out]; omega) (by rw [Hyl.out]; exact hcn)).mono ?_
  rintro e w9 ⟨a9, c9, rfl, hrd9, hx9⟩
  rw [H1.out]
  clear hrd9
  have hyd := hset.rd.ext hx9 (fun _ _ h => h)
  go_wp2_with fail
  refine (fscan_at w9 (some ⟨yb, yo, none⟩) F.length c7 y Hyl.out.symm hyd (by rw [Hyl.out]; omega) (by rw [Hyl.out]; exact hcn) hcm).mono ?_
  rintro e w10 ⟨a10, c10, rfl, _, hx10⟩
  rw [H2.out]
  have hxe := ((hx06.comp hx8).comp hx9).comp hx10
  clear hx06 hx8 hx9 hx10 hyd hset hxd6 hcm hcn
  by_cases hm : more = []
  · have hq0 : q = 0 := by rw [← Hq.out, Hmore.out, if_pos hm]
    subst hq0
    have hml0 : ((more.length : Int) == 0) = true := by rw [hm]; rfl
    clear hm
    go_wp2_with fail
    go_ret
    exact ⟨rfl, hxe⟩
  · have hq9 : q = 9 := by rw [← Hq.out, Hmore.out, if_neg hm]
    subst hq9
    have hml0 : ((more.length : Int) == 0) = false := by rw [beq_eq_false_iff_ne]; have := List.length_pos_iff.2 hm; omega
    clear hm
    go_wp2_with fail
    go_ret
    exact ⟨rfl, hxe⟩
end Go.Proofs.Ytfihjjbonahahaa
