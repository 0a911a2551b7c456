/- The walk of the law FramesTorn. -/
import Derived.Test.YtfihjjbonahahaaFrO
import Derived.Test.YtfihjjbonahahaaFrP
import Derived.Test.YtfihjjbonahahaaFrQ
import Derived.Test.YtfihjjbonahahaaRegionB
namespace Go.Proofs.Ytfihjjbonahahaa
open Go.RowKit Go.Esc
set_option linter.unusedVariables false

theorem fscan_at'' (w : World) (a : Option Addr) (m c : Nat) (l : List UInt8) (hm : m = l.length) (hrd : Rd w a (bs l)) (hl : l.length ≤ 1099511627776) (hlc : l.length ≤ c) (hcm : c ≤ maxLen) :
    Calls Try.prog 19 #[.slice a m c] w (ScanEnd w l) := by
  subst hm; exact fscan_any w a c l hrd hl hlc hcm
theorem flat_frames_le : ∀ L : List (List UInt8), (∀ l ∈ L, l.length ≤ 300) → (L.flatMap frame).length ≤ L.length * 308
  | [], _ => by simp
  | l :: L, h => by
    have h1 := h l (by simp)
    have h2 := flat_frames_le L (fun x hx => h x (by simp [hx]))
    rw [List.flatMap_cons, List.length_append, frame_length, List.length_cons, Nat.succ_mul]
    omega

set_option maxRecDepth 100000 in
set_option maxHeartbeats 4000000 in
theorem torn_walk (w : World) (la : Option Addr) (ps : List Part) (lc : Nat) (ma : Option Addr) (more : List UInt8) (mc : Nat) (cut : Int)
    (hld : Rd w la (ps.map Part.v)) (hlg : ∀ p ∈ ps, p.good w) (hll : ps.length ≤ lc) (hlc : lc ≤ maxLen) (hmd : Rd w ma (bs more)) (hml : more.length ≤ mc) (hmc : mc ≤ maxLen) (hcut : I64ok cut) :
    Calls Try.prog 8 #[.slice la ps.length lc, .slice ma more.length mc, .int .i64 cut] w fun e w' => e = .returned (.bool true) ∧ Ext no w w' := by
  have Hlg := Lib.hid hlg
  have Hcut := Lib.hid hcut
  clear hlg hcut
  have hlc' := hlc
  unfold maxLen at hlc' hmc
  go_enter Try.func8, Try.ntmps8
  go_wp2_with fail
  refine (known_any w).mono ?_
  rintro e w1 ⟨rfl, hx1⟩
  go_wp2_with fail
  refine (few_any w1 la lc ps (hld.ext hx1 (fun _ _ h => h)) hll hlc).mono ?_
  rintro e w2 ⟨rfl, rfl⟩
  by_cases hf : fewB (ps.map Part.l) = true
  rotate_left
  · have hf' : fewB (ps.map Part.l) = false := by simpa using hf
    rw [hf']
    clear hf hf'
    go_wp2_with fail
    go_ret
    exact ⟨rfl, hx1⟩
  rw [hf]
  obtain ⟨hf1, hf2⟩ := fewB_of hf
  have Hf1 := Lib.hid (show ∀ p ∈ ps, p.l.length ≤ 300 from fun p hp => hf1 _ (List.mem_map.2 ⟨p, hp, rfl⟩))
  have h10 : ps.length ≤ 10 := by simpa using hf2
  have hMl := flat_frames_le _ hf1
  rw [List.length_map] at hMl
  have Hf1' := Lib.hid hf1
  clear hf hf1 hf2
  by_cases h300 : 300 < more.length
  · have hd : decide ((300 : Int) < more.length) = true := by rw [decide_eq_true_eq]; omega
    go_wp2_with fail
    go_ret
    exact ⟨rfl, hx1⟩
  have hd : decide ((300 : Int) < more.length) = false := by rw [decide_eq_false_iff_not]; omega
  go_wp2_with fail
  refine (log_any w1 la lc ps (hld.ext hx1 (fun _ _ h => h)) (fun p hp => ((Hlg.out p hp).1).ext hx1 (fun _ _ h => h)) h10 Hf1.out).mono ?_
  rintro e w2 ⟨a2, c2, rfl, hown2, hx2⟩
  have hx02 := hx1.comp hx2
  have hbd2 := hown2.rd
  have hfr := frame_length more
  have hsc1 : ∀ k, k < (frame more).length → scan ((ps.map Part.l).flatMap frame ++ (frame more).take k) = (ps.map Part.l, ((ps.map Part.l).flatMap frame).length) := fun k hk => by
    rw [scan_frames _ _ (fun x hx => by have := Hf1'.out x hx; omega), scan_none (frameAt_cut more (by omega) k hk)]; simp
  have hsc2 : scan ((ps.map Part.l).flatMap frame ++ frame more) = (ps.map Part.l ++ [more], ((ps.map Part.l).flatMap frame).length + (frame more).length) := by
    rw [scan_frames _ _ (fun x hx => by have := Hf1'.out x hx; omega)]
    have h2 := scan_frame more [] (by omega)
    rw [List.append_nil, scan_short (r := []) (by simp)] at h2
    rw [h2]; simp
  have hM : ((ps.map Part.l).flatMap frame).length ≤ 3080 := by omega
  have hFl : (frame more).length ≤ 308 := by omega
  have hF0 : 0 < (frame more).length := by omega
  have Hsc1 := Lib.hid hsc1
  have Hsc2 := Lib.hid hsc2
  clear hx1 hx2 hown2 hMl hsc1 hsc2 hfr
  generalize (ps.map Part.l).flatMap frame = M at *
  go_wp2_with fail
  refine (fframe_any w2 ma mc more (hmd.ext hx02 (fun _ _ h => h)) (by omega)).mono ?_
  rintro e w3 ⟨xa, xc, rfl, hownx, hx3⟩
  have hxd := hownx.rd
  have hxn := hownx.nc
  have hx03 := hx02.comp hx3
  have hbd3 := hbd2.ext hx3 (fun _ _ h => h)
  clear hownx hx3 hx02 hbd2
  generalize frame more = F at *
  obtain ⟨k, hk⟩ : ∃ k : Nat, cut % (F.length : Int) = k := ⟨(cut % (F.length : Int)).toNat, by have := Int.emod_nonneg cut (show (F.length : Int) ≠ 0 by omega); omega⟩
  have hkl : k < F.length := by have := Int.emod_lt_of_pos cut (show (0 : Int) < F.length by omega); omega
  have Hk := Lib.hid hk
  have HkF := Lib.hid (show k = (F.take k).length by rw [List.length_take]; omega)
  clear hk
  go_wp2_with fail
  refine (within_any cut F.length w3 (by omega) (by omega) Hcut.out).mono ?_
  rintro e w4 ⟨rfl, rfl⟩
  rw [Hk.out]
  go_upto_region 8 with fail
  go_cut [11, 12] (fun s11 s12 wx => ∃ (ya : Option Addr) (yc : Nat), s11 = .slice ya ps.length yc ∧ s12 = .int .i64 M.length ∧ Lists wx ya (ps.map Part.l) ∧ Ext no w3 wx)
  case first =>
    --<A
    refine wp_region_E [] (fun x => True) (by kernel_rfl) ?_
    refine wpE_take 1 (v := ?_) rfl (by kernel_rfl) (by kernel_rfl) (by kernel_rfl) (fun _ _ _ h => h) trivial (by rfl) ?_ ?_
    rotate_left
    · (intro wq; go_simp; try with_reducible rfl)
    simp only [Act.put, List.setIfInBounds_toArray, List.set_cons_zero, List.set_cons_succ]
    refine wpE_take 3 (v := ?_) rfl (by kernel_rfl) (by kernel_rfl) (by kernel_rfl) (fun _ _ _ h => h) trivial (by rfl) ?_ ?_
    rotate_left
    · (intro wq; go_simp; try with_reducible rfl)
    simp only [Act.put, List.setIfInBounds_toArray, List.set_cons_zero, List.set_cons_succ]
    refine wpE_take 4 (v := ?_) rfl (by kernel_rfl) (by kernel_rfl) (by kernel_rfl) (fun _ _ _ h => h) trivial (by rfl) ?_ ?_
    rotate_left
    · (intro wq; go_simp; try with_reducible rfl)
    simp only [Act.put, List.setIfInBounds_toArray, List.set_cons_zero, List.set_cons_succ]
    refine wpE_take 5 (v := .slice xa k xc) rfl (by kernel_rfl) (by kernel_rfl) (by kernel_rfl) (fun _ _ _ h => h) trivial (by rfl) (by intro wq; exact yields_cut_h TBytes rfl rfl rfl k rfl (by omega)) ?_
    simp only [Act.put, List.setIfInBounds_toArray, List.set_cons_zero, List.set_cons_succ]
    refine wpE_exec 0 rfl (by kernel_rfl) (by rfl) ?_
    intro K hK
    go_simp
    have hS0 := trivial
    refine hK _ _ (fun x => True) (.inr (fun x h => trivial)) hS0 ?_
    clear hK K
    refine wpE_exec 2 rfl (by kernel_rfl) (by rfl) ?_
    intro K hK
    refine op_append TBytes rfl rfl (emptied w3.drew 5) rfl ((hbd3.drew).alloc _) (by simp) (bs_one _) (by unfold maxLen; omega) (by omega) (by simp) ?_
    intro a4 c4 w4 happ
    obtain ⟨hown4, hx4⟩ := copied (w := w3.drew) (te := 5) happ
    clear happ
    rw [Nat.zero_add]
    have hS2 := trivial
    refine hK _ _ (fun x => True) (.inr (fun x h => trivial)) hS2 ?_
    clear hK K
    simp only [Act.put, List.setIfInBounds_toArray, List.set_cons_zero, List.set_cons_succ]
    refine wpE_exec 6 rfl (by kernel_rfl) (by rfl) ?_
    intro K hK
    refine op_append TBytes rfl rfl hown4 rfl ((by rw [← bs_take]; exact (hxd.drew.ext hx4 (fun _ _ h => h)).take k : Rd w4 xa (bs (F.take k)))) (by rw [bs_length, ← HkF.out]; simp) (bs_one _) (by unfold maxLen; omega) (by omega) (hx4.size) ?_
    intro a5 c5 w5 happ
    obtain ⟨hown5, hx5⟩ := appended (w := w3.drew) hown4 hx4 happ
    clear happ
    have hS6 := trivial
    refine hK _ _ (fun x => True) (.inr (fun x h => trivial)) hS6 ?_
    clear hK K
    simp only [Act.put, List.setIfInBounds_toArray, List.set_cons_zero, List.set_cons_succ]
    refine wpE_exec 7 rfl (by kernel_rfl) (by rfl) ?_
    intro K hK
    go_simp
    refine (fscan_at'' w5 a5 (M.length + k) c5 (M ++ F.take k) (by rw [List.length_append, ← HkF.out]) hown5.rd (by rw [List.length_append, ← HkF.out]; omega) (by rw [List.length_append, ← HkF.out]; exact hown5.nc) hown5.cm).mono ?_
    rintro e w6 ⟨ya, yc, rfl, hL6, hx6⟩
    rw [Hsc1.out k hkl] at hL6 ⊢
    have hS7 := trivial
    refine hK _ _ (fun x => True) (.inr (fun x h => trivial)) hS7 ?_
    clear hK K
    refine wpE_take 8 (v := ?_) rfl (by kernel_rfl) (by kernel_rfl) (by kernel_rfl) (fun _ _ _ h => h) hS7 (by rfl) ?_ ?_
    rotate_left
    · (intro wq; go_simp; try with_reducible rfl)
    simp only [Act.put, List.setIfInBounds_toArray, List.set_cons_zero, List.set_cons_succ]
    refine wpE_take 9 (v := ?_) rfl (by kernel_rfl) (by kernel_rfl) (by kernel_rfl) (fun _ _ _ h => h) hS7 (by rfl) ?_ ?_
    rotate_left
    · (intro wq; go_simp; try with_reducible rfl)
    simp only [Act.put, List.setIfInBounds_toArray, List.set_cons_zero, List.set_cons_succ]
    refine wpE_take 10 (v := ?_) rfl (by kernel_rfl) (by kernel_rfl) (by kernel_rfl) (fun _ _ _ h => h) hS7 (by rfl) ?_ ?_
    rotate_left
    · (intro wq; go_simp; try with_reducible rfl)
    simp only [Act.put, List.setIfInBounds_toArray, List.set_cons_zero, List.set_cons_succ]
    refine wpE_take 11 (v := ?_) rfl (by kernel_rfl) (by kernel_rfl) (by kernel_rfl) (fun _ _ _ h => h) hS7 (by rfl) ?_ ?_
    rotate_left
    · (intro wq; go_simp; try with_reducible rfl)
    simp only [Act.put, List.setIfInBounds_toArray, List.set_cons_zero, List.set_cons_succ]
    refine wpE_take 12 (v := ?_) rfl (by kernel_rfl) (by kernel_rfl) (by kernel_rfl) (fun _ _ _ h => h) hS7 (by rfl) ?_ ?_
    rotate_left
    · (intro wq; go_simp; try with_reducible rfl)
    simp only [Act.put, List.setIfInBounds_toArray, List.set_cons_zero, List.set_cons_succ]
    refine wpE_done (by kernel_rfl) ?_ _
    go_wp2_with fail
    go_meet
    exact ⟨ya, yc, by simp, rfl, hL6, ((Ext.drew no _).comp hx5).comp hx6⟩
    -->A
  case rest =>
    obtain ⟨ya, yc, rfl, rfl, hL4, hx4⟩ := hcut
    have hbd4 := hbd3.ext hx4 (fun _ _ h => h)
    have hxd4 := hxd.ext hx4 (fun _ _ h => h)
    go_wp2_with (at_builtin; refine wpList_append TBytes rfl rfl rfl (emptied wc 5) rfl (hbd4.alloc _) (by simp) (bs_one _) (by unfold maxLen; omega) (by omega) (by simp) ?_)
    intro a5 c5 w5 happ
    obtain ⟨hown5, hx5⟩ := copied happ
    clear happ
    go_wp2_with (at_builtin; refine wpList_append TBytes rfl rfl rfl hown5 rfl (hxd4.ext hx5 (fun _ _ h => h)) (by simp) (bs_one _) (by unfold maxLen; omega) (by omega) hx5.size ?_)
    intro a6 c6 w6 happ
    obtain ⟨hown6, hx6⟩ := appended hown5 hx5 happ
    clear happ hown5 hx5
    go_wp2_with fail
    refine (fscan_at'' w6 a6 (M.length + F.length) c6 (M ++ F) (by simp) hown6.rd (by simp; omega) (by simp; exact hown6.nc) hown6.cm).mono ?_
    rintro e w7 ⟨za, zc, rfl, hL7, hx7⟩
    rw [Hsc2.out] at hL7 ⊢
    have hx37 := (hx4.comp hx6).comp hx7
    have hx07 := hx03.comp hx37
    have hL47 := hL4.ext (hx6.comp hx7)
    obtain ⟨qs, hqs, hqd, hqr⟩ := hL7
    have hql : qs.length = ps.length + 1 := by have := congrArg List.length hqs; simpa using this
    have hlt : ps.length < qs.length := by omega
    have hqm : qs[ps.length].l = more := by
      have h1 : (qs.map Part.l)[ps.length]? = some more := by rw [hqs]; simp
      rw [List.getElem?_map, List.getElem?_eq_getElem hlt] at h1
      simpa using h1
    obtain ⟨zd, rfl, _⟩ := hqd.ne (by simp; omega)
    have hcell := hqd.cell ps.length (by simpa using hlt)
    rw [List.getElem_map, Part.v, hqm] at hcell
    have hqrd := hqr qs[ps.length] (by simp)
    rw [hqm] at hqrd
    have hld7 := hld.ext hx07 (fun _ _ h => h)
    have hLl : Lists w7 la (ps.map Part.l) := ⟨ps, rfl, hld7, fun p hp => ((Hlg.out p hp).1).ext hx07 (fun _ _ h => h)⟩
    have hmd7 := hmd.ext hx07 (fun _ _ h => h)
    clear hx4 hx6 hx7 hown6 hL4 hbd4 hxd4 hqs hql hqm hqr hqd
    generalize qs[ps.length] = q at *
    have cx : ∀ m, (convert 23 9 (.slice q.a more.length q.c)).run Try.prog (w7.drewN m) = .ok (.string (str more)) (w7.drewN m) := fun m => convStr _ _ _ _ _ rfl (hqrd.drewN m)
    have cm : ∀ m, (convert 23 9 (.slice ma more.length mc)).run Try.prog (w7.drewN m) = .ok (.string (str more)) (w7.drewN m) := fun m => convStr _ _ _ _ _ rfl (hmd7.drewN m)
    have hps : (0 : Int) ≤ ps.length ∧ (ps.length : Int) < ps.length + 1 := by omega
    have hrows : ∀ n, Calls Try.prog 21 #[.slice ya ps.length yc, .slice la ps.length lc] (w7.drewN n) fun e w' => e = .returned (.bool true) ∧ ∃ m, w' = w7.drewN m := fun n =>
      Calls.quiet_of ((rows_q (w7.drewN n) ya la yc lc ps.length ps.length (ps.map Part.l) (ps.map Part.l) (by simp) (by simp) (hL47.ext (Ext.drewN no _ _)) (hLl.ext (Ext.drewN no _ _)) (by rw [List.length_map]; omega) (by rw [List.length_map]; omega)).mono fun e w' h => ⟨by rw [h.1, decide_eq_true rfl], h.2⟩)
    go_upto_region 10 with fail
    go_quiet ((go_at_call 21; exact hrows _))
    go_wp2_with fail
    go_ret
    exact ⟨rfl, hx07.comp (Ext.drewN no _ _)⟩
end Go.Proofs.Ytfihjjbonahahaa
