/- The walk of the law FramesScan. -/
import Derived.Test.YtfihjjbonahahaaFrO
import Derived.Test.YtfihjjbonahahaaRegionB
import Derived.Deep.CutBlock
namespace Go.Proofs.Ytfihjjbonahahaa
open Go.RowKit Go.Esc
set_option linter.unusedVariables false

theorem _root_.Go.Esc.bs_set (l : List UInt8) (i : Nat) (b : UInt8) : (bs l).set i (B8 b) = bs (l.set i b) := by unfold bs; rw [List.map_set]

theorem tdiv2_ok (n : Int) (h : I64ok n) : I64ok (n.tdiv 2) := by
  unfold I64ok at *
  have h1 := @Int.tdiv_eq_ediv n 2
  have h2 : Int.sign 2 = 1 := rfl
  rw [h2] at h1
  split at h1 <;> omega

set_option maxRecDepth 100000 in
set_option maxHeartbeats 4000000 in
theorem scan_walk (w : World) (la : Option Addr) (ps : List Part) (lc : Nat) (ra : Option Addr) (raw : List UInt8) (rc : Nat) (ta : Option Addr) (at' : List Int) (tc : Nat) (ya : Option Addr) (ys : List UInt8) (yc : Nat) (cut : Int)
    (hld : Rd w la (ps.map Part.v)) (hlg : ∀ p ∈ ps, p.good w) (hll : ps.length ≤ lc) (hlc : lc ≤ maxLen) (hrd : Rd w ra (bs raw)) (hrl : raw.length ≤ rc) (hrc : rc ≤ maxLen)
    (htd : Rd w ta (is at')) (htok : ∀ n ∈ at', I64ok n) (htl : at'.length ≤ tc) (htc : tc ≤ maxLen) (hyd : Rd w ya (bs ys)) (hyl : ys.length ≤ yc) (hyc : yc ≤ maxLen) (hcut : I64ok cut) :
    Calls Try.prog 3 #[.slice la ps.length lc, .slice ra raw.length rc, .slice ta at'.length tc, .slice ya ys.length yc, .int .i64 cut] w fun e w' => e = .returned (.bool true) ∧ Ext no w w' := by
  have Hlg := Lib.hid hlg
  have Htok := Lib.hid htok
  have Hcut := Lib.hid hcut
  have Hc2 := Lib.hid (tdiv2_ok cut hcut)
  clear hlg htok hcut
  have hlc' := hlc
  have hrcm := hrc
  unfold maxLen at hlc' hrc htc hyc
  go_enter Try.func3, Try.ntmps3
  go_wp2_with fail
  refine (known_any w).mono ?_
  rintro e w1 ⟨rfl, hx1⟩
  go_wp2_with fail
  refine (few_any w1 la lc ps (hld.ext hx1 (fun _ _ h => h)) hll hlc).mono ?_
  rintro e w2 ⟨rfl, rfl⟩
  by_cases hf : fewB (ps.map Part.l) = true
  rotate_left
  · have hf' : fewB (ps.map Part.l) = false := by simpa using hf
    rw [hf']
    clear hf hf'
    go_wp2_with fail
    go_ret
    exact ⟨rfl, hx1⟩
  rw [hf]
  obtain ⟨hf1, hf2⟩ := fewB_of hf
  have Hf1 := Lib.hid (show ∀ p ∈ ps, p.l.length ≤ 300 from fun p hp => hf1 _ (List.mem_map.2 ⟨p, hp, rfl⟩))
  have h10 : ps.length ≤ 10 := by simpa using hf2
  clear hf hf1 hf2
  by_cases h500 : 500 < raw.length
  · have hd : decide ((500 : Int) < raw.length) = true := by rw [decide_eq_true_eq]; omega
    go_wp2_with fail
    go_ret
    exact ⟨rfl, hx1⟩
  have hd : decide ((500 : Int) < raw.length) = false := by rw [decide_eq_false_iff_not]; omega
  go_wp2_with fail
  refine (log_any w1 la lc ps (hld.ext hx1 (fun _ _ h => h)) (fun p hp => ((Hlg.out p hp).1).ext hx1 (fun _ _ h => h)) h10 Hf1.out).mono ?_
  rintro e w2 ⟨a2, c2, rfl, hown2, hx2⟩
  have hMl : ((ps.map Part.l).flatMap frame).length ≤ 3080 := by
    have : ∀ L : List (List UInt8), (∀ l ∈ L, l.length ≤ 300) → (L.flatMap frame).length ≤ L.length * 308 := by
      intro L
      induction L with
      | nil => simp
      | cons l L ih =>
        intro h
        have h1 := h l (by simp)
        have h2 := ih (fun x hx => h x (by simp [hx]))
        rw [List.flatMap_cons, List.length_append, frame_length, List.length_cons, Nat.succ_mul]
        omega
    have h2 := this (ps.map Part.l) (by simpa using Hf1.out)
    rw [List.length_map] at h2
    omega
  have hx02 := hx1.comp hx2
  have hown := hown2.mono hx1.size
  have hnew : ∀ ad, a2 = some ad → w1.heap.size ≤ ad.block := fun ad h => (hown2.base ad h).1
  clear hown2 hx2
  generalize (ps.map Part.l).flatMap frame = M0 at *
  go_upto_block 0 with fail
  go_cut [12] (fun s12 wx => ∃ M : List UInt8, M.length = M0.length ∧ Own wx w.heap.size a2 1 M0.length c2 (bs M) ∧ Ext no w wx)
  case first =>
    go_wp2_with fail
    go_loopw [12] (fun s12 wr => ∃ (k : Nat) (M : List UInt8), k ≤ at'.length ∧ s12 = .int .i64 k ∧ M.length = M0.length ∧ Own wr w.heap.size a2 1 M0.length c2 (bs M) ∧ Ext no w wr) (fun s12 _ => at'.length - (intOf s12).toNat)
    case atStart => exact ⟨0, M0, Nat.zero_le _, rfl, rfl, hown, hx02⟩
    case round =>
      clear hown hx02
      obtain ⟨k, M, hk, rfl, hM, hown, hx⟩ := hrel
      have HM := Lib.hid hM
      clear hM
      by_cases hall : k < at'.length ∧ k < ys.length ∧ k < 3 ∧ 0 < M0.length
      · obtain ⟨hk1, hk2, hk3, hk4⟩ := hall
        have d1 : decide ((k : Int) < at'.length) = true := by rw [decide_eq_true_eq]; omega
        have d2 : decide ((k : Int) < ys.length) = true := by rw [decide_eq_true_eq]; omega
        have d3 : decide ((k : Int) < 3) = true := by rw [decide_eq_true_eq]; omega
        have d4 : decide (0 < M0.length) = true := by rw [decide_eq_true_eq]; omega
        obtain ⟨tad, rfl, _⟩ := htd.ne (by simp; omega)
        obtain ⟨yad, rfl, _⟩ := hyd.ne (by simp; omega)
        obtain ⟨bad, rfl, hblt⟩ := hown.rd.ne (by rw [bs_length, HM.out]; exact hk4)
        have htc1 := hx.keeps (htd.cell k (by simpa using hk1)) (fun h => h)
        have hyc1 := hx.keeps (hyd.cell k (by simpa using hk2)) (fun h => h)
        rw [show (is at')[k]'(by simpa using hk1) = .int .i64 at'[k] from by simp [is, I64]] at htc1
        rw [show (bs ys)[k]'(by simpa using hk2) = .int .u8 ys[k].toNat from by simp [bs, B8]] at hyc1
        obtain ⟨i, hi⟩ : ∃ i : Nat, at'[k] % (M0.length : Int) = i := ⟨(at'[k] % (M0.length : Int)).toNat, by have := Int.emod_nonneg at'[k] (show (M0.length : Int) ≠ 0 by omega); omega⟩
        have hil : i < M0.length := by have := Int.emod_lt_of_pos at'[k] (show (0 : Int) < M0.length by omega); omega
        have hiM : i < M.length := by rw [HM.out]; exact hil
        have hbc := hown.rd.cell i (by simpa using hiM)
        rw [show (bs M)[i]'(by simpa using hiM) = .int .u8 M[i].toNat from by simp [bs, B8]] at hbc
        have hbf : wr.frozen? (bad.add i) = false := by
          obtain ⟨_, e, _, f⟩ := hown.can i (by have := hown.nc; omega)
          cases e; exact f
        have hb1 := M[i].toNat_lt
        have hb2 := ys[k].toNat_lt
        have hok := Htok.out at'[k] (by simp)
        have Hi := Lib.hid hi
        have Hok := Lib.hid hok
        clear hi hok
        generalize at'[k] = q at *
        generalize ys[k] = y at *
        generalize M[i] = x at *
        obtain ⟨z, hz⟩ : ∃ z : UInt8, ((x.toNat : Int) + y.toNat) % 256 = z.toNat := ⟨x + y, by rw [UInt8.toNat_add]; simp⟩
        have Hz := Lib.hid hz
        clear hz
        go_upto_region 9 with fail
        --<A
        refine wp_region_E [4, 9, 13] (fun x => x = wr.drew) (by kernel_rfl) ?_
        refine wpE_take 0 (v := ?_) rfl (by kernel_rfl) (by kernel_rfl) (by kernel_rfl) (fun _ _ _ h => h) (rfl : wr.drew = wr.drew) (by rfl) ?_ ?_
        rotate_left
        · (intro wq; go_simp; try with_reducible rfl)
        simp only [Act.put, List.setIfInBounds_toArray, List.set_cons_zero, List.set_cons_succ]
        refine wpE_take 1 (v := ?_) rfl (by kernel_rfl) (by kernel_rfl) (by kernel_rfl) (fun _ _ _ h => h) (rfl : wr.drew = wr.drew) (by rfl) ?_ ?_
        rotate_left
        · (intro wq; go_simp; try with_reducible rfl)
        simp only [Act.put, List.setIfInBounds_toArray, List.set_cons_zero, List.set_cons_succ]
        refine wpE_take 2 (v := ?_) rfl (by kernel_rfl) (by kernel_rfl) (by kernel_rfl) (fun _ _ _ h => h) (rfl : wr.drew = wr.drew) (by rfl) ?_ ?_
        rotate_left
        · (intro wq; go_simp; try with_reducible rfl)
        simp only [Act.put, List.setIfInBounds_toArray, List.set_cons_zero, List.set_cons_succ]
        refine wpE_take 3 (v := ?_) rfl (by kernel_rfl) (by kernel_rfl) (by kernel_rfl) (fun _ _ _ h => h) (rfl : wr.drew = wr.drew) (by rfl) ?_ ?_
        rotate_left
        · (intro wq; go_simp; try with_reducible rfl)
        simp only [Act.put, List.setIfInBounds_toArray, List.set_cons_zero, List.set_cons_succ]
        refine wpE_look 4 (v := .int .i64 q) rfl rfl (by kernel_rfl) (by kernel_rfl) (by kernel_rfl) (by kernel_rfl) (fun _ _ _ h => h) (rfl : wr.drew = wr.drew) (by rfl) (fun w hS => by subst hS; go_simp) ?_
        simp only [Act.put, List.setIfInBounds_toArray, List.set_cons_zero, List.set_cons_succ]
        refine wpE_take 5 (v := ?_) rfl (by kernel_rfl) (by kernel_rfl) (by kernel_rfl) (fun _ _ _ h => h) (rfl : wr.drew = wr.drew) (by rfl) ?_ ?_
        rotate_left
        · (intro wq; go_simp; try with_reducible rfl)
        simp only [Act.put, List.setIfInBounds_toArray, List.set_cons_zero, List.set_cons_succ]
        refine wpE_take 6 (v := ?_) rfl (by kernel_rfl) (by kernel_rfl) (by kernel_rfl) (fun _ _ _ h => h) (rfl : wr.drew = wr.drew) (by rfl) ?_ ?_
        rotate_left
        · (intro wq; go_simp; try with_reducible rfl)
        simp only [Act.put, List.setIfInBounds_toArray, List.set_cons_zero, List.set_cons_succ]
        refine wpE_take 10 (v := ?_) rfl (by kernel_rfl) (by kernel_rfl) (by kernel_rfl) (fun _ _ _ h => h) (rfl : wr.drew = wr.drew) (by rfl) ?_ ?_
        rotate_left
        · (intro wq; go_simp; try with_reducible rfl)
        simp only [Act.put, List.setIfInBounds_toArray, List.set_cons_zero, List.set_cons_succ]
        refine wpE_take 11 (v := ?_) rfl (by kernel_rfl) (by kernel_rfl) (by kernel_rfl) (fun _ _ _ h => h) (rfl : wr.drew = wr.drew) (by rfl) ?_ ?_
        rotate_left
        · (intro wq; go_simp; try with_reducible rfl)
        simp only [Act.put, List.setIfInBounds_toArray, List.set_cons_zero, List.set_cons_succ]
        refine wpE_take 12 (v := ?_) rfl (by kernel_rfl) (by kernel_rfl) (by kernel_rfl) (fun _ _ _ h => h) (rfl : wr.drew = wr.drew) (by rfl) ?_ ?_
        rotate_left
        · (intro wq; go_simp; try with_reducible rfl)
        simp only [Act.put, List.setIfInBounds_toArray, List.set_cons_zero, List.set_cons_succ]
        refine wpE_look 13 (v := .int .u8 y.toNat) rfl rfl (by kernel_rfl) (by kernel_rfl) (by kernel_rfl) (by kernel_rfl) (fun _ _ _ h => h) (rfl : wr.drew = wr.drew) (by rfl) (fun w hS => by subst hS; go_simp) ?_
        simp only [Act.put, List.setIfInBounds_toArray, List.set_cons_zero, List.set_cons_succ]
        refine wpE_exec 7 rfl (by kernel_rfl) (by rfl) ?_
        intro K hK
        go_simp
        refine (within_any q (M0.length : Int) wr.drew (by omega) (by omega) Hok.out).mono ?_
        rintro e w7 ⟨rfl, rfl⟩
        rw [Hi.out]
        have hS1 := (rfl : wr.drew = wr.drew)
        refine hK _ _ (fun x => x = wr.drew) (.inr (fun x h => h)) hS1 ?_
        clear hK K
        refine wpE_take 8 (v := ?_) rfl (by kernel_rfl) (by kernel_rfl) (by kernel_rfl) (fun _ _ _ h => h) hS1 (by rfl) ?_ ?_
        rotate_left
        · (intro wq; go_simp; try with_reducible rfl)
        simp only [Act.put, List.setIfInBounds_toArray, List.set_cons_zero, List.set_cons_succ]
        refine wpE_look 9 (v := .int .u8 x.toNat) rfl rfl (by kernel_rfl) (by kernel_rfl) (by kernel_rfl) (by kernel_rfl) (fun _ _ _ h => h) hS1 (by rfl) (fun w hS => by subst hS; go_simp) ?_
        simp only [Act.put, List.setIfInBounds_toArray, List.set_cons_zero, List.set_cons_succ]
        refine wpE_take 14 (v := .int .u8 z.toNat) rfl (by kernel_rfl) (by kernel_rfl) (by kernel_rfl) (fun _ _ _ h => h) hS1 (by rfl) (by intro wq; go_simp; rw [← Hz.out]; exact IntKind.wrap_u8' _) ?_
        simp only [Act.put, List.setIfInBounds_toArray, List.set_cons_zero, List.set_cons_succ]
        refine wpE_take 15 (v := ?_) rfl (by kernel_rfl) (by kernel_rfl) (by kernel_rfl) (fun _ _ _ h => h) hS1 (by rfl) ?_ ?_
        rotate_left
        · (intro wq; go_simp; try with_reducible rfl)
        simp only [Act.put, List.setIfInBounds_toArray, List.set_cons_zero, List.set_cons_succ]
        refine wpE_exec 16 rfl (by kernel_rfl) (by rfl) ?_
        intro K hK
        go_simp
        have hS2 := trivial
        refine hK _ _ (fun x => True) (.inl (by kernel_rfl)) hS2 ?_
        clear hK K
        refine wpE_done (by kernel_rfl) ?_ _
        go_wp2_with fail
        go_roundw
        case rel => exact ⟨k + 1, M.set i z, by omega, by go_num, by rw [List.length_set]; exact HM.out, by have := (hown.set i (by omega) (B8 z)).drew; rw [bs_set] at this; exact this, (hx.trans (Ext.setCell (S := just bad.block) _ _ _ (add_block _ _)) (fun j hj h => by have := (hown.base bad rfl).1; simp only [Esc.just] at h; omega)).comp (Ext.drew no _)⟩
        case measure => simp [intOf]; omega
        -->A
      · have hcs : at'.length ≤ k ∨ (k < at'.length ∧ ys.length ≤ k) ∨ (k < at'.length ∧ k < ys.length ∧ 3 ≤ k) ∨ (k < at'.length ∧ k < ys.length ∧ k < 3 ∧ M0.length = 0) := by omega
        clear hall
        rcases hcs with h | ⟨h1, h2⟩ | ⟨h1, h2, h3⟩ | ⟨h1, h2, h3, h4⟩
        · have d1 : decide ((k : Int) < at'.length) = false := by rw [decide_eq_false_iff_not]; omega
          go_wp2_with fail
          go_meet
          exact ⟨M, HM.out, hown, hx⟩
        · have d1 : decide ((k : Int) < at'.length) = true := by rw [decide_eq_true_eq]; omega
          have d2 : decide ((k : Int) < ys.length) = false := by rw [decide_eq_false_iff_not]; omega
          go_wp2_with fail
          go_meet
          exact ⟨M, HM.out, hown, hx⟩
        · have d1 : decide ((k : Int) < at'.length) = true := by rw [decide_eq_true_eq]; omega
          have d2 : decide ((k : Int) < ys.length) = true := by rw [decide_eq_true_eq]; omega
          have d3 : decide ((k : Int) < 3) = false := by rw [decide_eq_false_iff_not]; omega
          go_wp2_with fail
          go_meet
          exact ⟨M, HM.out, hown, hx⟩
        · have d1 : decide ((k : Int) < at'.length) = true := by rw [decide_eq_true_eq]; omega
          have d2 : decide ((k : Int) < ys.length) = true := by rw [decide_eq_true_eq]; omega
          have d3 : decide ((k : Int) < 3) = true := by rw [decide_eq_true_eq]; omega
          have d4 : decide (0 < M0.length) = false := by rw [decide_eq_false_iff_not]; omega
          clear h4
          go_wp2_with fail
          go_meet
          exact ⟨M, HM.out, hown, hx⟩
  case rest =>
    clear hown hx02 hx1
    obtain ⟨M, hM, hown, hx⟩ := hcut
    have hM3 : M.length ≤ 3080 := by omega
    have HM := Lib.hid hM
    clear hM
    go_upto_if 70 with fail
    go_cut [11] (fun s11 wx => ∃ M' : List UInt8, s11 = .slice a2 M'.length c2 ∧ M'.length ≤ 3080 ∧ M'.length ≤ c2 ∧ Rd wx a2 (bs M') ∧ Ext no w wx)
    case first =>
      by_cases hc : cut.tmod 2 = 1
      · have hc1 : (cut.tmod 2 == 1) = true := by rw [beq_iff_eq]; exact hc
        clear hc
        have hw2 : wrap64 (cut.tdiv 2) = cut.tdiv 2 := by have := Hc2.out; unfold wrap64; unfold I64ok at this; omega
        go_wp2_with fail
        refine (within_any (cut.tdiv 2) (M0.length + 1) wc (by omega) (by omega) Hc2.out).mono ?_
        rintro e w3 ⟨rfl, rfl⟩
        obtain ⟨j, hj⟩ : ∃ j : Nat, cut.tdiv 2 % ((M0.length : Int) + 1) = j := ⟨(cut.tdiv 2 % ((M0.length : Int) + 1)).toNat, by have := Int.emod_nonneg (cut.tdiv 2) (show (M0.length : Int) + 1 ≠ 0 by omega); omega⟩
        have hjl : j ≤ M0.length := by have := Int.emod_lt_of_pos (cut.tdiv 2) (show (0 : Int) < (M0.length : Int) + 1 by omega); omega
        rw [hj]
        have hnc := hown.nc
        have cutj : ∀ w, (Instr.sliceAt 23 (.slice a2 M0.length c2) none (some (.int .i64 (j : Int))) none).run Try.prog w = .ok (.slice a2 j c2) w := fun w => run_cut_h TBytes w a2 M0.length c2 .i64 j (by omega)
        clear hj
        have hjM : (M.take j).length = j := by rw [List.length_take, HM.out]; omega
        have HjM := Lib.hid hjM
        clear hjM
        go_wp2_with fail
        go_meet
        exact ⟨M.take j, by rw [HjM.out], by rw [HjM.out]; omega, by rw [HjM.out]; omega, by rw [← bs_take]; exact hown.rd.take j, hx⟩
      · have hc1 : (cut.tmod 2 == 1) = false := by rw [beq_eq_false_iff_ne]; exact hc
        clear hc
        go_wp2_with fail
        go_meet
        exact ⟨M, by rw [HM.out], hM3, by have := hown.nc; have := HM.out; omega, hown.rd, hx⟩
    case rest =>
      obtain ⟨M', rfl, hM3', hMc, hMd, hx3⟩ := hcut
      have hc2m := hown.cm
      clear hown hx
      have hraw := hrd.ext hx3 (fun _ _ h => h)
      go_wp2_with (at_builtin; refine wpList_append TBytes rfl rfl rfl (emptied wc 5) rfl (hMd.alloc _) (by simp) (bs_one _) (by unfold maxLen; omega) (by omega) (by simp) ?_)
      intro a4 c4 w4 happ
      obtain ⟨hown4, hx4⟩ := copied happ
      clear happ
      go_wp2_with (at_builtin; refine wpList_append TBytes rfl rfl rfl hown4 rfl (hraw.ext hx4 (fun _ _ h => h)) (by simp) (bs_one _) (by unfold maxLen; omega) (by omega) hx4.size ?_)
      intro a5 c5 w5 happ
      obtain ⟨hown5, hx5⟩ := appended hown4 hx4 happ
      clear happ hown4 hx4
      rw [← List.length_append] at hown5 ⊢
      have hXl : (M' ++ raw).length ≤ 3580 := by rw [List.length_append]; omega
      generalize M' ++ raw = X at *
      have hq : ∀ q ∈ [(⟨a2, M', c2⟩ : Part), ⟨a5, X, c5⟩, ⟨ra, raw, rc⟩], Rd (w5.alloc (.cells #[.slice a2 M'.length c2, .slice a5 X.length c5, .slice ra raw.length rc] 23)) q.a (bs q.l) ∧ q.l.length ≤ 3580 ∧ q.l.length ≤ q.c ∧ q.c ≤ maxLen := by
        intro q hq
        simp only [List.mem_cons, List.not_mem_nil, or_false] at hq
        rcases hq with rfl | rfl | rfl
        · exact ⟨(hMd.ext hx5 (fun _ _ h => h)).alloc _, by simp only; omega, hMc, hc2m⟩
        · exact ⟨hown5.rd.alloc _, hXl, hown5.nc, hown5.cm⟩
        · exact ⟨(hraw.ext hx5 (fun _ _ h => h)).alloc _, by simp only; omega, hrl, hrcm⟩
      have hqd : Rd (w5.alloc (.cells #[.slice a2 M'.length c2, .slice a5 X.length c5, .slice ra raw.length rc] 23)) (some ⟨w5.heap.size, 0, none⟩) ([(⟨a2, M', c2⟩ : Part), ⟨a5, X, c5⟩, ⟨ra, raw, rc⟩].map Part.v) := Rd.lit w5 _ _ _
      have hxS : Ext no w (w5.alloc (.cells #[.slice a2 M'.length c2, .slice a5 X.length c5, .slice ra raw.length rc] 23)) := (hx3.comp hx5).comp (Ext.alloc no _ _)
      have hql : [(⟨a2, M', c2⟩ : Part), ⟨a5, X, c5⟩, ⟨ra, raw, rc⟩].length = 3 := rfl
      have Hq := Lib.hid hq
      have Hql := Lib.hid hql
      clear hq hql hown5 hx3 hx5 hMd hraw
      generalize [(⟨a2, M', c2⟩ : Part), ⟨a5, X, c5⟩, ⟨ra, raw, rc⟩] = qs at *
      go_wp2_with fail
      generalize w5.alloc (.cells #[.slice a2 M'.length c2, .slice a5 X.length c5, .slice ra raw.length rc] 23) = wS at *
      generalize (⟨w5.heap.size, 0, none⟩ : Addr) = sad at *
      go_loopw [14] (fun s14 wr => ∃ j : Nat, j ≤ 3 ∧ s14 = .int .i64 j ∧ Ext no wS wr) (fun s14 _ => 3 - (intOf s14).toNat)
      case atStart => exact ⟨0, by omega, rfl, Ext.refl _ _⟩
      case round =>
        obtain ⟨j, hj, rfl, hxr⟩ := hrel
        by_cases hlt : j < 3
        · have hjq : j < qs.length := by rw [Hql.out]; exact hlt
          have hcell := hxr.keeps (hqd.cell j (by simpa using hjq)) (fun h => h)
          rw [List.getElem_map, Part.v] at hcell
          obtain ⟨q1, q2, q3, q4⟩ := Hq.out qs[j] (by simp)
          have hq1 := q1.ext hxr (fun _ _ h => h)
          clear q1
          generalize qs[j] = q at *
          have hsl := scan_le q.l.length q.l (Nat.le_refl _)
          obtain ⟨hs1, hs2⟩ := hsl
          go_wp2_with fail
          refine (fscan_any wr q.a q.c q.l hq1 (by omega) q3 q4).mono ?_
          rintro e w6 ⟨b6, d6, rfl, hL6, hx6⟩
          have hcell6 := hx6.keeps hcell (fun h => h)
          go_wp2_with fail
          refine (rscan_any w6 q.a q.c q.l (hq1.ext hx6 (fun _ _ h => h)) (by omega) q3 q4).mono ?_
          rintro e w7 ⟨b7, d7, rfl, hL7, hx7⟩
          go_wp2_with fail
          refine (rows_any w7 b6 b7 d6 d7 _ _ _ _ rfl rfl (hL6.ext hx7) hL7 (by omega) (by omega)).mono ?_
          rintro e w8 ⟨rfl, hx8⟩
          rw [decide_eq_true rfl]
          have hxe := ((hxr.comp hx6).comp hx7).comp hx8
          clear hxr hx6 hx7 hx8 hcell hcell6 hL6 hL7
          go_wp2_with fail
          go_roundw
          case rel => exact ⟨j + 1, by omega, by go_num, hxe⟩
          case measure => simp [intOf]; omega
        · go_wp2_with fail
          go_ret
          exact ⟨rfl, hxS.comp hxr⟩
end Go.Proofs.Ytfihjjbonahahaa
