/- The walk of the reference's disk: Crash. -/
import Derived.Test.YtbmkmbankflbpaaRkA
import Derived.Test.YtbmkmbankflbpaaRegionB
namespace Go.Proofs.Ytbmkmbankflbpaa
open Go.RowKit Go.Esc
set_option linter.unusedVariables false

set_option maxHeartbeats 2000000 in
theorem refcrash_any (w : World) (g : Nat) (s : DS) (N : Nat → Prop) (h : Rk w g s N) (hok : s.ok) (pick : Int) (hp : I64ok pick) :
    Calls Try.prog 29 #[.pointer (some ⟨g, 0, none⟩), .int .i64 pick] w fun e w' => e = .returned (.int .i64 (s.keeps pick)) ∧ Rk w' g (s.crash pick) N ∧ Ext (just g) w w' := by
  obtain ⟨hp1, hp2⟩ := hp
  obtain ⟨ev, la, lc, sa, sc, h0, hB, hl, hs⟩ := h
  clear h0
  obtain ⟨k1, k2, k3, k4, k5, k6⟩ := hok
  have hg := hB.lt (by simp [rcells])
  have c1 := hB.cell 1 _ rfl
  have c2 := hB.cell 2 _ rfl
  obtain ⟨M, hM⟩ : ∃ M, M = s.log.length - s.synced + 1 := ⟨_, rfl⟩
  obtain ⟨k, hk⟩ : ∃ k, k = s.keeps pick := ⟨_, rfl⟩
  have hkl := s.keeps_le pick
  rw [← hk] at hkl
  have hMi : (s.log.length : Int) - s.synced + 1 = (M : Int) := by omega
  have u1 : IntKind.i64.wrap ((s.log.length : Int) - s.synced) = (s.log.length : Int) - s.synced := by rw [IntKind.wrap_i64]; omega
  have u2 : IntKind.i64.wrap ((s.log.length : Int) - s.synced + 1) = (M : Int) := by rw [IntKind.wrap_i64]; omega
  have hM1 : 1 ≤ M := by omega
  have hM2 : M ≤ 16777217 := by omega
  have hb := Int.tmod_lt_of_pos pick (show (0 : Int) < M by omega)
  have he := tmod_pos pick M (by omega)
  have e1 := Int.emod_nonneg pick (show (M : Int) ≠ 0 by omega)
  have e2 := Int.emod_lt_of_pos pick (show (0 : Int) < M by omega)
  have hb' : -(M : Int) ≤ pick.tmod M := by split at he <;> omega
  have h1 : (k : Int) = pick % (M : Int) := by
    rw [hk]; unfold DS.keeps
    rw [← hM]
    omega
  have hcase : (pick.tmod M < 0 ∧ pick.tmod M + M = (k : Int)) ∨ (¬ pick.tmod M < 0 ∧ pick.tmod M = (k : Int)) := by
    split at he <;> omega
  have Hk := Lib.hid hk
  have Hkey := Lib.hid (show s.crash pick = { s with left := 0, odd := 0, dead := false, log := s.log.take (s.synced + k), synced := s.synced + k } by unfold DS.crash; rw [← hk])
  rw [← hk]
  clear he hk hM hMi h1 e1 e2
  have hlc := hl.2.1
  have Hlen := Lib.hid (show s.synced + k = (s.log.take (s.synced + k)).length by rw [List.length_take]; omega)
  rcases hcase with ⟨hneg, hkk⟩ | ⟨hneg, hkk⟩
  all_goals
    have Hkk := Lib.hid hkk
    clear hkk
    first
      | (have d1 : decide (pick.tmod M < 0) = true := decT hneg)
      | (have d1 : decide (pick.tmod M < 0) = false := decF hneg)
    go_enter Try.func29, Try.ntmps29
    go_upto_region 1 with fail
    go_quiet (fail)
    have hB1 := hB.drewN nq
    have hx1 := Ext.drewN (just g) w nq
    have hl1 : Sl (w.drewN nq) g N la lc s.log := hl.ext (Ext.drewN no _ _) (fun _ _ h => h.elim)
    have hs1 : Sl (w.drewN nq) g N sa sc s.snap := hs.ext (Ext.drewN no _ _) (fun _ _ h => h.elim)
    have hsz1 := hx1.size
    clear hB hl hs c1 c2 u1 u2
    generalize w.drewN nq = w1 at *
    go_upto_region 5 with fail
    rw [Hkk.out]
    have hB1d := hB1.drew
    have c1 := hB1d.cell 1 _ rfl
    have c2 := hB1d.cell 2 _ rfl
    have f1 := hB1d.fr 1
    --<A
    refine wp_region_E [4, 8] (fun x => x = w1.drew) (by kernel_rfl) ?_
    refine wpE_take 0 (v := ?_) rfl (by kernel_rfl) (by kernel_rfl) (by kernel_rfl) (fun _ _ _ h => h) (rfl : w1.drew = w1.drew) (by rfl) ?_ ?_
    rotate_left
    · (intro wq; go_simp; try with_reducible rfl)
    simp only [Act.put, List.setIfInBounds_toArray, List.set_cons_zero, List.set_cons_succ]
    refine wpE_take 1 (v := ?_) rfl (by kernel_rfl) (by kernel_rfl) (by kernel_rfl) (fun _ _ _ h => h) (rfl : w1.drew = w1.drew) (by rfl) ?_ ?_
    rotate_left
    · (intro wq; go_simp; try with_reducible rfl)
    simp only [Act.put, List.setIfInBounds_toArray, List.set_cons_zero, List.set_cons_succ]
    refine wpE_take 2 (v := ?_) rfl (by kernel_rfl) (by kernel_rfl) (by kernel_rfl) (fun _ _ _ h => h) (rfl : w1.drew = w1.drew) (by rfl) ?_ ?_
    rotate_left
    · (intro wq; go_simp; try with_reducible rfl)
    simp only [Act.put, List.setIfInBounds_toArray, List.set_cons_zero, List.set_cons_succ]
    refine wpE_take 3 (v := ?_) rfl (by kernel_rfl) (by kernel_rfl) (by kernel_rfl) (fun _ _ _ h => h) (rfl : w1.drew = w1.drew) (by rfl) ?_ ?_
    rotate_left
    · (intro wq; go_simp; try with_reducible rfl)
    simp only [Act.put, List.setIfInBounds_toArray, List.set_cons_zero, List.set_cons_succ]
    refine wpE_look 4 (v := .slice la s.log.length lc) rfl rfl (by kernel_rfl) (by kernel_rfl) (by kernel_rfl) (by kernel_rfl) (fun _ _ _ h => h) (rfl : w1.drew = w1.drew) (by rfl) (fun w hS => by subst hS; go_simp) ?_
    simp only [Act.put, List.setIfInBounds_toArray, List.set_cons_zero, List.set_cons_succ]
    refine wpE_take 5 (v := ?_) rfl (by kernel_rfl) (by kernel_rfl) (by kernel_rfl) (fun _ _ _ h => h) (rfl : w1.drew = w1.drew) (by rfl) ?_ ?_
    rotate_left
    · (intro wq; go_simp; try with_reducible rfl)
    simp only [Act.put, List.setIfInBounds_toArray, List.set_cons_zero, List.set_cons_succ]
    refine wpE_take 6 (v := ?_) rfl (by kernel_rfl) (by kernel_rfl) (by kernel_rfl) (fun _ _ _ h => h) (rfl : w1.drew = w1.drew) (by rfl) ?_ ?_
    rotate_left
    · (intro wq; go_simp; try with_reducible rfl)
    simp only [Act.put, List.setIfInBounds_toArray, List.set_cons_zero, List.set_cons_succ]
    refine wpE_take 7 (v := ?_) rfl (by kernel_rfl) (by kernel_rfl) (by kernel_rfl) (fun _ _ _ h => h) (rfl : w1.drew = w1.drew) (by rfl) ?_ ?_
    rotate_left
    · (intro wq; go_simp; try with_reducible rfl)
    simp only [Act.put, List.setIfInBounds_toArray, List.set_cons_zero, List.set_cons_succ]
    refine wpE_look 8 (v := .int .i64 s.synced) rfl rfl (by kernel_rfl) (by kernel_rfl) (by kernel_rfl) (by kernel_rfl) (fun _ _ _ h => h) (rfl : w1.drew = w1.drew) (by rfl) (fun w hS => by subst hS; go_simp) ?_
    simp only [Act.put, List.setIfInBounds_toArray, List.set_cons_zero, List.set_cons_succ]
    refine wpE_take 9 (v := ?_) rfl (by kernel_rfl) (by kernel_rfl) (by kernel_rfl) (fun _ _ _ h => h) (rfl : w1.drew = w1.drew) (by rfl) ?_ ?_
    rotate_left
    · (intro wq; go_simp; try with_reducible rfl)
    simp only [Act.put, List.setIfInBounds_toArray, List.set_cons_zero, List.set_cons_succ]
    refine wpE_take 10 (v := .int .i64 ((s.synced : Int) + k)) rfl (by kernel_rfl) (by kernel_rfl) (by kernel_rfl) (fun _ _ _ h => h) (rfl : w1.drew = w1.drew) (by rfl) (by intro wq; go_simp; rw [IntKind.wrap_i64]; omega) ?_
    simp only [Act.put, List.setIfInBounds_toArray, List.set_cons_zero, List.set_cons_succ]
    refine wpE_take 11 (v := .slice la (s.synced + k) lc) rfl (by kernel_rfl) (by kernel_rfl) (by kernel_rfl) (fun _ _ _ h => h) (rfl : w1.drew = w1.drew) (by rfl) (by intro wq; exact yields_cut_h TBytes rfl rfl rfl (s.synced + k) (by simp) (by omega)) ?_
    simp only [Act.put, List.setIfInBounds_toArray, List.set_cons_zero, List.set_cons_succ]
    refine wpE_take 12 (v := ?_) rfl (by kernel_rfl) (by kernel_rfl) (by kernel_rfl) (fun _ _ _ h => h) (rfl : w1.drew = w1.drew) (by rfl) ?_ ?_
    rotate_left
    · (intro wq; go_simp; try with_reducible rfl)
    simp only [Act.put, List.setIfInBounds_toArray, List.set_cons_zero, List.set_cons_succ]
    refine wpE_take 13 (v := ?_) rfl (by kernel_rfl) (by kernel_rfl) (by kernel_rfl) (fun _ _ _ h => h) (rfl : w1.drew = w1.drew) (by rfl) ?_ ?_
    rotate_left
    · (intro wq; go_simp; try with_reducible rfl)
    simp only [Act.put, List.setIfInBounds_toArray, List.set_cons_zero, List.set_cons_succ]
    refine wpE_exec 14 rfl (by kernel_rfl) (by rfl) ?_
    intro K hK
    go_simp
    have hS2 := trivial
    refine hK _ _ (fun x => True) (.inl (by kernel_rfl)) hS2 ?_
    clear hK K
    refine wpE_done (by kernel_rfl) ?_ _
    have hB2 := (hB1.set 1 (.slice la (s.synced + k) lc) (by simp [rcells])).drew
    have hx2 := (Ext.at w1 g 1 (.slice la (s.synced + k) lc)).comp (Ext.drew _ _)
    have hl2 := (hl1.take (s.synced + k)).ext hx2 (fun _ _ h => .inl h)
    have hs2 := hs1.ext hx2 (fun _ _ h => .inl h)
    have hx02 := hx1.comp hx2
    clear hB1 hB1d hl1 hs1 c1 c2 hx1 hx2
    generalize (w1.setCell ⟨g, 1, none⟩ (.slice la (s.synced + k) lc)).drew = w2 at *
    have q1 := hB2.cell 1 _ rfl
    have q2 := hB2.cell 2 _ rfl
    have q4 := hB2.cell 4 _ rfl
    have q6 := hB2.cell 6 _ rfl
    have f2 := hB2.fr 2
    have f4 := hB2.fr 4
    have f6 := hB2.fr 6
    have hxs := ((Ext.at w2 g 2 (.int .i64 ((s.synced : Int) + k))).comp (Ext.at _ g 6 (.bool false))).comp (Ext.at _ g 4 (.int .i64 0))
    have hBe := ((hB2.set 2 (.int .i64 ((s.synced : Int) + k)) (by simp [rcells])).set 6 (.bool false) (by simp [rcells])).set 4 (.int .i64 0) (by simp [rcells])
    have hle := hl2.ext hxs (fun _ _ h => .inl h)
    have hse := hs2.ext hxs (fun _ _ h => .inl h)
    have hxe := hx02.comp hxs
    clear hB2 hl2 hs2
    go_wp2_with fail
    go_ret
    refine ⟨rfl, ⟨ev, la, lc, sa, sc, ?_, ?_, ?_, ?_⟩, hxe⟩
    · rw [Hkey.out]; intro h; simp at h
    · rw [Hkey.out]
      unfold rcells at hBe ⊢
      simp only [← Hlen.out]
      exact hBe
    · rw [Hkey.out]; exact hle
    · rw [Hkey.out]; exact hse
    -->A
end Go.Proofs.Ytbmkmbankflbpaa
