/- The walk of the package disk: Crash. -/
import Derived.Test.YtbmkmbankflbpaaDkE
import Derived.Test.YtbmkmbankflbpaaRegionB
namespace Go.Proofs.Ytbmkmbankflbpaa
open Go.RowKit Go.Esc
set_option linter.unusedVariables false

set_option maxHeartbeats 2000000 in
theorem crash_any (w : World) (g : Nat) (s : DS) (N : Nat → Prop) (h : Dk w g s N) (hN : ∀ k, N k → k < w.heap.size) (hok : s.ok) (pick : Int) (hp : I64ok pick) :
    Calls Try.prog 28 #[.pointer (some ⟨g, 0, none⟩), .int .i64 pick] w fun e w' => e = .returned (.int .i64 (s.keeps pick)) ∧ Dk w' g (s.crash pick) N ∧ Ext (just g) w w' := by
  obtain ⟨hp1, hp2⟩ := hp
  obtain ⟨la, lc, sa, sc, hB, hl, hs⟩ := h
  obtain ⟨k1, k2, k3, k4, k5, k6⟩ := hok
  have hg := hB.lt (by simp [dcells])
  have c4 := hB.cell 4 _ rfl
  have c5 := hB.cell 5 _ rfl
  obtain ⟨M, hM⟩ : ∃ M, M = s.log.length - s.synced + 1 := ⟨_, rfl⟩
  obtain ⟨k, hk⟩ : ∃ k, k = s.keeps pick := ⟨_, rfl⟩
  have hkl := s.keeps_le pick
  rw [← hk] at hkl
  have hMi : (s.log.length : Int) - s.synced + 1 = (M : Int) := by omega
  have u1 : IntKind.i64.wrap ((s.log.length : Int) - s.synced) = (s.log.length : Int) - s.synced := by rw [IntKind.wrap_i64]; omega
  have u2 : IntKind.i64.wrap ((s.log.length : Int) - s.synced + 1) = (M : Int) := by rw [IntKind.wrap_i64]; omega
  have hM1 : 1 ≤ M := by omega
  have hM2 : M ≤ 16777217 := by omega
  have hb := Int.tmod_lt_of_pos pick (show (0 : Int) < M by omega)
  have he := tmod_pos pick M (by omega)
  have hb' : -(M : Int) ≤ pick.tmod M := by
    have e1 := Int.emod_nonneg pick (show (M : Int) ≠ 0 by omega)
    have e2 := Int.emod_lt_of_pos pick (show (0 : Int) < M by omega)
    split at he <;> omega
  have hkk : pick.tmod M % (M : Int) = (k : Int) := by
    have h1 : (k : Int) = pick % (M : Int) := by
      rw [hk]; unfold DS.keeps
      rw [← hM]
      have := Int.emod_nonneg pick (show (M : Int) ≠ 0 by omega)
      omega
    have e1 := Int.emod_nonneg pick (show (M : Int) ≠ 0 by omega)
    have e2 := Int.emod_lt_of_pos pick (show (0 : Int) < M by omega)
    rw [h1]
    split at he
    · rw [he, ← Int.add_emod_right, Int.emod_eq_of_lt (by omega) (by omega)]
    · rw [he, Int.emod_eq_of_lt (by omega) (by omega)]
  have Hk := Lib.hid hk
  have Hkk := Lib.hid hkk
  have Hkey := Lib.hid (show s.crash pick = { s with left := 0, odd := 0, dead := false, log := s.log.take (s.synced + k), synced := s.synced + k } by unfold DS.crash; rw [← hk])
  rw [← hk]
  clear he hk hkk hM hMi
  go_enter Try.func28, Try.ntmps28
  go_upto_region 1 with fail
  go_quiet (fail)
  have hB1 := hB.drewN nq
  have hx1 := Ext.drewN (just g) w nq
  have hl1 : Sl (w.drewN nq) g N la lc s.log := hl.ext (Ext.drewN no _ _) (fun _ _ h => h.elim)
  have hs1 : Sl (w.drewN nq) g N sa sc s.snap := hs.ext (Ext.drewN no _ _) (fun _ _ h => h.elim)
  have hsz1 := hx1.size
  clear hB hl hs c4 c5 u1 u2
  generalize w.drewN nq = w1 at *
  go_upto_region 3 with fail
  have c4 := hB1.cell 4 _ rfl
  have c5 := hB1.cell 5 _ rfl
  have hlc := hl1.2.1
  have hlr : Rd w1.drew la (bs (s.log.take (s.synced + k))) := (hl1.take (s.synced + k)).1.drew
  have Hlen := Lib.hid (show s.synced + k = (s.log.take (s.synced + k)).length by rw [List.length_take]; omega)
  have hB1d := hB1.drew
  have hs1d : Sl w1.drew g N sa sc s.snap := hs1.ext (Ext.drew no _) (fun _ _ h => h.elim)
  rw [show (pick.tmod (M : Int) + (M : Int)) % (M : Int) = (k : Int) from by rw [Int.add_emod_right]; exact Hkk.out]
  --<A
  refine wp_region_E [4, 8] (fun x => x = w1.drew) (by kernel_rfl) ?_
  refine wpE_take 0 (v := ?_) rfl (by kernel_rfl) (by kernel_rfl) (by kernel_rfl) (fun _ _ _ h => h) (rfl : w1.drew = w1.drew) (by rfl) ?_ ?_
  rotate_left
  · (intro wq; go_simp; try with_reducible rfl)
  simp only [Act.put, List.setIfInBounds_toArray, List.set_cons_zero, List.set_cons_succ]
  refine wpE_take 1 (v := ?_) rfl (by kernel_rfl) (by kernel_rfl) (by kernel_rfl) (fun _ _ _ h => h) (rfl : w1.drew = w1.drew) (by rfl) ?_ ?_
  rotate_left
  · (intro wq; go_simp; try with_reducible rfl)
  simp only [Act.put, List.setIfInBounds_toArray, List.set_cons_zero, List.set_cons_succ]
  refine wpE_take 2 (v := ?_) rfl (by kernel_rfl) (by kernel_rfl) (by kernel_rfl) (fun _ _ _ h => h) (rfl : w1.drew = w1.drew) (by rfl) ?_ ?_
  rotate_left
  · (intro wq; go_simp; try with_reducible rfl)
  simp only [Act.put, List.setIfInBounds_toArray, List.set_cons_zero, List.set_cons_succ]
  refine wpE_take 3 (v := ?_) rfl (by kernel_rfl) (by kernel_rfl) (by kernel_rfl) (fun _ _ _ h => h) (rfl : w1.drew = w1.drew) (by rfl) ?_ ?_
  rotate_left
  · (intro wq; go_simp; try with_reducible rfl)
  simp only [Act.put, List.setIfInBounds_toArray, List.set_cons_zero, List.set_cons_succ]
  refine wpE_look 4 (v := .slice la s.log.length lc) rfl rfl (by kernel_rfl) (by kernel_rfl) (by kernel_rfl) (by kernel_rfl) (fun _ _ _ h => h) (rfl : w1.drew = w1.drew) (by rfl) (fun w hS => by subst hS; go_simp) ?_
  simp only [Act.put, List.setIfInBounds_toArray, List.set_cons_zero, List.set_cons_succ]
  refine wpE_take 5 (v := ?_) rfl (by kernel_rfl) (by kernel_rfl) (by kernel_rfl) (fun _ _ _ h => h) (rfl : w1.drew = w1.drew) (by rfl) ?_ ?_
  rotate_left
  · (intro wq; go_simp; try with_reducible rfl)
  simp only [Act.put, List.setIfInBounds_toArray, List.set_cons_zero, List.set_cons_succ]
  refine wpE_take 6 (v := ?_) rfl (by kernel_rfl) (by kernel_rfl) (by kernel_rfl) (fun _ _ _ h => h) (rfl : w1.drew = w1.drew) (by rfl) ?_ ?_
  rotate_left
  · (intro wq; go_simp; try with_reducible rfl)
  simp only [Act.put, List.setIfInBounds_toArray, List.set_cons_zero, List.set_cons_succ]
  refine wpE_take 7 (v := ?_) rfl (by kernel_rfl) (by kernel_rfl) (by kernel_rfl) (fun _ _ _ h => h) (rfl : w1.drew = w1.drew) (by rfl) ?_ ?_
  rotate_left
  · (intro wq; go_simp; try with_reducible rfl)
  simp only [Act.put, List.setIfInBounds_toArray, List.set_cons_zero, List.set_cons_succ]
  refine wpE_look 8 (v := .int .i64 s.synced) rfl rfl (by kernel_rfl) (by kernel_rfl) (by kernel_rfl) (by kernel_rfl) (fun _ _ _ h => h) (rfl : w1.drew = w1.drew) (by rfl) (fun w hS => by subst hS; go_simp) ?_
  simp only [Act.put, List.setIfInBounds_toArray, List.set_cons_zero, List.set_cons_succ]
  refine wpE_take 9 (v := ?_) rfl (by kernel_rfl) (by kernel_rfl) (by kernel_rfl) (fun _ _ _ h => h) (rfl : w1.drew = w1.drew) (by rfl) ?_ ?_
  rotate_left
  · (intro wq; go_simp; try with_reducible rfl)
  simp only [Act.put, List.setIfInBounds_toArray, List.set_cons_zero, List.set_cons_succ]
  refine wpE_take 10 (v := .int .i64 ((s.synced : Int) + k)) rfl (by kernel_rfl) (by kernel_rfl) (by kernel_rfl) (fun _ _ _ h => h) (rfl : w1.drew = w1.drew) (by rfl) (by intro wq; go_simp; rw [IntKind.wrap_i64]; omega) ?_
  simp only [Act.put, List.setIfInBounds_toArray, List.set_cons_zero, List.set_cons_succ]
  refine wpE_take 11 (v := .slice la (s.synced + k) lc) rfl (by kernel_rfl) (by kernel_rfl) (by kernel_rfl) (fun _ _ _ h => h) (rfl : w1.drew = w1.drew) (by rfl) (by intro wq; exact yields_cut_h TBytes rfl rfl rfl (s.synced + k) (by simp) (by omega)) ?_
  simp only [Act.put, List.setIfInBounds_toArray, List.set_cons_zero, List.set_cons_succ]
  refine wpE_exec 12 rfl (by kernel_rfl) (by rfl) ?_
  intro K hK
  go_simp
  refine (own_at w1.drew la (s.synced + k) lc (s.log.take (s.synced + k)) Hlen.out hlr (by rw [← Hlen.out]; omega)).mono ?_
  rintro e w3 ⟨a', c', rfl, ho, hx3⟩
  have hB3 := hB1d.ext (by simp [dcells]) hx3 (fun h => h)
  have q4 := hB3.cell 4 _ rfl
  have f4 := hB3.fr 4
  have hS1 := trivial
  refine hK _ _ (fun x => True) (.inl (by kernel_rfl)) hS1 ?_
  clear hK K
  refine wpE_take 13 (v := ?_) rfl (by kernel_rfl) (by kernel_rfl) (by kernel_rfl) (fun _ _ _ h => h) hS1 (by rfl) ?_ ?_
  rotate_left
  · (intro wq; go_simp; try with_reducible rfl)
  simp only [Act.put, List.setIfInBounds_toArray, List.set_cons_zero, List.set_cons_succ]
  refine wpE_take 14 (v := ?_) rfl (by kernel_rfl) (by kernel_rfl) (by kernel_rfl) (fun _ _ _ h => h) hS1 (by rfl) ?_ ?_
  rotate_left
  · (intro wq; go_simp; try with_reducible rfl)
  simp only [Act.put, List.setIfInBounds_toArray, List.set_cons_zero, List.set_cons_succ]
  refine wpE_exec 15 rfl (by kernel_rfl) (by rfl) ?_
  intro K hK
  go_simp
  have hS2 := trivial
  refine hK _ _ (fun x => True) (.inr (fun x h => trivial)) hS2 ?_
  clear hK K
  refine wpE_done (by kernel_rfl) ?_ _
  have f5 := hB3.fr 5
  have q5 := hB3.cell 5 _ rfl
  have q2 := hB3.cell 2 _ rfl
  have q0 := hB3.cell 0 _ rfl
  have q1 := hB3.cell 1 _ rfl
  have q3 := hB3.cell 3 _ rfl
  have f0 := hB3.fr 0
  have f1 := hB3.fr 1
  have f2 := hB3.fr 2
  have f3 := hB3.fr 3
  have hg3 : g < w1.drew.heap.size := hB1d.lt (by simp [dcells])
  have hxs := (((((Ext.at w3 g 4 (.slice a' (s.synced + k) c')).comp (Ext.at _ g 5 (.int .i64 ((s.synced : Int) + k)))).comp (Ext.at _ g 0 (.int .i64 0))).comp (Ext.at _ g 1 (.int .i64 0))).comp (Ext.at _ g 2 (.int .i64 s.done))).comp (Ext.at _ g 3 (.bool false))
  have hBe := (((((hB3.set 4 (.slice a' (s.synced + k) c') (by simp [dcells])).set 5 (.int .i64 ((s.synced : Int) + k)) (by simp [dcells])).set 0 (.int .i64 0) (by simp [dcells])).set 1 (.int .i64 0) (by simp [dcells])).set 2 (.int .i64 s.done) (by simp [dcells])).set 3 (.bool false) (by simp [dcells])
  have hle := (Sl.own ho hg3 (fun k hk => by have := hN k hk; have := (Ext.drew no w1).size; omega) : Sl w3 g N a' c' (s.log.take (s.synced + k))).ext hxs (fun _ _ h => .inl h)
  have hse := (hs1d.ext hx3 (fun _ _ h => h.elim)).ext hxs (fun _ _ h => .inl h)
  have hxe := ((hx1.comp (Ext.drew _ _)).comp (hx3.mono (fun _ _ h => h.elim))).comp hxs
  go_wp2_with fail
  go_ret
  refine ⟨rfl, ⟨a', c', sa, sc, ?_, ?_, ?_⟩, hxe⟩
  · rw [Hkey.out]
    unfold dcells at hBe ⊢
    simp only [← Hlen.out]
    exact hBe
  · rw [Hkey.out]; exact hle
  · rw [Hkey.out]; exact hse
  -->A
end Go.Proofs.Ytbmkmbankflbpaa
