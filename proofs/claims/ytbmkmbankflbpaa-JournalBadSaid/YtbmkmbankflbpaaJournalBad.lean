/- The walk of the law JournalBad. -/
import Derived.Test.YtbmkmbankflbpaaJoL
import Derived.Test.YtbmkmbankflbpaaRegionF
namespace Go.Proofs.Ytbmkmbankflbpaa
open Go.RowKit Go.Esc
set_option linter.unusedVariables false
set_option linter.unusedSimpArgs false

set_option maxRecDepth 100000 in
set_option maxHeartbeats 8000000 in
theorem bad_walk (w : World) (pa : Option Addr) (p : List UInt8) (pc : Nat) (ta : Option Addr) (t : List UInt8) (tc : Nat) (hp : Rd w pa (bs p)) (hpl : p.length ≤ pc) (hpc : pc ≤ maxLen) (ht : Rd w ta (bs t)) (htl : t.length ≤ tc) (htc : tc ≤ maxLen) :
    Calls Try.prog 3 #[.slice pa p.length pc, .slice ta t.length tc] w fun e w' => e = .returned (.bool true) ∧ Ext no w w' := by
  have hpc' := hpc
  have htc' := htc
  unfold maxLen at hpc' htc'
  go_enter Try.func3, Try.ntmps3
  go_wp2_with fail
  refine (known_any w).mono ?_
  rintro e w1 ⟨rfl, hx1⟩
  by_cases hin : p.length = 0 ∨ 200 < p.length ∨ 100 < t.length
  · rcases hin with h | h | h
    · have d1 : ((p.length : Int) == 0) = true := by rw [beq_iff_eq]; omega
      go_wp2_with fail
      go_ret
      exact ⟨rfl, hx1⟩
    · have d1 : ((p.length : Int) == 0) = false := by rw [beq_eq_false_iff_ne]; omega
      have d2 : decide ((200 : Int) < p.length) = true := decT (by omega)
      go_wp2_with fail
      go_ret
      exact ⟨rfl, hx1⟩
    · by_cases h0 : p.length = 0
      · have d1 : ((p.length : Int) == 0) = true := by rw [beq_iff_eq]; omega
        go_wp2_with fail
        go_ret
        exact ⟨rfl, hx1⟩
      have d1 : ((p.length : Int) == 0) = false := by rw [beq_eq_false_iff_ne]; omega
      by_cases h2 : 200 < p.length
      · have d2 : decide ((200 : Int) < p.length) = true := decT (by omega)
        go_wp2_with fail
        go_ret
        exact ⟨rfl, hx1⟩
      have d2 : decide ((200 : Int) < p.length) = false := decF (by omega)
      have d3 : decide ((100 : Int) < t.length) = true := decT (by omega)
      go_wp2_with fail
      go_ret
      exact ⟨rfl, hx1⟩
  have d1 : ((p.length : Int) == 0) = false := by rw [beq_eq_false_iff_ne]; omega
  have d2 : decide ((200 : Int) < p.length) = false := decF (by omega)
  have d3 : decide ((100 : Int) < t.length) = false := decF (by omega)
  have hpn : p ≠ [] := fun h => by rw [h] at hin; simp at hin
  have hp1 := hp.ext hx1 (fun _ _ h => h)
  go_wp2_with fail
  refine (rone_any w1 pa pc p hp1 (by omega) hpl).mono ?_
  rintro e w2 ⟨a2, c2, rfl, _, _, hx2⟩
  by_cases hone : (one p).2 = 0
  · rw [hone]
    go_wp2_with fail
    go_ret
    exact ⟨rfl, hx1.comp hx2⟩
  have d4 : (((one p).2 : Int) == 0) = false := by rw [beq_eq_false_iff_ne]; omega
  go_wp2_with fail
  refine (newdisk_any w2 10000 (by omega) (by omega) (fun _ => False)).mono ?_
  rintro e w3 ⟨g, rfl, hD3, hg, hx3⟩
  have hx23 := hx2.comp hx3
  have hx13 := hx1.comp hx23
  have hok0 : (DS.new 10000).ok := DS.new_ok 10000 (by omega)
  have hsw := DS.swap_live (s := DS.new 10000) rfl rfl p (by simp [DS.new]; omega)
  have hlow : ∀ {a : Option Addr} {l : List UInt8}, Rd w a (bs l) → l ≠ [] → ∀ ad, a = some ad → ad.block ≠ g := by
    intro a l hr hn ad ha
    obtain ⟨ad2, h2, h3⟩ := hr.ne (by rw [bs_length]; exact List.length_pos_iff.2 hn)
    rw [ha] at h2
    cases h2
    have := hx1.size
    have := hx2.size
    omega
  obtain ⟨hok1, _⟩ := DS.ok_swap hok0 (by simp [DS.new]) p
  go_wp2_with fail
  refine (swap_any w3 g _ _ hD3 (fun _ h => h.elim) hok0 pa pc p (hp.ext hx13 (fun _ _ h => h)) (hlow hp) (by omega)).mono ?_
  rintro e w4 ⟨rfl, hD4, hx4⟩
  rw [hsw] at hD4 hok1
  have hap := DS.append_live (s := { (DS.new 10000) with done := 0 + 1, snap := p, log := [], synced := 0 }) rfl rfl t (by simp [DS.new]; omega)
  obtain ⟨hok2, _⟩ := DS.ok_append hok1 (by simp [DS.new]) t
  have htg4 : Rd w4 ta (bs t) := by
    by_cases h0 : t = []
    · rw [h0]; exact Rd.nil _ _
    · exact (ht.ext hx13 (fun _ _ h => h)).ext hx4 (fun ad ha hh => by have := hlow ht h0 ad ha; simp only [Esc.just] at hh; omega)
  go_wp2_with fail
  refine (append_any w4 g _ _ hD4 (fun _ h => h.elim) hok1 ta tc t htg4 (hlow ht) (by omega)).mono ?_
  rintro e w5 ⟨rfl, hD5, hx5⟩
  have Hap := Lib.hid hap
  obtain ⟨s2, hs2⟩ : ∃ s, s = (DS.append { (DS.new 10000) with done := 0 + 1, snap := p, log := [], synced := 0 } t).1 := ⟨_, rfl⟩
  have e1 : s2.snap = p := by rw [hs2, hap]
  have e2 : s2.log = t := by rw [hs2, hap]; simp
  have e3 : s2.dead = false := by rw [hs2, hap]; rfl
  have hD5' : Dk w5 g s2 (fun _ => False) := by rw [hs2]; exact hD5
  have hok2' : s2.ok := by rw [hs2]; exact hok2
  have Hop := Lib.hid (show s2.opens = (s2, 10, [], []) by unfold DS.opens; rw [if_neg (by rw [e3]; simp), if_pos ⟨by rw [e1]; exact hpn, by rw [e1]; exact hone⟩])
  have hxg : Ext no w w5 := ext_new hx13 (by have := hx1.size; have := hx2.size; omega) (hx4.comp hx5)
  have hgw : w.heap.size ≤ g := by have := hx1.size; have := hx2.size; omega
  clear hD3 hD4 hD5 hx3 hx4 hx5 hx23 hx13 hx1 hx2 hok0 hok1 hok2 hsw hap Hap hs2 hp1 htg4 hone d1 d2 d3 d4
  go_wp2_with fail
  refine (open_any w5 g s2 _ hD5' (fun _ h => h.elim) hok2').mono ?_
  rintro e w6 ⟨J, sa, sc, la, lc, rfl, _, _, hx6, hend⟩
  rw [Hop.out] at hend ⊢
  simp only at hend ⊢
  rcases hend with ⟨_, rfl, hD6⟩ | ⟨h0, _⟩
  rotate_left
  · omega
  have hx06 := ext_new hxg hgw hx6
  have hp6 := hp.ext hx06 (fun _ _ h => h)
  have ht6 := ht.ext hx06 (fun _ _ h => h)
  clear hD5' hxg hx6
  go_upto_region 12 with fail
  --<A
  refine wp_region_F [19, 21, 27, 29] (looks [(19, fun z => True), (21, fun z => Ext no w6 z), (27, fun z => True), (29, fun z => Ext no w6 z)]) (by kernel_rfl) ?_
  have hT0 : ∀ k, looks [(19, fun z => True), (21, fun z => Ext no w6 z), (27, fun z => True), (29, fun z => Ext no w6 z)] k (w6.drew) := looks_all ⟨trivial, (Ext.drew no w6), trivial, (Ext.drew no w6), trivial⟩
  refine wpF_take 0 (v := ?_) rfl (by kernel_rfl) (by kernel_rfl) (by kernel_rfl) (fun _ _ _ h => h) hT0 (by rfl) ?_ ?_
  rotate_left
  · (intro wq; go_simp; try with_reducible rfl)
  simp only [Act.put, List.setIfInBounds_toArray, List.set_cons_zero, List.set_cons_succ]
  refine wpF_take 1 (v := ?_) rfl (by kernel_rfl) (by kernel_rfl) (by kernel_rfl) (fun _ _ _ h => h) hT0 (by rfl) ?_ ?_
  rotate_left
  · (intro wq; go_simp; try with_reducible rfl)
  simp only [Act.put, List.setIfInBounds_toArray, List.set_cons_zero, List.set_cons_succ]
  refine wpF_take 2 (v := ?_) rfl (by kernel_rfl) (by kernel_rfl) (by kernel_rfl) (fun _ _ _ h => h) hT0 (by rfl) ?_ ?_
  rotate_left
  · (intro wq; go_simp; try with_reducible rfl)
  simp only [Act.put, List.setIfInBounds_toArray, List.set_cons_zero, List.set_cons_succ]
  refine wpF_take 3 (v := ?_) rfl (by kernel_rfl) (by kernel_rfl) (by kernel_rfl) (fun _ _ _ h => h) hT0 (by rfl) ?_ ?_
  rotate_left
  · (intro wq; go_simp; try with_reducible rfl)
  simp only [Act.put, List.setIfInBounds_toArray, List.set_cons_zero, List.set_cons_succ]
  refine wpF_take 4 (v := ?_) rfl (by kernel_rfl) (by kernel_rfl) (by kernel_rfl) (fun _ _ _ h => h) hT0 (by rfl) ?_ ?_
  rotate_left
  · (intro wq; go_simp; try with_reducible rfl)
  simp only [Act.put, List.setIfInBounds_toArray, List.set_cons_zero, List.set_cons_succ]
  refine wpF_take 5 (v := ?_) rfl (by kernel_rfl) (by kernel_rfl) (by kernel_rfl) (fun _ _ _ h => h) hT0 (by rfl) ?_ ?_
  rotate_left
  · (intro wq; go_simp; try with_reducible rfl)
  simp only [Act.put, List.setIfInBounds_toArray, List.set_cons_zero, List.set_cons_succ]
  refine wpF_take 6 (v := ?_) rfl (by kernel_rfl) (by kernel_rfl) (by kernel_rfl) (fun _ _ _ h => h) hT0 (by rfl) ?_ ?_
  rotate_left
  · (intro wq; go_simp; try with_reducible rfl)
  simp only [Act.put, List.setIfInBounds_toArray, List.set_cons_zero, List.set_cons_succ]
  refine wpF_take 7 (v := ?_) rfl (by kernel_rfl) (by kernel_rfl) (by kernel_rfl) (fun _ _ _ h => h) hT0 (by rfl) ?_ ?_
  rotate_left
  · (intro wq; go_simp; try with_reducible rfl)
  simp only [Act.put, List.setIfInBounds_toArray, List.set_cons_zero, List.set_cons_succ]
  refine wpF_take 8 (v := ?_) rfl (by kernel_rfl) (by kernel_rfl) (by kernel_rfl) (fun _ _ _ h => h) hT0 (by rfl) ?_ ?_
  rotate_left
  · (intro wq; go_simp; try with_reducible rfl)
  simp only [Act.put, List.setIfInBounds_toArray, List.set_cons_zero, List.set_cons_succ]
  refine wpF_take 9 (v := ?_) rfl (by kernel_rfl) (by kernel_rfl) (by kernel_rfl) (fun _ _ _ h => h) hT0 (by rfl) ?_ ?_
  rotate_left
  · (intro wq; go_simp; try with_reducible rfl)
  simp only [Act.put, List.setIfInBounds_toArray, List.set_cons_zero, List.set_cons_succ]
  refine wpF_take 10 (v := ?_) rfl (by kernel_rfl) (by kernel_rfl) (by kernel_rfl) (fun _ _ _ h => h) hT0 (by rfl) ?_ ?_
  rotate_left
  · (intro wq; go_simp; try with_reducible rfl)
  simp only [Act.put, List.setIfInBounds_toArray, List.set_cons_zero, List.set_cons_succ]
  refine wpF_take 11 (v := ?_) rfl (by kernel_rfl) (by kernel_rfl) (by kernel_rfl) (fun _ _ _ h => h) hT0 (by rfl) ?_ ?_
  rotate_left
  · (intro wq; go_simp; try with_reducible rfl)
  simp only [Act.put, List.setIfInBounds_toArray, List.set_cons_zero, List.set_cons_succ]
  refine wpF_take 12 (v := ?_) rfl (by kernel_rfl) (by kernel_rfl) (by kernel_rfl) (fun _ _ _ h => h) hT0 (by rfl) ?_ ?_
  rotate_left
  · (intro wq; go_simp; try with_reducible rfl)
  simp only [Act.put, List.setIfInBounds_toArray, List.set_cons_zero, List.set_cons_succ]
  refine wpF_take 13 (v := ?_) rfl (by kernel_rfl) (by kernel_rfl) (by kernel_rfl) (fun _ _ _ h => h) hT0 (by rfl) ?_ ?_
  rotate_left
  · (intro wq; go_simp; try with_reducible rfl)
  simp only [Act.put, List.setIfInBounds_toArray, List.set_cons_zero, List.set_cons_succ]
  refine wpF_take 14 (v := ?_) rfl (by kernel_rfl) (by kernel_rfl) (by kernel_rfl) (fun _ _ _ h => h) hT0 (by rfl) ?_ ?_
  rotate_left
  · (intro wq; go_simp; try with_reducible rfl)
  simp only [Act.put, List.setIfInBounds_toArray, List.set_cons_zero, List.set_cons_succ]
  refine wpF_take 15 (v := ?_) rfl (by kernel_rfl) (by kernel_rfl) (by kernel_rfl) (fun _ _ _ h => h) hT0 (by rfl) ?_ ?_
  rotate_left
  · (intro wq; go_simp; try with_reducible rfl)
  simp only [Act.put, List.setIfInBounds_toArray, List.set_cons_zero, List.set_cons_succ]
  refine wpF_take 16 (v := ?_) rfl (by kernel_rfl) (by kernel_rfl) (by kernel_rfl) (fun _ _ _ h => h) hT0 (by rfl) ?_ ?_
  rotate_left
  · (intro wq; go_simp; try with_reducible rfl)
  simp only [Act.put, List.setIfInBounds_toArray, List.set_cons_zero, List.set_cons_succ]
  refine wpF_take 17 (v := ?_) rfl (by kernel_rfl) (by kernel_rfl) (by kernel_rfl) (fun _ _ _ h => h) hT0 (by rfl) ?_ ?_
  rotate_left
  · (intro wq; go_simp; try with_reducible rfl)
  simp only [Act.put, List.setIfInBounds_toArray, List.set_cons_zero, List.set_cons_succ]
  refine wpF_take 20 (v := ?_) rfl (by kernel_rfl) (by kernel_rfl) (by kernel_rfl) (fun _ _ _ h => h) hT0 (by rfl) ?_ ?_
  rotate_left
  · (intro wq; go_simp; try with_reducible rfl)
  simp only [Act.put, List.setIfInBounds_toArray, List.set_cons_zero, List.set_cons_succ]
  refine wpF_look 21 (v := .string (str t)) rfl rfl (by kernel_rfl) (by kernel_rfl) (by kernel_rfl) (by kernel_rfl) (fun _ _ _ h => h) hT0 (by rfl) (fun w hS => by have hS : Ext no w6 w := hS; exact yields_string (by exact Try.underlying22) (by exact Try.underlying5) (by exact Try.underlying9) rfl rfl rfl (ht6.ext hS (fun _ _ h => h))) ?_
  simp only [Act.put, List.setIfInBounds_toArray, List.set_cons_zero, List.set_cons_succ]
  refine wpF_exec 18 rfl (by kernel_rfl) (by rfl) ?_
  intro K hK
  go_simp
  refine (log_any' (w6.drew) g s2 _ (hD6.no (Ext.drew no w6)) hok2').mono ?_
  rintro e x18 ⟨a18, c18, rfl, ho18, hx18⟩
  have hr18 : Rd x18 a18 (bs t) := by have := ho18.rd; rwa [e2] at this
  rw [e2]
  have hT1 : ∀ k, looks [(19, fun z => Rd z a18 (bs t)), (21, fun z => Ext no w6 z), (27, fun z => True), (29, fun z => Ext no w6 z)] k (x18) := looks_all ⟨hr18, ((Ext.drew no w6).comp hx18), trivial, ((Ext.drew no w6).comp hx18), trivial⟩
  refine hK _ _ (looks [(19, fun z => Rd z a18 (bs t)), (21, fun z => Ext no w6 z), (27, fun z => True), (29, fun z => Ext no w6 z)]) ⟨.inl (by kernel_rfl), .inr (.inr (fun x h => h)), .inl (by kernel_rfl), .inl (by kernel_rfl), trivial⟩ hT1 ?_
  clear hK K
  try simp only [Act.put, List.setIfInBounds_toArray, List.set_cons_zero, List.set_cons_succ]
  refine wpF_look 19 (v := .string (str t)) rfl rfl (by kernel_rfl) (by kernel_rfl) (by kernel_rfl) (by kernel_rfl) (fun _ _ _ h => h) hT1 (by rfl) (fun w hS => by have hS : Rd w a18 (bs t) := hS; exact yields_string (by exact Try.underlying22) (by exact Try.underlying5) (by exact Try.underlying9) rfl rfl rfl hS) ?_
  simp only [Act.put, List.setIfInBounds_toArray, List.set_cons_zero, List.set_cons_succ]
  refine wpF_take 22 (v := .bool true) rfl (by kernel_rfl) (by kernel_rfl) (by kernel_rfl) (fun _ _ _ h => h) hT1 (by rfl) (by intro wq; have cs := beqStrT (rfl : t = t); go_simp) ?_
  simp only [Act.put, List.setIfInBounds_toArray, List.set_cons_zero, List.set_cons_succ]
  refine wpF_take 23 (v := ?_) rfl (by kernel_rfl) (by kernel_rfl) (by kernel_rfl) (fun _ _ _ h => h) hT1 (by rfl) ?_ ?_
  rotate_left
  · (intro wq; go_simp; try with_reducible rfl)
  simp only [Act.put, List.setIfInBounds_toArray, List.set_cons_zero, List.set_cons_succ]
  refine wpF_take 24 (v := ?_) rfl (by kernel_rfl) (by kernel_rfl) (by kernel_rfl) (fun _ _ _ h => h) hT1 (by rfl) ?_ ?_
  rotate_left
  · (intro wq; go_simp; try with_reducible rfl)
  simp only [Act.put, List.setIfInBounds_toArray, List.set_cons_zero, List.set_cons_succ]
  refine wpF_take 25 (v := ?_) rfl (by kernel_rfl) (by kernel_rfl) (by kernel_rfl) (fun _ _ _ h => h) hT1 (by rfl) ?_ ?_
  rotate_left
  · (intro wq; go_simp; try with_reducible rfl)
  simp only [Act.put, List.setIfInBounds_toArray, List.set_cons_zero, List.set_cons_succ]
  refine wpF_take 28 (v := ?_) rfl (by kernel_rfl) (by kernel_rfl) (by kernel_rfl) (fun _ _ _ h => h) hT1 (by rfl) ?_ ?_
  rotate_left
  · (intro wq; go_simp; try with_reducible rfl)
  simp only [Act.put, List.setIfInBounds_toArray, List.set_cons_zero, List.set_cons_succ]
  refine wpF_look 29 (v := .string (str p)) rfl rfl (by kernel_rfl) (by kernel_rfl) (by kernel_rfl) (by kernel_rfl) (fun _ _ _ h => h) hT1 (by rfl) (fun w hS => by have hS : Ext no w6 w := hS; exact yields_string (by exact Try.underlying22) (by exact Try.underlying5) (by exact Try.underlying9) rfl rfl rfl (hp6.ext hS (fun _ _ h => h))) ?_
  simp only [Act.put, List.setIfInBounds_toArray, List.set_cons_zero, List.set_cons_succ]
  refine wpF_exec 26 rfl (by kernel_rfl) (by rfl) ?_
  intro K hK
  go_simp
  refine (snap_any (x18) g s2 _ (hD6.no ((Ext.drew no w6).comp hx18)) hok2').mono ?_
  rintro e x26 ⟨a26, c26, rfl, ho26, hx26⟩
  have hr26 : Rd x26 a26 (bs p) := by have := ho26.rd; rwa [e1] at this
  rw [e1]
  have hT2 : ∀ k, looks [(19, fun z => Rd z a18 (bs t)), (21, fun z => Ext no w6 z), (27, fun z => Rd z a26 (bs p)), (29, fun z => Ext no w6 z)] k (x26) := looks_all ⟨(hr18.ext hx26 (fun _ _ h => h)), (((Ext.drew no w6).comp hx18).comp hx26), hr26, (((Ext.drew no w6).comp hx18).comp hx26), trivial⟩
  refine hK _ _ (looks [(19, fun z => Rd z a18 (bs t)), (21, fun z => Ext no w6 z), (27, fun z => Rd z a26 (bs p)), (29, fun z => Ext no w6 z)]) ⟨.inr (.inl (by kernel_rfl)), .inr (.inl (by kernel_rfl)), .inl (by kernel_rfl), .inr (.inr (fun x h => h)), trivial⟩ hT2 ?_
  clear hK K
  try simp only [Act.put, List.setIfInBounds_toArray, List.set_cons_zero, List.set_cons_succ]
  refine wpF_look 27 (v := .string (str p)) rfl rfl (by kernel_rfl) (by kernel_rfl) (by kernel_rfl) (by kernel_rfl) (fun _ _ _ h => h) hT2 (by rfl) (fun w hS => by have hS : Rd w a26 (bs p) := hS; exact yields_string (by exact Try.underlying22) (by exact Try.underlying5) (by exact Try.underlying9) rfl rfl rfl hS) ?_
  simp only [Act.put, List.setIfInBounds_toArray, List.set_cons_zero, List.set_cons_succ]
  refine wpF_take 30 (v := .bool true) rfl (by kernel_rfl) (by kernel_rfl) (by kernel_rfl) (fun _ _ _ h => h) hT2 (by rfl) (by intro wq; have cs := beqStrT (rfl : p = p); go_simp) ?_
  simp only [Act.put, List.setIfInBounds_toArray, List.set_cons_zero, List.set_cons_succ]
  refine wpF_take 31 (v := ?_) rfl (by kernel_rfl) (by kernel_rfl) (by kernel_rfl) (fun _ _ _ h => h) hT2 (by rfl) ?_ ?_
  rotate_left
  · (intro wq; go_simp; try with_reducible rfl)
  simp only [Act.put, List.setIfInBounds_toArray, List.set_cons_zero, List.set_cons_succ]
  refine wpF_take 32 (v := ?_) rfl (by kernel_rfl) (by kernel_rfl) (by kernel_rfl) (fun _ _ _ h => h) hT2 (by rfl) ?_ ?_
  rotate_left
  · (intro wq; go_simp; try with_reducible rfl)
  simp only [Act.put, List.setIfInBounds_toArray, List.set_cons_zero, List.set_cons_succ]
  refine wpF_done (by kernel_rfl) ?_ _
  go_wp2_with fail
  go_ret
  exact ⟨rfl, hx06.comp (((Ext.drew no w6).comp hx18).comp hx26)⟩
  -->A
end Go.Proofs.Ytbmkmbankflbpaa
