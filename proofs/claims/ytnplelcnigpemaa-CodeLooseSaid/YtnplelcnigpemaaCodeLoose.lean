/- The walk of the law CodeLoose. -/
import Derived.Test.YtnplelcnigpemaaCodeI
import Derived.Test.YtnplelcnigpemaaPlainC
import Derived.Test.YtnplelcnigpemaaLawA
import Derived.Test.YtnplelcnigpemaaRegionB
namespace Go.Proofs.Ytnplelcnigpemaa
open Go.RowKit Go.Esc
set_option linter.unusedVariables false


set_option maxHeartbeats 2000000 in
theorem loose_walk (w : World) (a : Option Addr) (l : List UInt8) (c : Nat) (hrd : Rd w a (bs l)) (hlc : l.length ≤ c) (hc : c ≤ maxLen) :
    Calls Try.prog 5 #[.slice a l.length c] w fun e w' => e = .returned (.bool true) ∧ Ext no w w' := by
  have hlen0 : (0 : Int) ≤ l.length := by omega
  go_enter Try.func5, Try.ntmps5
  go_wp2_with fail
  refine (known_any w).mono ?_
  rintro e w1 ⟨rfl, hext1⟩
  have hrd1 := hrd.ext hext1 (fun _ _ h => h)
  clear hrd
  go_wp2_with fail
  · go_ret
    exact ⟨rfl, hext1⟩
  refine (new_any w1 a c l hrd1 (by omega)).mono ?_
  rintro e w2 ⟨g, d, rfl, hr2, hg2, hd2, hx2⟩
  go_wp2_with fail
  refine (rdInt_any w2 g ⟨l, 0⟩ hr2).mono ?_
  rintro e w3 ⟨rfl, hr3, hx3⟩
  have hs1 := hext1.size
  have hx13 : Ext no w1 w3 := hx2.trans hx3 (fun i hi h => by simp only [Esc.just] at h; omega)
  have hrd3 := hrd1.ext hx13 (fun _ _ h => h)
  have hx02 := hext1.comp hx13
  clear hx13 hx3 hx2 hext1
  clear hr2 hrd1
  obtain ⟨u, r, hsc⟩ | ⟨k, r, hsc⟩ : (∃ u r, scan 0 true l = (.inr u, r)) ∨ ∃ k r, scan 0 true l = (.inl k, r) := by
    rcases hh : scan 0 true l with ⟨k | u, r⟩
    · exact .inr ⟨k, r, rfl⟩
    · exact .inl ⟨u, r, rfl⟩
  · have hul := scan_lt l 0 true (by omega) u r hsc
    have hcan := scan_canon l u r hsc
    rw [rInt_ok rfl hsc] at hr3 ⊢
    have Hok := Lib.hid (sgn_ok u hul)
    clear hsc hul
    cases r with
    | nil =>
      have HE := Lib.hid (show encI (sgn u) = l by rw [encI_sgn, hcan, List.append_nil])
      clear hcan
      go_wp2_with fail
      refine (end_any w3 g ⟨[], 0⟩ hr3).mono ?_
      rintro e w4 ⟨rfl, rfl⟩
      rw [show rEnd ⟨[], 0⟩ = 0 from rfl]
      go_wp2_with fail
      --<A
      refine wp_region_E [2, 4] (fun x => Rd x a (bs l)) (by kernel_rfl) ?_
      refine wpE_take 0 (v := ?_) rfl (by kernel_rfl) (by kernel_rfl) (by kernel_rfl) (fun _ _ _ h => h) (hrd3.drew) (by rfl) ?_ ?_
      rotate_left
      · (intro wq; go_simp; try with_reducible rfl)
      simp only [Act.put, List.setIfInBounds_toArray, List.set_cons_zero, List.set_cons_succ]
      refine wpE_take 3 (v := ?_) rfl (by kernel_rfl) (by kernel_rfl) (by kernel_rfl) (fun _ _ _ h => h) (hrd3.drew) (by rfl) ?_ ?_
      rotate_left
      · (intro wq; go_simp; try with_reducible rfl)
      simp only [Act.put, List.setIfInBounds_toArray, List.set_cons_zero, List.set_cons_succ]
      refine wpE_look 4 rfl rfl (by kernel_rfl) (by kernel_rfl) (by kernel_rfl) (by kernel_rfl) (fun _ _ _ h => h) (hrd3.drew) (by rfl) (fun w hS => yields_string (by exact Try.underlying24) (by exact Try.underlying5) (by exact Try.underlying9) rfl rfl (rfl) (hS)) ?_
      simp only [Act.put, List.setIfInBounds_toArray, List.set_cons_zero, List.set_cons_succ]
      refine wpE_exec 1 rfl (by kernel_rfl) (by rfl) ?_
      intro K hK
      go_simp
      refine (int_any _ none 0 [] (sgn u) (Rd.nil _ _) (by simp) Hok.out).mono ?_
      rintro e w4 ⟨a4, c4, rfl, ho, hx⟩
      have hrd4 := hrd3.ext ((Ext.drew no _).comp hx) (fun _ _ h => h)
      rw [List.nil_append, HE.out] at ho ⊢
      have hx4 := hx02.comp ((Ext.drew no _).comp hx)
      have hS1 := And.intro hrd4 (And.intro hx4 ho.rd)
      refine hK _ _ (fun x => Rd x a (bs l) ∧ Ext no w x ∧ Rd x a4 (bs l)) (.inr (fun x h => h.1)) hS1 ?_
      clear hK K
      refine wpE_look 2 rfl rfl (by kernel_rfl) (by kernel_rfl) (by kernel_rfl) (by kernel_rfl) (fun _ _ _ h => h) hS1 (by rfl) (fun w hS => yields_string (by exact Try.underlying24) (by exact Try.underlying5) (by exact Try.underlying9) rfl rfl (rfl) (hS.2.2)) ?_
      simp only [Act.put, List.setIfInBounds_toArray, List.set_cons_zero, List.set_cons_succ]
      refine wpE_take 5 (v := ?_) rfl (by kernel_rfl) (by kernel_rfl) (by kernel_rfl) (fun _ _ _ h => h) hS1 (by rfl) ?_ ?_
      rotate_left
      · (intro wq; go_simp; try with_reducible rfl)
      simp only [Act.put, List.setIfInBounds_toArray, List.set_cons_zero, List.set_cons_succ]
      refine wpE_take 6 (v := ?_) rfl (by kernel_rfl) (by kernel_rfl) (by kernel_rfl) (fun _ _ _ h => h) hS1 (by rfl) ?_ ?_
      rotate_left
      · (intro wq; go_simp; try with_reducible rfl)
      simp only [Act.put, List.setIfInBounds_toArray, List.set_cons_zero, List.set_cons_succ]
      refine wpE_done (by kernel_rfl) ?_ _
      go_wp2_with fail
      go_ret
      exact ⟨rfl, hS1.2.1⟩
      -->A
    | cons x r =>
      have HC := Lib.hid hcan
      have hlt : (row u).length < l.length := by rw [hcan]; simp
      clear hcan
      go_wp2_with fail
      refine (end_any w3 g ⟨x :: r, 0⟩ hr3).mono ?_
      rintro e w4 ⟨rfl, rfl⟩
      rw [show rEnd ⟨x :: r, 0⟩ = 9 from rfl]
      go_wp2_with fail
      refine (int_any w3 none 0 [] (sgn u) (Rd.nil _ _) (by simp) Hok.out).mono ?_
      rintro e w5 ⟨a5, c5, rfl, ho, hx5⟩
      rw [List.nil_append, encI_sgn] at ho ⊢
      have hrd5 := hrd3.ext hx5 (fun _ _ h => h)
      have hx05 := hx02.comp hx5
      have hrdp : Rd w5 a (bs (row u)) := by
        have := hrd5.take (row u).length
        rwa [bs_take, HC.out, List.take_left] at this
      have hS0 := And.intro ho.rd.drew hrdp.drew
      have hfl : decide ((row u).length < l.length) = true := decide_eq_true hlt
      clear hrd3 hx5 ho hrd5 hrdp
      go_wp2_with fail
      --<B
      refine wp_region_E [7, 12] (fun x => Rd x a5 (bs (row u)) ∧ Rd x a (bs (row u))) (by kernel_rfl) ?_
      refine wpE_take 0 (v := ?_) rfl (by kernel_rfl) (by kernel_rfl) (by kernel_rfl) (fun _ _ _ h => h) hS0 (by rfl) ?_ ?_
      rotate_left
      · (intro wq; go_simp; try with_reducible rfl)
      simp only [Act.put, List.setIfInBounds_toArray, List.set_cons_zero, List.set_cons_succ]
      refine wpE_take 1 (v := ?_) rfl (by kernel_rfl) (by kernel_rfl) (by kernel_rfl) (fun _ _ _ h => h) hS0 (by rfl) ?_ ?_
      rotate_left
      · (intro wq; go_simp; try with_reducible rfl)
      simp only [Act.put, List.setIfInBounds_toArray, List.set_cons_zero, List.set_cons_succ]
      refine wpE_take 2 (v := ?_) rfl (by kernel_rfl) (by kernel_rfl) (by kernel_rfl) (fun _ _ _ h => h) hS0 (by rfl) ?_ ?_
      rotate_left
      · (intro wq; go_simp; try with_reducible rfl)
      simp only [Act.put, List.setIfInBounds_toArray, List.set_cons_zero, List.set_cons_succ]
      refine wpE_take 3 (v := ?_) rfl (by kernel_rfl) (by kernel_rfl) (by kernel_rfl) (fun _ _ _ h => h) hS0 (by rfl) ?_ ?_
      rotate_left
      · (intro wq; go_simp; try with_reducible rfl)
      simp only [Act.put, List.setIfInBounds_toArray, List.set_cons_zero, List.set_cons_succ]
      refine wpE_take 4 (v := ?_) rfl (by kernel_rfl) (by kernel_rfl) (by kernel_rfl) (fun _ _ _ h => h) hS0 (by rfl) ?_ ?_
      rotate_left
      · (intro wq; go_simp; try with_reducible rfl)
      simp only [Act.put, List.setIfInBounds_toArray, List.set_cons_zero, List.set_cons_succ]
      refine wpE_take 5 (v := ?_) rfl (by kernel_rfl) (by kernel_rfl) (by kernel_rfl) (fun _ _ _ h => h) hS0 (by rfl) ?_ ?_
      rotate_left
      · (intro wq; go_simp; try with_reducible rfl)
      simp only [Act.put, List.setIfInBounds_toArray, List.set_cons_zero, List.set_cons_succ]
      refine wpE_take 6 (v := ?_) rfl (by kernel_rfl) (by kernel_rfl) (by kernel_rfl) (fun _ _ _ h => h) hS0 (by rfl) ?_ ?_
      rotate_left
      · (intro wq; go_simp; try with_reducible rfl)
      simp only [Act.put, List.setIfInBounds_toArray, List.set_cons_zero, List.set_cons_succ]
      refine wpE_look 7 rfl rfl (by kernel_rfl) (by kernel_rfl) (by kernel_rfl) (by kernel_rfl) (fun _ _ _ h => h) hS0 (by rfl) (fun w hS => yields_string (by exact Try.underlying24) (by exact Try.underlying5) (by exact Try.underlying9) rfl rfl (rfl) (hS.1)) ?_
      simp only [Act.put, List.setIfInBounds_toArray, List.set_cons_zero, List.set_cons_succ]
      refine wpE_take 8 (v := ?_) rfl (by kernel_rfl) (by kernel_rfl) (by kernel_rfl) (fun _ _ _ h => h) hS0 (by rfl) ?_ ?_
      rotate_left
      · (intro wq; go_simp; try with_reducible rfl)
      simp only [Act.put, List.setIfInBounds_toArray, List.set_cons_zero, List.set_cons_succ]
      refine wpE_take 9 (v := ?_) rfl (by kernel_rfl) (by kernel_rfl) (by kernel_rfl) (fun _ _ _ h => h) hS0 (by rfl) ?_ ?_
      rotate_left
      · (intro wq; go_simp; try with_reducible rfl)
      simp only [Act.put, List.setIfInBounds_toArray, List.set_cons_zero, List.set_cons_succ]
      refine wpE_take 10 (v := ?_) rfl (by kernel_rfl) (by kernel_rfl) (by kernel_rfl) (fun _ _ _ h => h) hS0 (by rfl) ?_ ?_
      rotate_left
      · (intro wq; go_simp; try with_reducible rfl)
      simp only [Act.put, List.setIfInBounds_toArray, List.set_cons_zero, List.set_cons_succ]
      refine wpE_take 11 (v := .slice a (row u).length c) rfl (by kernel_rfl) (by kernel_rfl) (by kernel_rfl) (fun _ _ _ h => h) hS0 (by rfl) (fun _ => yields_cut_h TBytes rfl rfl rfl (row u).length rfl (by omega)) ?_
      simp only [Act.put, List.setIfInBounds_toArray, List.set_cons_zero, List.set_cons_succ]
      refine wpE_look 12 rfl rfl (by kernel_rfl) (by kernel_rfl) (by kernel_rfl) (by kernel_rfl) (fun _ _ _ h => h) hS0 (by rfl) (fun w hS => yields_string (by exact Try.underlying24) (by exact Try.underlying5) (by exact Try.underlying9) rfl rfl (rfl) (hS.2)) ?_
      simp only [Act.put, List.setIfInBounds_toArray, List.set_cons_zero, List.set_cons_succ]
      refine wpE_take 13 (v := ?_) rfl (by kernel_rfl) (by kernel_rfl) (by kernel_rfl) (fun _ _ _ h => h) hS0 (by rfl) ?_ ?_
      rotate_left
      · (intro wq; go_simp; try with_reducible rfl)
      simp only [Act.put, List.setIfInBounds_toArray, List.set_cons_zero, List.set_cons_succ]
      refine wpE_take 14 (v := ?_) rfl (by kernel_rfl) (by kernel_rfl) (by kernel_rfl) (fun _ _ _ h => h) hS0 (by rfl) ?_ ?_
      rotate_left
      · (intro wq; go_simp; try with_reducible rfl)
      simp only [Act.put, List.setIfInBounds_toArray, List.set_cons_zero, List.set_cons_succ]
      refine wpE_take 15 (v := ?_) rfl (by kernel_rfl) (by kernel_rfl) (by kernel_rfl) (fun _ _ _ h => h) hS0 (by rfl) ?_ ?_
      rotate_left
      · (intro wq; go_simp; try with_reducible rfl)
      simp only [Act.put, List.setIfInBounds_toArray, List.set_cons_zero, List.set_cons_succ]
      refine wpE_done (by kernel_rfl) ?_ _
      go_wp2_with fail
      go_ret
      exact ⟨rfl, hx05.comp (Ext.drew no _)⟩
      -->B
  · rw [rInt_err rfl hsc] at hr3 ⊢
    rcases scan_err l 0 true k r hsc with rfl | rfl
    · obtain ⟨rfl, hl10⟩ := scan_eight_len l r hsc
      clear hsc
      go_wp2_with fail
      refine (end_any w3 g ⟨[], 8⟩ hr3).mono ?_
      rintro e w4 ⟨rfl, rfl⟩
      rw [show rEnd ⟨[], 8⟩ = 8 from rfl]
      go_wp2_with fail
      go_ret
      have hd : decide ((l.length : Int) ≤ 10) = true := by rw [decide_eq_true_eq]; omega
      exact ⟨by rw [← hd]; rfl, hx02⟩
    · clear hsc
      go_wp2_with fail
      refine (end_any w3 g ⟨r, 10⟩ hr3).mono ?_
      rintro e w4 ⟨rfl, rfl⟩
      rw [show rEnd ⟨r, 10⟩ = 10 from rfl]
      go_wp2_with fail
      refine (end_any w3 g ⟨r, 10⟩ hr3).mono ?_
      rintro e w4 ⟨rfl, rfl⟩
      rw [show rEnd ⟨r, 10⟩ = 10 from rfl]
      go_wp2_with fail
      go_ret
      exact ⟨rfl, hx02⟩
end Go.Proofs.Ytnplelcnigpemaa
