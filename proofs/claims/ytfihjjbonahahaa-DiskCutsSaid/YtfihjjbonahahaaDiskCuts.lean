/- The walk of the law DiskCuts. -/
import Derived.Test.YtfihjjbonahahaaDkL
import Derived.Test.YtfihjjbonahahaaOpen
import Derived.Lib.Strings
namespace Go.Proofs.Ytfihjjbonahahaa
open Go.RowKit Go.Esc
set_option linter.unusedVariables false

theorem str_take (l : List UInt8) (n : Nat) : (str l).extract 0 n = str (l.take n) := by
  rw [← str_of ((str l).extract 0 n), Lib.extract_data]
  rfl

theorem str_add (x y : List UInt8) : str x ++ str y = str (x ++ y) := by
  rw [← str_of (str x ++ str y)]
  simp [str]

set_option maxRecDepth 100000 in
set_option maxHeartbeats 8000000 in
theorem cuts_walk (w : World) (aa : Option Addr) (a : List UInt8) (ac : Nat) (ba : Option Addr) (b : List UInt8) (bc : Nat) (n0 pick : Int)
    (had : Rd w aa (bs a)) (hal : a.length ≤ ac) (hac : ac ≤ maxLen) (hbd : Rd w ba (bs b)) (hbl : b.length ≤ bc) (hbc : bc ≤ maxLen) (hn0 : I64ok n0) (hpk : I64ok pick) (haz : ac ≤ 140737488351232) (hbz : bc ≤ 140737488351232) :
    Calls Try.prog 6 #[.slice aa a.length ac, .slice ba b.length bc, .int .i64 n0, .int .i64 pick] w fun e w' => e = .returned (.bool true) ∧ Ext no w w' := by
  have Hn0 := Lib.hid hn0
  have Hpk := Lib.hid hpk
  clear hn0 hpk
  clear hac hbc
  by_cases h300 : 300 < a.length + b.length
  · have d1 : decide ((300 : Int) < (a.length : Int) + b.length) = true := decT (by omega)
    go_enter Try.func6, Try.ntmps6
    go_wp2_with fail
    refine (known_any w).mono ?_
    rintro e w1 ⟨rfl, hx1⟩
    go_wp2_with fail
    go_ret
    exact ⟨rfl, hx1⟩
  have d1 : decide ((300 : Int) < (a.length : Int) + b.length) = false := decF (by omega)
  obtain ⟨n, hn⟩ : ∃ n : Nat, n0 % ((a.length : Int) + 1) = n := ⟨(n0 % ((a.length : Int) + 1)).toNat, by have := Int.emod_nonneg n0 (show (a.length : Int) + 1 ≠ 0 by omega); omega⟩
  have hnl : n ≤ a.length := by have := Int.emod_lt_of_pos n0 (show (0 : Int) < (a.length : Int) + 1 by omega); omega
  have Hn := Lib.hid hn
  clear hn
  go_enter Try.func6, Try.ntmps6
  go_wp2_with fail
  refine (known_any w).mono ?_
  rintro e w1 ⟨rfl, hx1⟩
  go_wp2_with fail
  refine (newdisk_any w1 1000 (by omega) (by omega) no).mono ?_
  rintro e w2 ⟨g, rfl, hD, hg, hx2⟩
  have hx02 := hx1.comp hx2
  have hgw : w.heap.size ≤ g := Nat.le_trans hx1.size hg
  have old : ∀ (b : Option Addr) (l : List UInt8), Rd w b (bs l) → l ≠ [] → ∀ ad, b = some ad → ad.block ≠ g := fun b l hb he ad ha => by
    obtain ⟨ad', ha', hlt⟩ := hb.ne (by rw [bs_length]; exact List.length_pos_iff.2 he)
    rw [ha] at ha'; cases ha'; omega
  have Old := Lib.hid old
  clear old
  go_wp2_with fail
  refine (append_any w2 g (DS.new 1000) no hD (fun k h => h.elim) (DS.new_ok 1000 (by omega)) aa ac a (had.ext hx02 (fun _ _ h => h)) (Old.out _ _ had) (by omega)).mono ?_
  rintro e w3 ⟨rfl, hD3, hx3⟩
  have e1 : (DS.new 1000).append a = ({ DS.new 1000 with done := 1, log := a }, 0) := by
    rw [DS.append_live rfl rfl a (by simp [DS.new]; omega)]; rfl
  rw [e1] at hD3 ⊢
  have hok3 : DS.ok { DS.new 1000 with done := 1, log := a } := ⟨by simp [DS.new], by simp [DS.new]; omega, by simp [DS.new], by simp [DS.new], by simp [DS.new], by simp⟩
  have hx03 : Ext no w w3 := hx02.trans hx3 (fun i hi h => by simp only [Esc.just] at h; omega)
  clear e1 hD hx1 hx2 hx3 hx02
  have har := had.ext hx03 (fun _ _ h => h)
  have ca : (convert 23 9 (.slice aa a.length ac)).run Try.prog w3 = .ok (.string (str a)) w3 := convStr _ _ _ _ _ rfl har
  have hcd := DS.cut_live (s := { DS.new 1000 with done := 1, log := a }) rfl rfl n hnl
  have hsz := str_size a
  go_wp2_with fail
  refine (within_any n0 ((a.length : Int) + 1) w3 (by omega) (by omega) Hn0.out).mono ?_
  rintro e w4 ⟨rfl, rfl⟩
  rw [Hn.out]
  go_upto_region 9 with fail
  go_cut [47] (fun s47 wx => s47 = .bool false ∧ Dk wx g { DS.new 1000 with done := 2, log := a.take n, synced := n } no ∧ Ext (just g) w3 wx)
  case first =>
    --<A
    refine wp_region_E [7] (fun x => True) (by kernel_rfl) ?_
    refine wpE_take 0 (v := ?_) rfl (by kernel_rfl) (by kernel_rfl) (by kernel_rfl) (fun _ _ _ h => h) trivial (by rfl) ?_ ?_
    rotate_left
    · (intro wq; go_simp; try with_reducible rfl)
    simp only [Act.put, List.setIfInBounds_toArray, List.set_cons_zero, List.set_cons_succ]
    refine wpE_take 1 (v := ?_) rfl (by kernel_rfl) (by kernel_rfl) (by kernel_rfl) (fun _ _ _ h => h) trivial (by rfl) ?_ ?_
    rotate_left
    · (intro wq; go_simp; try with_reducible rfl)
    simp only [Act.put, List.setIfInBounds_toArray, List.set_cons_zero, List.set_cons_succ]
    refine wpE_exec 2 rfl (by kernel_rfl) (by rfl) ?_
    intro K hK
    go_simp
    refine (cut_any w3.drew g { DS.new 1000 with done := 1, log := a } no (hD3.no (Ext.drew no w3)) (fun k h => h.elim) hok3 n ⟨by omega, by omega⟩).mono ?_
    rintro e w4 ⟨rfl, hD4, hx4⟩
    rw [hcd] at hD4 ⊢
    have hS1 := trivial
    refine hK _ _ (fun x => True) (.inr (fun x h => trivial)) hS1 ?_
    clear hK K
    refine wpE_take 3 (v := ?_) rfl (by kernel_rfl) (by kernel_rfl) (by kernel_rfl) (fun _ _ _ h => h) hS1 (by rfl) ?_ ?_
    rotate_left
    · (intro wq; go_simp; try with_reducible rfl)
    simp only [Act.put, List.setIfInBounds_toArray, List.set_cons_zero, List.set_cons_succ]
    refine wpE_take 4 (v := ?_) rfl (by kernel_rfl) (by kernel_rfl) (by kernel_rfl) (fun _ _ _ h => h) hS1 (by rfl) ?_ ?_
    rotate_left
    · (intro wq; go_simp; try with_reducible rfl)
    simp only [Act.put, List.setIfInBounds_toArray, List.set_cons_zero, List.set_cons_succ]
    refine wpE_take 5 (v := ?_) rfl (by kernel_rfl) (by kernel_rfl) (by kernel_rfl) (fun _ _ _ h => h) hS1 (by rfl) ?_ ?_
    rotate_left
    · (intro wq; go_simp; try with_reducible rfl)
    simp only [Act.put, List.setIfInBounds_toArray, List.set_cons_zero, List.set_cons_succ]
    refine wpE_take 8 (v := ?_) rfl (by kernel_rfl) (by kernel_rfl) (by kernel_rfl) (fun _ _ _ h => h) hS1 (by rfl) ?_ ?_
    rotate_left
    · (intro wq; go_simp; try with_reducible rfl)
    simp only [Act.put, List.setIfInBounds_toArray, List.set_cons_zero, List.set_cons_succ]
    refine wpE_take 9 (v := ?_) rfl (by kernel_rfl) (by kernel_rfl) (by kernel_rfl) (fun _ _ _ h => h) hS1 (by rfl) ?_ ?_
    rotate_left
    · (intro wq; go_simp; try with_reducible rfl)
    simp only [Act.put, List.setIfInBounds_toArray, List.set_cons_zero, List.set_cons_succ]
    refine wpE_take 10 (v := .string (str (a.take n))) rfl (by kernel_rfl) (by kernel_rfl) (by kernel_rfl) (fun _ _ _ h => h) hS1 (by rfl) (by intro wq; go_simp; rw [str_take]) ?_
    simp only [Act.put, List.setIfInBounds_toArray, List.set_cons_zero, List.set_cons_succ]
    refine wpE_exec 6 rfl (by kernel_rfl) (by rfl) ?_
    intro K hK
    go_simp
    refine (log_any' w4 g { DS.new 1000 with done := 2, log := a.take n, synced := n } no hD4 ⟨by simp [List.length_take]; omega, by simp [DS.new, List.length_take]; omega, by simp [DS.new], by simp [DS.new], by simp [DS.new], by simp⟩).mono ?_
    rintro e w5 ⟨b5, c5, rfl, ho5, hx5⟩
    have hS2 := ho5.rd
    refine hK _ _ (fun x => Rd x b5 (bs (a.take n))) (.inr (fun x h => trivial)) hS2 ?_
    clear hK K
    refine wpE_look 7 rfl rfl (by kernel_rfl) (by kernel_rfl) (by kernel_rfl) (by kernel_rfl) (fun _ _ _ h => h) hS2 (by rfl) (fun w hS => yields_string (by exact Try.underlying23) (by exact Try.underlying5) (by exact Try.underlying9) rfl rfl rfl hS) ?_
    simp only [Act.put, List.setIfInBounds_toArray, List.set_cons_zero, List.set_cons_succ]
    refine wpE_take 11 (v := .bool false) rfl (by kernel_rfl) (by kernel_rfl) (by kernel_rfl) (fun _ _ _ h => h) hS2 (by rfl) (by intro wq; go_simp) ?_
    simp only [Act.put, List.setIfInBounds_toArray, List.set_cons_zero, List.set_cons_succ]
    refine wpE_take 12 (v := ?_) rfl (by kernel_rfl) (by kernel_rfl) (by kernel_rfl) (fun _ _ _ h => h) hS2 (by rfl) ?_ ?_
    rotate_left
    · (intro wq; go_simp; try with_reducible rfl)
    simp only [Act.put, List.setIfInBounds_toArray, List.set_cons_zero, List.set_cons_succ]
    refine wpE_done (by kernel_rfl) ?_ _
    go_wp2_with fail
    go_meet
    exact ⟨rfl, hD4.no hx5, ((Ext.drew _ w3).comp hx4).comp (hx5.mono (fun _ _ h => h.elim))⟩
    -->A
  case rest =>
    obtain ⟨e47, hD4, hx4⟩ := hcut
    subst e47
    have hx04 : Ext no w wc := hx03.trans hx4 (fun i hi h => by simp only [Esc.just] at h; omega)
    have hbr := hbd.ext hx04 (fun _ _ h => h)
    obtain ⟨S4, hS⟩ : ∃ S, S = ({ DS.new 1000 with done := 2, log := a.take n, synced := n } : DS) := ⟨_, rfl⟩
    rw [← hS] at hD4
    have hok4 : S4.ok := by rw [hS]; exact ⟨by simp [List.length_take]; omega, by simp [DS.new, List.length_take]; omega, by simp [DS.new], by simp [DS.new], by simp [DS.new], by simp⟩
    have e2 : S4.append b = ({ S4 with done := S4.done + 1, log := a.take n ++ b }, 0) := by rw [DS.append_live (by rw [hS]; rfl) (by rw [hS]; rfl) b (by rw [hS]; simp [DS.new, List.length_take]; omega), hS]
    have g1 : S4.synced = n := by rw [hS]
    have hok5 : (S4.append b).1.ok := (DS.ok_append hok4 (by rw [hS]; simp) b).1
    clear hS hx4 hx03 hD3 hok3 hcd ca har
    go_wp2_with fail
    refine (append_any wc g S4 no hD4 (fun k h => h.elim) hok4 ba bc b hbr (Old.out _ _ hbd) (by omega)).mono ?_
    rintro e w5 ⟨rfl, hD5, hx5⟩
    rw [e2] at hD5 hok5 ⊢
    obtain ⟨S5, hS⟩ : ∃ S, S = ({ S4 with done := S4.done + 1, log := a.take n ++ b } : DS) := ⟨_, rfl⟩
    rw [← hS] at hD5 hok5
    have l5 : S5.log = a.take n ++ b := by rw [hS]
    have s5 : S5.synced = n := by rw [hS]; exact g1
    have hx05 : Ext no w w5 := hx04.trans hx5 (fun i hi h => by simp only [Esc.just] at h; omega)
    clear hS e2 g1 hok4 hD4 hx5 hx04 hbr
    go_wp2_with fail
    refine (crash_any w5 g S5 no hD5 (fun k h => h.elim) hok5 pick Hpk.out).mono ?_
    rintro e w6 ⟨rfl, hD6, hx6⟩
    have hok6 := DS.ok_crash hok5 pick
    have hKle := S5.keeps_le pick
    have hlog6 : (S5.crash pick).log = a.take n ++ b.take (S5.keeps pick) := by
      simp only [DS.crash, l5, s5]
      rw [List.take_append]
      simp only [List.length_take, Nat.min_eq_left hnl, Nat.add_sub_cancel_left]
      rw [List.take_of_length_le (by rw [List.length_take]; omega)]
    generalize S5.crash pick = S6 at *
    have hKb : S5.keeps pick ≤ b.length := by rw [l5, s5, List.length_append, List.length_take] at hKle; omega
    generalize S5.keeps pick = Kp at *
    have hx06 : Ext no w w6 := hx05.trans hx6 (fun i hi h => by simp only [Esc.just] at h; omega)
    clear hD5 hx6 hx05 hKle l5 s5 hok5
    have Hbt := Lib.hid (show Kp = (b.take Kp).length by rw [List.length_take]; omega)
    have hS0 := (hbd.ext hx06 (fun _ _ h => h)).ext (Ext.drew no w6) (fun _ _ h => h)
    have hlb : decide ((Kp : Int) ≤ b.length) = true := decT (by omega)
    go_upto_region 13 with fail
    --<B
    refine wp_region_E [11, 18] (fun x => Rd x ba (bs b)) (by kernel_rfl) ?_
    refine wpE_take 0 (v := ?_) rfl (by kernel_rfl) (by kernel_rfl) (by kernel_rfl) (fun _ _ _ h => h) hS0 (by rfl) ?_ ?_
    rotate_left
    · (intro wq; go_simp; try with_reducible rfl)
    simp only [Act.put, List.setIfInBounds_toArray, List.set_cons_zero, List.set_cons_succ]
    refine wpE_take 1 (v := ?_) rfl (by kernel_rfl) (by kernel_rfl) (by kernel_rfl) (fun _ _ _ h => h) hS0 (by rfl) ?_ ?_
    rotate_left
    · (intro wq; go_simp; try with_reducible rfl)
    simp only [Act.put, List.setIfInBounds_toArray, List.set_cons_zero, List.set_cons_succ]
    refine wpE_take 2 (v := ?_) rfl (by kernel_rfl) (by kernel_rfl) (by kernel_rfl) (fun _ _ _ h => h) hS0 (by rfl) ?_ ?_
    rotate_left
    · (intro wq; go_simp; try with_reducible rfl)
    simp only [Act.put, List.setIfInBounds_toArray, List.set_cons_zero, List.set_cons_succ]
    refine wpE_take 3 (v := ?_) rfl (by kernel_rfl) (by kernel_rfl) (by kernel_rfl) (fun _ _ _ h => h) hS0 (by rfl) ?_ ?_
    rotate_left
    · (intro wq; go_simp; try with_reducible rfl)
    simp only [Act.put, List.setIfInBounds_toArray, List.set_cons_zero, List.set_cons_succ]
    refine wpE_take 4 (v := ?_) rfl (by kernel_rfl) (by kernel_rfl) (by kernel_rfl) (fun _ _ _ h => h) hS0 (by rfl) ?_ ?_
    rotate_left
    · (intro wq; go_simp; try with_reducible rfl)
    simp only [Act.put, List.setIfInBounds_toArray, List.set_cons_zero, List.set_cons_succ]
    refine wpE_take 5 (v := ?_) rfl (by kernel_rfl) (by kernel_rfl) (by kernel_rfl) (fun _ _ _ h => h) hS0 (by rfl) ?_ ?_
    rotate_left
    · (intro wq; go_simp; try with_reducible rfl)
    simp only [Act.put, List.setIfInBounds_toArray, List.set_cons_zero, List.set_cons_succ]
    refine wpE_take 6 (v := ?_) rfl (by kernel_rfl) (by kernel_rfl) (by kernel_rfl) (fun _ _ _ h => h) hS0 (by rfl) ?_ ?_
    rotate_left
    · (intro wq; go_simp; try with_reducible rfl)
    simp only [Act.put, List.setIfInBounds_toArray, List.set_cons_zero, List.set_cons_succ]
    refine wpE_take 7 (v := ?_) rfl (by kernel_rfl) (by kernel_rfl) (by kernel_rfl) (fun _ _ _ h => h) hS0 (by rfl) ?_ ?_
    rotate_left
    · (intro wq; go_simp; try with_reducible rfl)
    simp only [Act.put, List.setIfInBounds_toArray, List.set_cons_zero, List.set_cons_succ]
    refine wpE_take 8 (v := ?_) rfl (by kernel_rfl) (by kernel_rfl) (by kernel_rfl) (fun _ _ _ h => h) hS0 (by rfl) ?_ ?_
    rotate_left
    · (intro wq; go_simp; try with_reducible rfl)
    simp only [Act.put, List.setIfInBounds_toArray, List.set_cons_zero, List.set_cons_succ]
    refine wpE_take 9 (v := ?_) rfl (by kernel_rfl) (by kernel_rfl) (by kernel_rfl) (fun _ _ _ h => h) hS0 (by rfl) ?_ ?_
    rotate_left
    · (intro wq; go_simp; try with_reducible rfl)
    simp only [Act.put, List.setIfInBounds_toArray, List.set_cons_zero, List.set_cons_succ]
    refine wpE_take 12 (v := ?_) rfl (by kernel_rfl) (by kernel_rfl) (by kernel_rfl) (fun _ _ _ h => h) hS0 (by rfl) ?_ ?_
    rotate_left
    · (intro wq; go_simp; try with_reducible rfl)
    simp only [Act.put, List.setIfInBounds_toArray, List.set_cons_zero, List.set_cons_succ]
    refine wpE_take 13 (v := ?_) rfl (by kernel_rfl) (by kernel_rfl) (by kernel_rfl) (fun _ _ _ h => h) hS0 (by rfl) ?_ ?_
    rotate_left
    · (intro wq; go_simp; try with_reducible rfl)
    simp only [Act.put, List.setIfInBounds_toArray, List.set_cons_zero, List.set_cons_succ]
    refine wpE_take 14 (v := .string (str (a.take n))) rfl (by kernel_rfl) (by kernel_rfl) (by kernel_rfl) (fun _ _ _ h => h) hS0 (by rfl) (by intro wq; go_simp; rw [str_take]) ?_
    simp only [Act.put, List.setIfInBounds_toArray, List.set_cons_zero, List.set_cons_succ]
    refine wpE_take 15 (v := ?_) rfl (by kernel_rfl) (by kernel_rfl) (by kernel_rfl) (fun _ _ _ h => h) hS0 (by rfl) ?_ ?_
    rotate_left
    · (intro wq; go_simp; try with_reducible rfl)
    simp only [Act.put, List.setIfInBounds_toArray, List.set_cons_zero, List.set_cons_succ]
    refine wpE_take 16 (v := ?_) rfl (by kernel_rfl) (by kernel_rfl) (by kernel_rfl) (fun _ _ _ h => h) hS0 (by rfl) ?_ ?_
    rotate_left
    · (intro wq; go_simp; try with_reducible rfl)
    simp only [Act.put, List.setIfInBounds_toArray, List.set_cons_zero, List.set_cons_succ]
    refine wpE_take 17 (v := .slice ba Kp bc) rfl (by kernel_rfl) (by kernel_rfl) (by kernel_rfl) (fun _ _ _ h => h) hS0 (by rfl) (by intro wq; exact yields_cut_h TBytes rfl rfl rfl Kp rfl (by omega)) ?_
    simp only [Act.put, List.setIfInBounds_toArray, List.set_cons_zero, List.set_cons_succ]
    refine wpE_look 18 rfl rfl (by kernel_rfl) (by kernel_rfl) (by kernel_rfl) (by kernel_rfl) (fun _ _ _ h => h) hS0 (by rfl) (fun w hS => yields_string (l := b.take Kp) (by exact Try.underlying23) (by exact Try.underlying5) (by exact Try.underlying9) rfl rfl Hbt.out (by rw [← bs_take]; exact hS.take Kp)) ?_
    simp only [Act.put, List.setIfInBounds_toArray, List.set_cons_zero, List.set_cons_succ]
    refine wpE_take 19 (v := .string (str (a.take n ++ b.take Kp))) rfl (by kernel_rfl) (by kernel_rfl) (by kernel_rfl) (fun _ _ _ h => h) hS0 (by rfl) (by intro wq; go_simp; rw [if_neg (by rw [str_size, str_size, List.length_take, List.length_take]; omega), str_add]) ?_
    simp only [Act.put, List.setIfInBounds_toArray, List.set_cons_zero, List.set_cons_succ]
    refine wpE_exec 10 rfl (by kernel_rfl) (by rfl) ?_
    intro K hK
    go_simp
    refine (log_any' w6.drew g S6 no (hD6.no (Ext.drew no w6)) hok6).mono ?_
    rintro e w7 ⟨b7, c7, rfl, ho7, hx7⟩
    rw [hlog6] at ho7 ⊢
    have hS2 := And.intro (hS0.ext hx7 (fun _ _ h => h)) ho7.rd
    refine hK _ _ (fun x => Rd x ba (bs b) ∧ Rd x b7 (bs (a.take n ++ b.take Kp))) (.inr (fun x h => h.1)) hS2 ?_
    clear hK K
    refine wpE_look 11 rfl rfl (by kernel_rfl) (by kernel_rfl) (by kernel_rfl) (by kernel_rfl) (fun _ _ _ h => h) hS2 (by rfl) (fun w hS => yields_string (by exact Try.underlying23) (by exact Try.underlying5) (by exact Try.underlying9) rfl rfl rfl hS.2) ?_
    simp only [Act.put, List.setIfInBounds_toArray, List.set_cons_zero, List.set_cons_succ]
    refine wpE_take 20 (v := .bool true) rfl (by kernel_rfl) (by kernel_rfl) (by kernel_rfl) (fun _ _ _ h => h) hS2 (by rfl) (by intro wq; go_simp) ?_
    simp only [Act.put, List.setIfInBounds_toArray, List.set_cons_zero, List.set_cons_succ]
    refine wpE_take 21 (v := ?_) rfl (by kernel_rfl) (by kernel_rfl) (by kernel_rfl) (fun _ _ _ h => h) hS2 (by rfl) ?_ ?_
    rotate_left
    · (intro wq; go_simp; try with_reducible rfl)
    simp only [Act.put, List.setIfInBounds_toArray, List.set_cons_zero, List.set_cons_succ]
    refine wpE_take 22 (v := ?_) rfl (by kernel_rfl) (by kernel_rfl) (by kernel_rfl) (fun _ _ _ h => h) hS2 (by rfl) ?_ ?_
    rotate_left
    · (intro wq; go_simp; try with_reducible rfl)
    simp only [Act.put, List.setIfInBounds_toArray, List.set_cons_zero, List.set_cons_succ]
    refine wpE_done (by kernel_rfl) ?_ _
    go_wp2_with fail
    go_ret
    exact ⟨rfl, (hx06.comp (Ext.drew no w6)).comp hx7⟩
    -->B
end Go.Proofs.Ytfihjjbonahahaa
