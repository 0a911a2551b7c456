/- The walk of the law CodeTexts. -/
import Derived.Test.YtnplelcnigpemaaCodeI
import Derived.Test.YtnplelcnigpemaaPlainC
import Derived.Test.YtnplelcnigpemaaLawA
import Derived.Test.YtnplelcnigpemaaRegionB
import Derived.Deep.DeepCutAuto
namespace Go.Proofs.Ytnplelcnigpemaa
open Go.RowKit Go.Esc
set_option linter.unusedVariables false

theorem _root_.Go.Esc.Ext.no0 {g : Nat} {w w' w0 : World} (hx : Ext (just g) w0 w') (h : w.heap.size ≤ g) (h0 : Ext no w w0) : Ext no w w' := h0.trans hx (fun i hi h => by simp only [Esc.just] at h; omega)

set_option maxHeartbeats 2000000 in
theorem texts_walk (w : World) (a : Option Addr) (l : List UInt8) (c : Nat) (n : Int) (hrd : Rd w a (bs l)) (hlc : l.length ≤ c) (hc : c ≤ maxLen) (hn : I64ok n) :
    Calls Try.prog 7 #[.slice a l.length c, .int .i64 n] w fun e w' => e = .returned (.bool true) ∧ Ext no w w' := by
  have Hn := Lib.hid hn
  clear hn
  go_enter Try.func7, Try.ntmps7
  go_wp2_with fail
  refine (known_any w).mono ?_
  rintro e w1 ⟨rfl, hext1⟩
  have hrd1 := hrd.ext hext1 (fun _ _ h => h)
  clear hrd
  by_cases hb : 300 < l.length
  · go_wp2_with fail
    go_ret
    exact ⟨rfl, hext1⟩
  have hl2 : l.length ≤ 300 := by omega
  go_wp2_with (with_reducible show wpList _ _ _ _ _ _; refine wpList_string_of (by exact Try.underlying24) (by exact Try.underlying5) (by exact Try.underlying9) rfl rfl rfl rfl hrd1 ?_)
  refine (text_any w1 none 0 [] l (Rd.nil _ _) (by simp) (by omega)).mono ?_
  rintro e w2 ⟨a2, c2, rfl, hown2, hx2⟩
  rw [List.nil_append] at hown2 ⊢
  obtain ⟨hd, hhd⟩ : ∃ hd, hd = (encI l.length).length := ⟨_, rfl⟩
  have hd10 : hd ≤ 10 := by rw [hhd]; exact (encI_length _ ⟨by omega, by omega⟩).1
  have hXl : (encT l).length = hd + l.length := by rw [hhd]; simp [encT]
  have hXd : (encT l).drop hd = l := by rw [hhd]; unfold encT; exact List.drop_left
  obtain ⟨M, hM⟩ : ∃ M, M = encT l ++ encI n := ⟨_, rfl⟩
  obtain ⟨en, hen⟩ : ∃ en, en = encI n := ⟨_, rfl⟩
  have HT := Lib.hid (show rText ⟨M, 0⟩ = (l, ⟨en, 0⟩) by rw [hM, hen]; exact rText_enc l (by omega) _)
  have HI := Lib.hid (show rInt ⟨en, 0⟩ = (n, ⟨[], 0⟩) by have := rInt_enc n Hn.out []; rwa [List.append_nil, ← hen] at this)
  have hMl : M.length ≤ 330 := by rw [hM, List.length_append, hXl]; have := (encI_length n Hn.out).1; omega
  have Hhd := Lib.hid hhd
  have HM := Lib.hid (show encT l ++ en = M by rw [hM, hen])
  have Hen := Lib.hid hen
  clear hhd hM hen
  generalize encT l = X at *
  have HX := Lib.hid hXl
  have HD := Lib.hid hXd
  clear hXl hXd
  go_wp2_with fail
  refine (int_any w2 none 0 [] l.length (Rd.nil _ _) (by simp) ⟨by omega, by omega⟩).mono ?_
  rintro e w3 ⟨a3, c3, rfl, _, hx3⟩
  rw [List.nil_append, ← Hhd.out]
  have hrd3 := (hrd1.ext hx2 (fun _ _ h => h)).ext hx3 (fun _ _ h => h)
  have hown3 := hown2.ext hx3 (fun _ _ h => h)
  have hx03 := (hext1.comp hx2).comp hx3
  clear hrd1 hown2 hext1 hx2 hx3
  have hz : Own (w3.alloc (.cells #[] 5)) w3.heap.size (some ⟨w3.heap.size, 0, none⟩) 1 0 0 [] := Own.fresh w3 _ _ _ _ _ _ _ _ (Nat.le_refl _) (by simp) (Nat.le_refl _) (Nat.zero_le _) (by simp) (by simp) (.inl (Nat.le_refl _))
  have hXl : X.length ≤ 310 := by have := HX.out; omega
  go_wp2_with (at_builtin; refine wpList_append TBytes rfl rfl rfl hz rfl (hown3.rd.alloc _) (by simp) (bs_one _) ?c1 ?c2 (by simp) ?_)
  case c1 => unfold maxLen; omega
  case c2 => omega
  intro a4 c4 w4 happ
  have hx34 : Ext no w3 w4 := Ext.ofBelow (((Below.refl _ _).alloc (Nat.le_refl _) _).trans (hz.below happ.ext (by simp))) (Nat.le_refl _)
  have hown4 := happ.own
  rw [Nat.zero_add, List.nil_append] at hown4
  clear happ hz
  go_wp2_with fail
  refine (int_any w4 none 0 [] n (Rd.nil _ _) (by simp) Hn.out).mono ?_
  rintro e w5 ⟨a5, c5, rfl, hown5, hx5⟩
  rw [List.nil_append, ← Hen.out] at hown5 ⊢
  have henl : en.length ≤ 10 := by rw [Hen.out]; exact (encI_length n Hn.out).1
  have hown4' := hown4.ext hx5 (fun _ _ h => h)
  have hs34 := hx34.size
  have hs45 := hx5.size
  go_wp2_with (at_builtin; refine wpList_append TBytes rfl rfl rfl hown4' rfl hown5.rd (by simp) (bs_one _) ?d1 ?d2 (by omega) ?_)
  case d1 => unfold maxLen; omega
  case d2 => omega
  intro a6 c6 w6 happ
  have hx46 : Ext no w3 w6 := Ext.ofBelow ((hx34.comp hx5).belowAll.trans (hown4'.below happ.ext (by omega))) (Nat.le_refl _)
  have hown6 := happ.own
  rw [← bs_append, HM.out] at hown6
  have hMM : X.length + en.length = M.length := by rw [← HM.out]; simp
  clear happ hown4 hown5 hown4' hx5 hs45 hx34 hs34
  go_wp2_with fail
  rw [hMM]
  rw [hMM] at hown6
  refine (new_any w6 a6 c6 M hown6.rd (by omega)).mono ?_
  rintro e w7 ⟨g, d, rfl, hr7, hg7, hd7, hx7⟩
  have hx37 := hx46.comp hx7
  have hx07 := hx03.comp hx37
  have hx3d := hx37.comp (Ext.drew no _)
  have hrda := hrd3
  have hrdx := hown3.rd
  have hrdc : Rd w3 (cutAt a2 c2 hd 1) (bs l) := by
    have := hrdx.cutAt c2 hd 1 (fun e => by rw [bs_length]; have := HX.out; have := hown3.nc; omega)
    rwa [Nat.mul_one, bs_drop, HD.out] at this
  have hg3 : w3.heap.size ≤ g := Nat.le_trans hx46.size hg7
  have hgs : w.heap.size ≤ g := Nat.le_trans hx03.size hg3
  have HL := Lib.hid (show X.length - hd = l.length by have := HX.out; omega)
  have hb6 : ((X.length : Int) == (hd : Int) + (l.length : Int)) = true := by rw [beq_iff_eq]; have := HX.out; omega
  have hXc := hown3.nc
  have hXge : hd ≤ X.length := by have := HX.out; omega
  clear hXl hMM hown6 hrd3 hown3 hx46 hx37 hx7
  go_upto_region 8 with fail
  have hS0 := And.intro (hrda.ext hx3d (fun _ _ h => h)) (And.intro (hrdx.ext hx3d (fun _ _ h => h)) (hrdc.ext hx3d (fun _ _ h => h)))
  have hxg : Ext (just g) w7.drew w7.drew := Ext.refl _ _
  --<A
  refine wp_region_E [11, 13, 20] (fun x => Rd x a (bs l) ∧ Rd x a2 (bs X) ∧ Rd x (cutAt a2 c2 hd 1) (bs l)) (by kernel_rfl) ?_
  refine wpE_take 0 (v := ?_) rfl (by kernel_rfl) (by kernel_rfl) (by kernel_rfl) (fun _ _ _ h => h) hS0 (by rfl) ?_ ?_
  rotate_left
  · (intro wq; go_simp; try with_reducible rfl)
  simp only [Act.put, List.setIfInBounds_toArray, List.set_cons_zero, List.set_cons_succ]
  refine wpE_take 1 (v := ?_) rfl (by kernel_rfl) (by kernel_rfl) (by kernel_rfl) (fun _ _ _ h => h) hS0 (by rfl) ?_ ?_
  rotate_left
  · (intro wq; go_simp; try with_reducible rfl)
  simp only [Act.put, List.setIfInBounds_toArray, List.set_cons_zero, List.set_cons_succ]
  refine wpE_take 2 (v := ?_) rfl (by kernel_rfl) (by kernel_rfl) (by kernel_rfl) (fun _ _ _ h => h) hS0 (by rfl) ?_ ?_
  rotate_left
  · (intro wq; go_simp; try with_reducible rfl)
  simp only [Act.put, List.setIfInBounds_toArray, List.set_cons_zero, List.set_cons_succ]
  refine wpE_take 3 (v := ?_) rfl (by kernel_rfl) (by kernel_rfl) (by kernel_rfl) (fun _ _ _ h => h) hS0 (by rfl) ?_ ?_
  rotate_left
  · (intro wq; go_simp; try with_reducible rfl)
  simp only [Act.put, List.setIfInBounds_toArray, List.set_cons_zero, List.set_cons_succ]
  refine wpE_take 4 (v := ?_) rfl (by kernel_rfl) (by kernel_rfl) (by kernel_rfl) (fun _ _ _ h => h) hS0 (by rfl) ?_ ?_
  rotate_left
  · (intro wq; go_simp; try with_reducible rfl)
  simp only [Act.put, List.setIfInBounds_toArray, List.set_cons_zero, List.set_cons_succ]
  refine wpE_take 5 (v := ?_) rfl (by kernel_rfl) (by kernel_rfl) (by kernel_rfl) (fun _ _ _ h => h) hS0 (by rfl) ?_ ?_
  rotate_left
  · (intro wq; go_simp; try with_reducible rfl)
  simp only [Act.put, List.setIfInBounds_toArray, List.set_cons_zero, List.set_cons_succ]
  refine wpE_take 6 (v := .bool true) rfl (by kernel_rfl) (by kernel_rfl) (by kernel_rfl) (fun _ _ _ h => h) hS0 (by rfl) (by intro wq; go_simp; rw [IntKind.wrap_i64]; have := HX.out; omega) ?_
  simp only [Act.put, List.setIfInBounds_toArray, List.set_cons_zero, List.set_cons_succ]
  refine wpE_take 7 (v := ?_) rfl (by kernel_rfl) (by kernel_rfl) (by kernel_rfl) (fun _ _ _ h => h) hS0 (by rfl) ?_ ?_
  rotate_left
  · (intro wq; go_simp; try with_reducible rfl)
  simp only [Act.put, List.setIfInBounds_toArray, List.set_cons_zero, List.set_cons_succ]
  refine wpE_take 8 (v := ?_) rfl (by kernel_rfl) (by kernel_rfl) (by kernel_rfl) (fun _ _ _ h => h) hS0 (by rfl) ?_ ?_
  rotate_left
  · (intro wq; go_simp; try with_reducible rfl)
  simp only [Act.put, List.setIfInBounds_toArray, List.set_cons_zero, List.set_cons_succ]
  refine wpE_take 9 (v := ?_) rfl (by kernel_rfl) (by kernel_rfl) (by kernel_rfl) (fun _ _ _ h => h) hS0 (by rfl) ?_ ?_
  rotate_left
  · (intro wq; go_simp; try with_reducible rfl)
  simp only [Act.put, List.setIfInBounds_toArray, List.set_cons_zero, List.set_cons_succ]
  refine wpE_take 10 (v := .slice (cutAt a2 c2 hd 1) (X.length - hd) (c2 - hd)) rfl (by kernel_rfl) (by kernel_rfl) (by kernel_rfl) (fun _ _ _ h => h) hS0 (by rfl) (fun _ => yields_cut_l TBytes rfl rfl rfl hd rfl (by omega)) ?_
  simp only [Act.put, List.setIfInBounds_toArray, List.set_cons_zero, List.set_cons_succ]
  refine wpE_look 11 rfl rfl (by kernel_rfl) (by kernel_rfl) (by kernel_rfl) (by kernel_rfl) (fun _ _ _ h => h) hS0 (by rfl) (fun w hS => yields_string (by exact Try.underlying24) (by exact Try.underlying5) (by exact Try.underlying9) rfl rfl (HL.out) (hS.2.2)) ?_
  simp only [Act.put, List.setIfInBounds_toArray, List.set_cons_zero, List.set_cons_succ]
  refine wpE_take 12 (v := ?_) rfl (by kernel_rfl) (by kernel_rfl) (by kernel_rfl) (fun _ _ _ h => h) hS0 (by rfl) ?_ ?_
  rotate_left
  · (intro wq; go_simp; try with_reducible rfl)
  simp only [Act.put, List.setIfInBounds_toArray, List.set_cons_zero, List.set_cons_succ]
  refine wpE_look 13 rfl rfl (by kernel_rfl) (by kernel_rfl) (by kernel_rfl) (by kernel_rfl) (fun _ _ _ h => h) hS0 (by rfl) (fun w hS => yields_string (by exact Try.underlying24) (by exact Try.underlying5) (by exact Try.underlying9) rfl rfl (rfl) (hS.1)) ?_
  simp only [Act.put, List.setIfInBounds_toArray, List.set_cons_zero, List.set_cons_succ]
  refine wpE_take 14 (v := ?_) rfl (by kernel_rfl) (by kernel_rfl) (by kernel_rfl) (fun _ _ _ h => h) hS0 (by rfl) ?_ ?_
  rotate_left
  · (intro wq; go_simp; try with_reducible rfl)
  simp only [Act.put, List.setIfInBounds_toArray, List.set_cons_zero, List.set_cons_succ]
  refine wpE_take 15 (v := ?_) rfl (by kernel_rfl) (by kernel_rfl) (by kernel_rfl) (fun _ _ _ h => h) hS0 (by rfl) ?_ ?_
  rotate_left
  · (intro wq; go_simp; try with_reducible rfl)
  simp only [Act.put, List.setIfInBounds_toArray, List.set_cons_zero, List.set_cons_succ]
  refine wpE_take 16 (v := ?_) rfl (by kernel_rfl) (by kernel_rfl) (by kernel_rfl) (fun _ _ _ h => h) hS0 (by rfl) ?_ ?_
  rotate_left
  · (intro wq; go_simp; try with_reducible rfl)
  simp only [Act.put, List.setIfInBounds_toArray, List.set_cons_zero, List.set_cons_succ]
  refine wpE_take 17 (v := ?_) rfl (by kernel_rfl) (by kernel_rfl) (by kernel_rfl) (fun _ _ _ h => h) hS0 (by rfl) ?_ ?_
  rotate_left
  · (intro wq; go_simp; try with_reducible rfl)
  simp only [Act.put, List.setIfInBounds_toArray, List.set_cons_zero, List.set_cons_succ]
  refine wpE_take 19 (v := ?_) rfl (by kernel_rfl) (by kernel_rfl) (by kernel_rfl) (fun _ _ _ h => h) hS0 (by rfl) ?_ ?_
  rotate_left
  · (intro wq; go_simp; try with_reducible rfl)
  simp only [Act.put, List.setIfInBounds_toArray, List.set_cons_zero, List.set_cons_succ]
  refine wpE_look 20 rfl rfl (by kernel_rfl) (by kernel_rfl) (by kernel_rfl) (by kernel_rfl) (fun _ _ _ h => h) hS0 (by rfl) (fun w hS => yields_string (by exact Try.underlying24) (by exact Try.underlying5) (by exact Try.underlying9) rfl rfl (rfl) (hS.1)) ?_
  simp only [Act.put, List.setIfInBounds_toArray, List.set_cons_zero, List.set_cons_succ]
  refine wpE_exec 18 rfl (by kernel_rfl) (by rfl) ?_
  intro K hK
  go_simp
  refine (rdText_any _ g ⟨M, 0⟩ (hr7.no (Ext.drew no _))).mono ?_
  rintro e w8 ⟨rfl, hr8, hx⟩
  rw [HT.out] at hr8 ⊢
  have hxn := hxg.comp hx
  clear hxg
  have hxg := hxn
  clear hxn
  have hS1 := And.intro (hrda.ext (hxg.no0 hg3 hx3d) (fun _ _ h => h)) (And.intro (hrdx.ext (hxg.no0 hg3 hx3d) (fun _ _ h => h)) (hrdc.ext (hxg.no0 hg3 hx3d) (fun _ _ h => h)))
  refine hK _ _ (fun x => Rd x a (bs l) ∧ Rd x a2 (bs X) ∧ Rd x (cutAt a2 c2 hd 1) (bs l)) (.inr (fun x h => h)) hS1 ?_
  clear hK K
  refine wpE_take 21 (v := ?_) rfl (by kernel_rfl) (by kernel_rfl) (by kernel_rfl) (fun _ _ _ h => h) hS1 (by rfl) ?_ ?_
  rotate_left
  · (intro wq; go_simp; try with_reducible rfl)
  simp only [Act.put, List.setIfInBounds_toArray, List.set_cons_zero, List.set_cons_succ]
  refine wpE_take 22 (v := ?_) rfl (by kernel_rfl) (by kernel_rfl) (by kernel_rfl) (fun _ _ _ h => h) hS1 (by rfl) ?_ ?_
  rotate_left
  · (intro wq; go_simp; try with_reducible rfl)
  simp only [Act.put, List.setIfInBounds_toArray, List.set_cons_zero, List.set_cons_succ]
  refine wpE_take 23 (v := ?_) rfl (by kernel_rfl) (by kernel_rfl) (by kernel_rfl) (fun _ _ _ h => h) hS1 (by rfl) ?_ ?_
  rotate_left
  · (intro wq; go_simp; try with_reducible rfl)
  simp only [Act.put, List.setIfInBounds_toArray, List.set_cons_zero, List.set_cons_succ]
  refine wpE_take 24 (v := ?_) rfl (by kernel_rfl) (by kernel_rfl) (by kernel_rfl) (fun _ _ _ h => h) hS1 (by rfl) ?_ ?_
  rotate_left
  · (intro wq; go_simp; try with_reducible rfl)
  simp only [Act.put, List.setIfInBounds_toArray, List.set_cons_zero, List.set_cons_succ]
  refine wpE_take 26 (v := ?_) rfl (by kernel_rfl) (by kernel_rfl) (by kernel_rfl) (fun _ _ _ h => h) hS1 (by rfl) ?_ ?_
  rotate_left
  · (intro wq; go_simp; try with_reducible rfl)
  simp only [Act.put, List.setIfInBounds_toArray, List.set_cons_zero, List.set_cons_succ]
  refine wpE_exec 25 rfl (by kernel_rfl) (by rfl) ?_
  intro K hK
  go_simp
  refine (rdInt_any _ g ⟨en, 0⟩ hr8).mono ?_
  rintro e w9 ⟨rfl, hr9, hx⟩
  rw [HI.out] at hr9 ⊢
  have hxn := hxg.comp hx
  clear hxg
  have hxg := hxn
  clear hxn
  have hS2 := And.intro (hrda.ext (hxg.no0 hg3 hx3d) (fun _ _ h => h)) (And.intro (hrdx.ext (hxg.no0 hg3 hx3d) (fun _ _ h => h)) (hrdc.ext (hxg.no0 hg3 hx3d) (fun _ _ h => h)))
  refine hK _ _ (fun x => Rd x a (bs l) ∧ Rd x a2 (bs X) ∧ Rd x (cutAt a2 c2 hd 1) (bs l)) (.inr (fun x h => h)) hS2 ?_
  clear hK K
  refine wpE_take 27 (v := ?_) rfl (by kernel_rfl) (by kernel_rfl) (by kernel_rfl) (fun _ _ _ h => h) hS2 (by rfl) ?_ ?_
  rotate_left
  · (intro wq; go_simp; try with_reducible rfl)
  simp only [Act.put, List.setIfInBounds_toArray, List.set_cons_zero, List.set_cons_succ]
  refine wpE_take 28 (v := ?_) rfl (by kernel_rfl) (by kernel_rfl) (by kernel_rfl) (fun _ _ _ h => h) hS2 (by rfl) ?_ ?_
  rotate_left
  · (intro wq; go_simp; try with_reducible rfl)
  simp only [Act.put, List.setIfInBounds_toArray, List.set_cons_zero, List.set_cons_succ]
  refine wpE_take 29 (v := ?_) rfl (by kernel_rfl) (by kernel_rfl) (by kernel_rfl) (fun _ _ _ h => h) hS2 (by rfl) ?_ ?_
  rotate_left
  · (intro wq; go_simp; try with_reducible rfl)
  simp only [Act.put, List.setIfInBounds_toArray, List.set_cons_zero, List.set_cons_succ]
  refine wpE_take 30 (v := ?_) rfl (by kernel_rfl) (by kernel_rfl) (by kernel_rfl) (fun _ _ _ h => h) hS2 (by rfl) ?_ ?_
  rotate_left
  · (intro wq; go_simp; try with_reducible rfl)
  simp only [Act.put, List.setIfInBounds_toArray, List.set_cons_zero, List.set_cons_succ]
  refine wpE_exec 31 rfl (by kernel_rfl) (by rfl) ?_
  intro K hK
  go_simp
  refine (end_any _ g ⟨[], 0⟩ hr9).mono ?_
  rintro e w10 ⟨rfl, he⟩
  subst he
  have hx := Ext.refl (just g) w9
  have hxn := hxg.comp hx
  clear hxg
  have hxg := hxn
  clear hxn
  have hS3 := And.intro (hrda.ext (hxg.no0 hg3 hx3d) (fun _ _ h => h)) (And.intro (hrdx.ext (hxg.no0 hg3 hx3d) (fun _ _ h => h)) (hrdc.ext (hxg.no0 hg3 hx3d) (fun _ _ h => h)))
  refine hK _ _ (fun x => Rd x a (bs l) ∧ Rd x a2 (bs X) ∧ Rd x (cutAt a2 c2 hd 1) (bs l)) (.inr (fun x h => h)) hS3 ?_
  clear hK K
  refine wpE_take 32 (v := ?_) rfl (by kernel_rfl) (by kernel_rfl) (by kernel_rfl) (fun _ _ _ h => h) hS3 (by rfl) ?_ ?_
  rotate_left
  · (intro wq; go_simp; try with_reducible rfl)
  simp only [Act.put, List.setIfInBounds_toArray, List.set_cons_zero, List.set_cons_succ]
  refine wpE_take 33 (v := ?_) rfl (by kernel_rfl) (by kernel_rfl) (by kernel_rfl) (fun _ _ _ h => h) hS3 (by rfl) ?_ ?_
  rotate_left
  · (intro wq; go_simp; try with_reducible rfl)
  simp only [Act.put, List.setIfInBounds_toArray, List.set_cons_zero, List.set_cons_succ]
  refine wpE_take 34 (v := ?_) rfl (by kernel_rfl) (by kernel_rfl) (by kernel_rfl) (fun _ _ _ h => h) hS3 (by rfl) ?_ ?_
  rotate_left
  · (intro wq; go_simp; try with_reducible rfl)
  simp only [Act.put, List.setIfInBounds_toArray, List.set_cons_zero, List.set_cons_succ]
  refine wpE_done (by kernel_rfl) ?_ _
  go_wp2_with fail
  go_ret
  exact ⟨rfl, hxg.no0 hgs (hx07.comp (Ext.drew no _))⟩
  -->A
end Go.Proofs.Ytnplelcnigpemaa
