/- Walks: comparing strings, dots, pairs; the closures by which collections and vectors are searched. -/
import Derived.Test.YtejmmkjpncpedaaGreatCoB
import Derived.Test.YtejmmkjpncpedaaGreatOpC
import Derived.Test.YtejmmkjpncpedaaGreatRegionF
namespace Go.Esc
open Go.RowKit
set_option linter.unusedSimpArgs false
def cmpS (a b : List UInt8) : Int := if Op.bytesLess a b = true then -1 else if Op.bytesLess b a = true then 1 else 0
theorem cmpS_neg (a b : List UInt8) : cmpS a b < 0 ↔ Op.bytesLess a b = true := by
  unfold cmpS
  split
  · simp_all
  · split <;> simp_all
theorem cmpS_zero (a b : List UInt8) : cmpS a b = 0 ↔ a = b := by
  unfold cmpS
  split
  · rename_i h
    constructor
    · intro e; cases e
    · intro e; subst e; rw [bytesOrd.irr] at h; cases h
  · rename_i h
    split
    · rename_i h2
      constructor
      · intro e; cases e
      · intro e; subst e; rw [bytesOrd.irr] at h2; cases h2
    · rename_i h2
      exact ⟨fun _ => bytesOrd.tot (by simpa using h) (by simpa using h2), fun _ => rfl⟩
def cmpP (a b : Int × Int) : Int := if cmpI a.1 b.1 ≠ 0 then cmpI a.1 b.1 else cmpI a.2 b.2
theorem cmpP_neg (a b : Int × Int) : cmpP a b < 0 ↔ pairLt a b = true := by
  have h1 := cmpI_zero a.1 b.1
  have h2 := cmpI_neg a.1 b.1
  have h3 := cmpI_neg a.2 b.2
  unfold cmpP pairLt lexLt intLt
  simp only [Bool.or_eq_true, Bool.and_eq_true, decide_eq_true_eq]
  split <;> omega
theorem cmpP_zero (a b : Int × Int) : cmpP a b = 0 ↔ a = b := by
  have h1 := cmpI_zero a.1 b.1
  have h3 := cmpI_zero a.2 b.2
  unfold cmpP
  rw [Prod.ext_iff]
  split <;> omega
theorem dcmp_zero (a b : DotR) : a.cmp b = 0 ↔ a = b := by
  have h1 := cmpI_zero a.dev b.dev
  have h2 := cmpI_zero a.ep b.ep
  have h3 := cmpI_zero a.seq b.seq
  unfold DotR.cmp
  cases a; cases b
  simp only [DotR.mk.injEq] at *
  split
  · omega
  · split <;> omega
theorem cmpS_ok (a b : List UInt8) : I64ok (cmpS a b) := by unfold cmpS I64ok; split; omega; split <;> omega
def cmpE (a b : List UInt8 × List UInt8 × DotR) : Int := if cmpS a.1 b.1 ≠ 0 then cmpS a.1 b.1 else if cmpS a.2.1 b.2.1 ≠ 0 then cmpS a.2.1 b.2.1 else a.2.2.cmp b.2.2
theorem cmpE_neg (a b : List UInt8 × List UInt8 × DotR) : cmpE a b < 0 ↔ elemLt a b = true := by
  have h1 := cmpS_zero a.1 b.1
  have h2 := cmpS_neg a.1 b.1
  have h3 := cmpS_zero a.2.1 b.2.1
  have h4 := cmpS_neg a.2.1 b.2.1
  have h5 := DotR.cmp_lt a.2.2 b.2.2
  unfold cmpE elemLt lexLt
  simp only [Bool.or_eq_true, Bool.and_eq_true, decide_eq_true_eq]
  by_cases e1 : cmpS a.1 b.1 = 0
  · rw [if_neg (fun h => h e1)]
    have e1' := h1.1 e1
    have n1 : ¬ Op.bytesLess a.1 b.1 = true := fun h => by have := h2.2 h; omega
    by_cases e2 : cmpS a.2.1 b.2.1 = 0
    · rw [if_neg (fun h => h e2), h5]
      have e2' := h3.1 e2
      have n2 : ¬ Op.bytesLess a.2.1 b.2.1 = true := fun h => by have := h4.2 h; omega
      simp [n1, n2, e1', e2', bytesOrd.irr]
    · rw [if_pos e2, h4]
      have e2' : ¬ a.2.1 = b.2.1 := fun h => e2 (h3.2 h)
      simp [n1, e1', e2', bytesOrd.irr]
  · rw [if_pos e1, h2]
    have e1' : ¬ a.1 = b.1 := fun h => e1 (h1.2 h)
    simp [e1']
theorem cmpE_zero (a b : List UInt8 × List UInt8 × DotR) : cmpE a b = 0 ↔ a = b := by
  have h1 := cmpS_zero a.1 b.1
  have h3 := cmpS_zero a.2.1 b.2.1
  have h5 := dcmp_zero a.2.2 b.2.2
  unfold cmpE
  rw [Prod.ext_iff, Prod.ext_iff]
  by_cases e1 : cmpS a.1 b.1 = 0
  · rw [if_neg (fun h => h e1)]
    by_cases e2 : cmpS a.2.1 b.2.1 = 0
    · rw [if_neg (fun h => h e2), h5]
      simp [h1.1 e1, h3.1 e2]
    · rw [if_pos e2]
      exact ⟨fun h => absurd h e2, fun h => absurd (h3.2 h.2.1) e2⟩
  · rw [if_pos e1]
    exact ⟨fun h => absurd h e1, fun h => absurd (h1.2 h.1) e1⟩
end Go.Esc
namespace Go.Proofs.YtejmmkjpncpedaaGreat
open Go.RowKit Go.Esc
set_option linter.unusedVariables false
set_option linter.unusedSimpArgs false
theorem res_cell1 {P : Program} {fn : Func} {p : Tmp} {ty : TypeId} (h : fn.results = #[.cell p ty]) (tmps : Array Value) (w : World) :
    (results fn tmps).run P w = ((asAddr (tmps.getD p undef)).run P w).andThen fun a w₁ => (loadVar ty a).run P w₁ := by
  simp only [results, h]
  simp [Sem.run_bind, Result.andThen]
theorem isnanS_any (w : World) (s : List UInt8) : Calls Tryz.prog 80 #[.string (str s)] w fun e w' => e = .returned (.bool false) ∧ w = w' := by
  have h := beqStrT (rfl : s = s)
  go_enter Tryz.func80, Tryz.ntmps80
  go_wp2_with fail
  go_ret
  exact ⟨by simp, rfl⟩
set_option maxHeartbeats 1000000 in
theorem compareS_any (w : World) (a b : List UInt8) : Calls Tryz.prog 56 #[.string (str a), .string (str b)] w fun e w' => e = .returned (.int .i64 (cmpS a b)) ∧ w = w' := by
  obtain ⟨r, hr⟩ : ∃ r, r = cmpS a b := ⟨_, rfl⟩
  have Hr := Lib.hid hr
  rw [← hr]
  clear hr
  by_cases h1 : Op.bytesLess a b = true
  · have d1 : Op.bytesLess (str a).toList (str b).toList = true := by rw [toList_str, toList_str]; exact h1
    go_enter Tryz.func56, Tryz.ntmps56
    go_wp2_with fail
    refine (isnanS_any w a).mono ?_
    rintro e w1 ⟨rfl, rfl⟩
    go_wp2_with fail
    refine (isnanS_any w b).mono ?_
    rintro e w1 ⟨rfl, rfl⟩
    go_wp2_with fail
    go_ret
    exact ⟨by rw [Hr.out]; unfold cmpS; rw [if_pos h1]; rfl, rfl⟩
  · have d1 : Op.bytesLess (str a).toList (str b).toList = false := by rw [toList_str, toList_str]; simpa using h1
    by_cases h2 : Op.bytesLess b a = true
    · have d2 := beqStrF (show a ≠ b from fun e => by subst e; exact h1 h2)
      go_enter Tryz.func56, Tryz.ntmps56
      go_wp2_with fail
      refine (isnanS_any w a).mono ?_
      rintro e w1 ⟨rfl, rfl⟩
      go_wp2_with fail
      refine (isnanS_any w b).mono ?_
      rintro e w1 ⟨rfl, rfl⟩
      go_wp2_with fail
      go_ret
      exact ⟨by rw [Hr.out]; unfold cmpS; rw [if_neg h1, if_pos h2]; rfl, rfl⟩
    · have d2 := beqStrT (show a = b from bytesOrd.tot (by simpa using h1) (by simpa using h2))
      go_enter Tryz.func56, Tryz.ntmps56
      go_wp2_with fail
      refine (isnanS_any w a).mono ?_
      rintro e w1 ⟨rfl, rfl⟩
      go_wp2_with fail
      refine (isnanS_any w b).mono ?_
      rintro e w1 ⟨rfl, rfl⟩
      go_wp2_with fail
      go_ret
      exact ⟨by rw [Hr.out]; unfold cmpS; rw [if_neg h1, if_neg h2]; rfl, rfl⟩
set_option maxRecDepth 100000 in
set_option maxHeartbeats 1000000 in
theorem dotcmp_any (w : World) (x y : DotR) :
    Calls Tryz.prog 51 #[.agg #[.int .i64 x.dev, .int .i64 x.ep, .int .i64 x.seq], .agg #[.int .i64 y.dev, .int .i64 y.ep, .int .i64 y.seq]] w fun e w' => e = .returned (.int .i64 (x.cmp y)) ∧ Ext no w w' := by
  go_enter Tryz.func51, Tryz.ntmps51
  go_upto_region 1 with fail
  have hb1 := Blk.lit w #[.int .i64 x.dev, .int .i64 x.ep, .int .i64 x.seq] 93
  have hx1 := Ext.alloc no w (.cells #[.int .i64 x.dev, .int .i64 x.ep, .int .i64 x.seq] 93)
  have hb2 := Blk.at (w.alloc (.cells #[.int .i64 x.dev, .int .i64 x.ep, .int .i64 x.seq] 93)) #[.int .i64 y.dev, .int .i64 y.ep, .int .i64 y.seq] 93 (w.heap.size + 1) (by simp)
  have hx2 := Ext.alloc no (w.alloc (.cells #[.int .i64 x.dev, .int .i64 x.ep, .int .i64 x.seq] 93)) (.cells #[.int .i64 y.dev, .int .i64 y.ep, .int .i64 y.seq] 93)
  have hb1' := hb1.ext (by simp) hx2 (fun h => h)
  replace hx1 := hx1.comp hx2
  clear hb1 hx2
  generalize (w.alloc (.cells #[.int .i64 x.dev, .int .i64 x.ep, .int .i64 x.seq] 93)).alloc (.cells #[.int .i64 y.dev, .int .i64 y.ep, .int .i64 y.seq] 93) = w1 at *
  have p0 := hb1'.cell 0 _ rfl
  have q0 := hb2.cell 0 _ rfl
  have p1 := hb1'.cell 1 _ rfl
  have q1 := hb2.cell 1 _ rfl
  have p2 := hb1'.cell 2 _ rfl
  have q2 := hb2.cell 2 _ rfl
  have hS0 := Ext.drew no w1
  refine wp_region_E [1, 3, 6, 8, 11, 13] (fun z => Ext no w1 z) (by kernel_rfl) ?_
  refine wpE_take 0 (v := ?_) rfl (by kernel_rfl) (by kernel_rfl) (by kernel_rfl) (fun _ _ _ h => h) hS0 (by rfl) ?_ ?_
  rotate_left
  · (intro wq; go_simp; try with_reducible rfl)
  simp only [pz]
  refine wpE_look 1 (v := .int .i64 x.dev) rfl rfl (by kernel_rfl) (by kernel_rfl) (by kernel_rfl) (by kernel_rfl) (fun _ _ _ h => h) hS0 (by rfl) (fun w hS => by have q := hS.keeps p0 (fun h => h); go_simp) ?_
  simp only [pz]
  refine wpE_take 2 (v := ?_) rfl (by kernel_rfl) (by kernel_rfl) (by kernel_rfl) (fun _ _ _ h => h) hS0 (by rfl) ?_ ?_
  rotate_left
  · (intro wq; go_simp; try with_reducible rfl)
  simp only [pz]
  refine wpE_look 3 (v := .int .i64 y.dev) rfl rfl (by kernel_rfl) (by kernel_rfl) (by kernel_rfl) (by kernel_rfl) (fun _ _ _ h => h) hS0 (by rfl) (fun w hS => by have q := hS.keeps q0 (fun h => h); go_simp) ?_
  simp only [pz]
  refine wpE_take 5 (v := ?_) rfl (by kernel_rfl) (by kernel_rfl) (by kernel_rfl) (fun _ _ _ h => h) hS0 (by rfl) ?_ ?_
  rotate_left
  · (intro wq; go_simp; try with_reducible rfl)
  simp only [pz]
  refine wpE_look 6 (v := .int .i64 x.ep) rfl rfl (by kernel_rfl) (by kernel_rfl) (by kernel_rfl) (by kernel_rfl) (fun _ _ _ h => h) hS0 (by rfl) (fun w hS => by have q := hS.keeps p1 (fun h => h); go_simp) ?_
  simp only [pz]
  refine wpE_take 7 (v := ?_) rfl (by kernel_rfl) (by kernel_rfl) (by kernel_rfl) (fun _ _ _ h => h) hS0 (by rfl) ?_ ?_
  rotate_left
  · (intro wq; go_simp; try with_reducible rfl)
  simp only [pz]
  refine wpE_look 8 (v := .int .i64 y.ep) rfl rfl (by kernel_rfl) (by kernel_rfl) (by kernel_rfl) (by kernel_rfl) (fun _ _ _ h => h) hS0 (by rfl) (fun w hS => by have q := hS.keeps q1 (fun h => h); go_simp) ?_
  simp only [pz]
  refine wpE_take 10 (v := ?_) rfl (by kernel_rfl) (by kernel_rfl) (by kernel_rfl) (fun _ _ _ h => h) hS0 (by rfl) ?_ ?_
  rotate_left
  · (intro wq; go_simp; try with_reducible rfl)
  simp only [pz]
  refine wpE_look 11 (v := .int .i64 x.seq) rfl rfl (by kernel_rfl) (by kernel_rfl) (by kernel_rfl) (by kernel_rfl) (fun _ _ _ h => h) hS0 (by rfl) (fun w hS => by have q := hS.keeps p2 (fun h => h); go_simp) ?_
  simp only [pz]
  refine wpE_take 12 (v := ?_) rfl (by kernel_rfl) (by kernel_rfl) (by kernel_rfl) (fun _ _ _ h => h) hS0 (by rfl) ?_ ?_
  rotate_left
  · (intro wq; go_simp; try with_reducible rfl)
  simp only [pz]
  refine wpE_look 13 (v := .int .i64 y.seq) rfl rfl (by kernel_rfl) (by kernel_rfl) (by kernel_rfl) (by kernel_rfl) (fun _ _ _ h => h) hS0 (by rfl) (fun w hS => by have q := hS.keeps q2 (fun h => h); go_simp) ?_
  simp only [pz]
  refine wpE_exec 4 rfl (by kernel_rfl) (by rfl) ?_
  intro K hK
  go_simp
  refine (compare_any w1.drew x.dev y.dev).mono ?_
  rintro e w5 ⟨rfl, rfl⟩
  have hS4 := hS0
  refine hK _ _ (fun z => Ext no w1 z) (.inr (fun z h => h)) hS4 ?_
  clear hK K
  refine wpE_exec 9 rfl (by kernel_rfl) (by rfl) ?_
  intro K hK
  go_simp
  refine (compare_any w1.drew x.ep y.ep).mono ?_
  rintro e w5 ⟨rfl, rfl⟩
  have hS9 := hS0
  refine hK _ _ (fun z => Ext no w1 z) (.inr (fun z h => h)) hS9 ?_
  clear hK K
  refine wpE_exec 14 rfl (by kernel_rfl) (by rfl) ?_
  intro K hK
  go_simp
  refine (compare_any w1.drew x.seq y.seq).mono ?_
  rintro e w5 ⟨rfl, rfl⟩
  have hS14 := hS0
  refine hK _ _ (fun z => Ext no w1 z) (.inr (fun z h => h)) hS14 ?_
  clear hK K
  refine wpE_exec 15 rfl (by kernel_rfl) (by rfl) ?_
  intro K hK
  go_simp
  have hSa : Ext no w1 (w1.drew.alloc (.cells #[.int .i64 (cmpI x.dev y.dev), .int .i64 (cmpI x.ep y.ep), .int .i64 (cmpI x.seq y.seq)] 3)) := hS0.comp (Ext.alloc no w1.drew _)
  have hS15 := hSa
  refine hK _ _ (fun z => Ext no w1 z) (.inr (fun z h => h)) hS15 ?_
  clear hK K
  refine wpE_exec 16 rfl (by kernel_rfl) (by rfl) ?_
  intro K hK
  go_simp
  refine (or_any (w1.drew.alloc (.cells #[.int .i64 (cmpI x.dev y.dev), .int .i64 (cmpI x.ep y.ep), .int .i64 (cmpI x.seq y.seq)] 3)) (some ⟨w1.heap.size, 0, none⟩) 3 [cmpI x.dev y.dev, cmpI x.ep y.ep, cmpI x.seq y.seq] (Rd.lit w1.drew _ _ _) (by simp)).mono ?_
  rintro e w5 ⟨rfl, rfl⟩
  have hS16 := hS15
  refine hK _ _ (fun z => Ext no w1 z) (.inr (fun z h => h)) hS16 ?_
  clear hK K
  refine wpE_take 17 (v := ?_) rfl (by kernel_rfl) (by kernel_rfl) (by kernel_rfl) (fun _ _ _ h => h) hS16 (by rfl) ?_ ?_
  rotate_left
  · (intro wq; go_simp; try with_reducible rfl)
  simp only [pz]
  refine wpE_done (by kernel_rfl) ?_ _
  go_wp2_with fail
  go_ret
  exact ⟨by rw [← or_cmp]; rfl, hx1.comp hSa⟩
theorem or_pair (a b c d : Int) : orI [cmpI a c, cmpI b d] = cmpP (a, b) (c, d) := by
  unfold cmpP
  simp only [orI]
  split
  · rfl
  · split
    · rfl
    · simp_all
set_option maxRecDepth 100000 in
set_option maxHeartbeats 1000000 in
theorem paircmp_any (w : World) (a b c d : Int) :
    Calls Tryz.prog 99 #[.agg #[.int .i64 a, .int .i64 b], .agg #[.int .i64 c, .int .i64 d]] w fun e w' => e = .returned (.int .i64 (cmpP (a, b) (c, d))) ∧ Ext no w w' := by
  go_enter Tryz.func99, Tryz.ntmps99
  go_upto_region 1 with fail
  have hb1 := Blk.lit w #[.int .i64 a, .int .i64 b] 113
  have hx1 := Ext.alloc no w (.cells #[.int .i64 a, .int .i64 b] 113)
  have hb2 := Blk.at (w.alloc (.cells #[.int .i64 a, .int .i64 b] 113)) #[.int .i64 c, .int .i64 d] 113 (w.heap.size + 1) (by simp)
  have hx2 := Ext.alloc no (w.alloc (.cells #[.int .i64 a, .int .i64 b] 113)) (.cells #[.int .i64 c, .int .i64 d] 113)
  have hb1' := hb1.ext (by simp) hx2 (fun h => h)
  replace hx1 := hx1.comp hx2
  clear hb1 hx2
  generalize (w.alloc (.cells #[.int .i64 a, .int .i64 b] 113)).alloc (.cells #[.int .i64 c, .int .i64 d] 113) = w1 at *
  have p0 := hb1'.cell 0 _ rfl
  have q0 := hb2.cell 0 _ rfl
  have p1 := hb1'.cell 1 _ rfl
  have q1 := hb2.cell 1 _ rfl
  have hS0 := Ext.drew no w1
  refine wp_region_E [1, 3, 6, 8] (fun z => Ext no w1 z) (by kernel_rfl) ?_
  refine wpE_take 0 (v := ?_) rfl (by kernel_rfl) (by kernel_rfl) (by kernel_rfl) (fun _ _ _ h => h) hS0 (by rfl) ?_ ?_
  rotate_left
  · (intro wq; go_simp; try with_reducible rfl)
  simp only [pz]
  refine wpE_look 1 (v := .int .i64 a) rfl rfl (by kernel_rfl) (by kernel_rfl) (by kernel_rfl) (by kernel_rfl) (fun _ _ _ h => h) hS0 (by rfl) (fun w hS => by have q := hS.keeps p0 (fun h => h); go_simp) ?_
  simp only [pz]
  refine wpE_take 2 (v := ?_) rfl (by kernel_rfl) (by kernel_rfl) (by kernel_rfl) (fun _ _ _ h => h) hS0 (by rfl) ?_ ?_
  rotate_left
  · (intro wq; go_simp; try with_reducible rfl)
  simp only [pz]
  refine wpE_look 3 (v := .int .i64 c) rfl rfl (by kernel_rfl) (by kernel_rfl) (by kernel_rfl) (by kernel_rfl) (fun _ _ _ h => h) hS0 (by rfl) (fun w hS => by have q := hS.keeps q0 (fun h => h); go_simp) ?_
  simp only [pz]
  refine wpE_take 5 (v := ?_) rfl (by kernel_rfl) (by kernel_rfl) (by kernel_rfl) (fun _ _ _ h => h) hS0 (by rfl) ?_ ?_
  rotate_left
  · (intro wq; go_simp; try with_reducible rfl)
  simp only [pz]
  refine wpE_look 6 (v := .int .i64 b) rfl rfl (by kernel_rfl) (by kernel_rfl) (by kernel_rfl) (by kernel_rfl) (fun _ _ _ h => h) hS0 (by rfl) (fun w hS => by have q := hS.keeps p1 (fun h => h); go_simp) ?_
  simp only [pz]
  refine wpE_take 7 (v := ?_) rfl (by kernel_rfl) (by kernel_rfl) (by kernel_rfl) (fun _ _ _ h => h) hS0 (by rfl) ?_ ?_
  rotate_left
  · (intro wq; go_simp; try with_reducible rfl)
  simp only [pz]
  refine wpE_look 8 (v := .int .i64 d) rfl rfl (by kernel_rfl) (by kernel_rfl) (by kernel_rfl) (by kernel_rfl) (fun _ _ _ h => h) hS0 (by rfl) (fun w hS => by have q := hS.keeps q1 (fun h => h); go_simp) ?_
  simp only [pz]
  refine wpE_exec 4 rfl (by kernel_rfl) (by rfl) ?_
  intro K hK
  go_simp
  refine (compare_any w1.drew a c).mono ?_
  rintro e w5 ⟨rfl, rfl⟩
  have hS4 := hS0
  refine hK _ _ (fun z => Ext no w1 z) (.inr (fun z h => h)) hS4 ?_
  clear hK K
  refine wpE_exec 9 rfl (by kernel_rfl) (by rfl) ?_
  intro K hK
  go_simp
  refine (compare_any w1.drew b d).mono ?_
  rintro e w5 ⟨rfl, rfl⟩
  have hS9 := hS0
  refine hK _ _ (fun z => Ext no w1 z) (.inr (fun z h => h)) hS9 ?_
  clear hK K
  refine wpE_exec 10 rfl (by kernel_rfl) (by rfl) ?_
  intro K hK
  go_simp
  have hSa : Ext no w1 (w1.drew.alloc (.cells #[.int .i64 (cmpI a c), .int .i64 (cmpI b d)] 3)) := hS0.comp (Ext.alloc no w1.drew _)
  have hS10 := hSa
  refine hK _ _ (fun z => Ext no w1 z) (.inr (fun z h => h)) hS10 ?_
  clear hK K
  refine wpE_exec 11 rfl (by kernel_rfl) (by rfl) ?_
  intro K hK
  go_simp
  refine (or_any (w1.drew.alloc (.cells #[.int .i64 (cmpI a c), .int .i64 (cmpI b d)] 3)) (some ⟨w1.heap.size, 0, none⟩) 2 [cmpI a c, cmpI b d] (Rd.lit w1.drew _ _ _) (by simp)).mono ?_
  rintro e w5 ⟨rfl, rfl⟩
  have hS11 := hS10
  refine hK _ _ (fun z => Ext no w1 z) (.inr (fun z h => h)) hS11 ?_
  clear hK K
  refine wpE_take 12 (v := ?_) rfl (by kernel_rfl) (by kernel_rfl) (by kernel_rfl) (fun _ _ _ h => h) hS11 (by rfl) ?_ ?_
  rotate_left
  · (intro wq; go_simp; try with_reducible rfl)
  simp only [pz]
  refine wpE_done (by kernel_rfl) ?_ _
  go_wp2_with fail
  go_ret
  exact ⟨by rw [← or_pair]; rfl, hx1.comp hSa⟩
set_option maxHeartbeats 1000000 in
theorem of_any (w : World) (x : DotR) :
    Calls Tryz.prog 72 #[.agg #[.int .i64 x.dev, .int .i64 x.ep, .int .i64 x.seq]] w fun e w' => e = .returned (.agg #[.int .i64 x.dev, .int .i64 x.ep]) ∧ Ext no w w' := by
  go_enter Tryz.func72, Tryz.ntmps72
  go_wp2_with fail
  refine bodyPost_ret (v := .agg #[.int .i64 x.dev, .int .i64 x.ep]) ?_ rfl ⟨rfl, ?_⟩
  · rw [res_cell1 rfl]
    go_simp
  · exact (Ext.alloc no w _).comp (Ext.alloc no _ _)
set_option maxHeartbeats 1000000 in
theorem sum1_any (w : World) (x : SumR) (key : List UInt8) (pb po : Nat) (hp : w.cell? ⟨pb, po, none⟩ = some (.string (str key))) :
    Calls Tryz.prog 87 #[.agg #[.string (str x.key), .int .i64 x.n], .pointer (some ⟨pb, po, none⟩)] w fun e w' => e = .returned (.int .i64 (cmpS x.key key)) ∧ Ext no w w' := by
  have hp' := (Ext.alloc no w (.cells #[.string (str x.key), .int .i64 x.n] 43)).keeps hp (fun h => h)
  go_enter Tryz.func87, Tryz.ntmps87
  go_wp2_with fail
  refine (compareS_any _ x.key key).mono ?_
  rintro e w1 ⟨rfl, rfl⟩
  go_wp2_with fail
  go_ret
  exact ⟨rfl, Ext.alloc no w _⟩
set_option maxHeartbeats 1000000 in
theorem reg1_any (w : World) (x : RegR) (key : List UInt8) (pb po : Nat) (hp : w.cell? ⟨pb, po, none⟩ = some (.string (str key))) :
    Calls Tryz.prog 74 #[.agg #[.string (str x.key), .string (str x.text), .int .i64 x.ver, .int .i64 x.time, .int .i64 x.dot.dev, .int .i64 x.dot.ep, .int .i64 x.dot.seq], .pointer (some ⟨pb, po, none⟩)] w fun e w' => e = .returned (.int .i64 (cmpS x.key key)) ∧ Ext no w w' := by
  have hp' := (Ext.alloc no w (.cells #[.string (str x.key), .string (str x.text), .int .i64 x.ver, .int .i64 x.time, .int .i64 x.dot.dev, .int .i64 x.dot.ep, .int .i64 x.dot.seq] 41)).keeps hp (fun h => h)
  go_enter Tryz.func74, Tryz.ntmps74
  go_wp2_with fail
  refine (compareS_any _ x.key key).mono ?_
  rintro e w1 ⟨rfl, rfl⟩
  go_wp2_with fail
  go_ret
  exact ⟨rfl, Ext.alloc no w _⟩
set_option maxHeartbeats 1000000 in
theorem bind1_any (w : World) (x : BindR) (key : Int) (pb po : Nat) (hp : w.cell? ⟨pb, po, none⟩ = some (.int .i64 key)) :
    Calls Tryz.prog 91 #[.agg #[.int .i64 x.id, .string (str x.text), .int .i64 x.ver, .int .i64 x.dot.dev, .int .i64 x.dot.ep, .int .i64 x.dot.seq], .pointer (some ⟨pb, po, none⟩)] w fun e w' => e = .returned (.int .i64 (cmpI x.id key)) ∧ Ext no w w' := by
  have hp' := (Ext.alloc no w (.cells #[.int .i64 x.id, .string (str x.text), .int .i64 x.ver, .int .i64 x.dot.dev, .int .i64 x.dot.ep, .int .i64 x.dot.seq] 45)).keeps hp (fun h => h)
  go_enter Tryz.func91, Tryz.ntmps91
  go_wp2_with fail
  refine (compare_any _ x.id key).mono ?_
  rintro e w1 ⟨rfl, rfl⟩
  go_wp2_with fail
  go_ret
  exact ⟨rfl, Ext.alloc no w _⟩
set_option maxHeartbeats 1000000 in
theorem gone1_any (w : World) (x d : DotR) (pb po qb qo : Nat) (hp : w.cell? ⟨pb, po, none⟩ = some (.func (.func 51) #[] #[]))
    (h0 : w.cell? ⟨qb, qo, none⟩ = some (.int .i64 d.dev)) (h1 : w.cell? ⟨qb, qo + 1, none⟩ = some (.int .i64 d.ep)) (h2 : w.cell? ⟨qb, qo + 2, none⟩ = some (.int .i64 d.seq)) :
    Calls Tryz.prog 79 #[.agg #[.int .i64 x.dev, .int .i64 x.ep, .int .i64 x.seq], .pointer (some ⟨pb, po, none⟩), .pointer (some ⟨qb, qo, none⟩)] w fun e w' => e = .returned (.int .i64 (x.cmp d)) ∧ Ext no w w' := by
  have hx := Ext.alloc no w (.cells #[.int .i64 x.dev, .int .i64 x.ep, .int .i64 x.seq] 39)
  have hp' := hx.keeps hp (fun h => h)
  have h0' := hx.keeps h0 (fun h => h)
  have h1' := hx.keeps h1 (fun h => h)
  have h2' := hx.keeps h2 (fun h => h)
  go_enter Tryz.func79, Tryz.ntmps79
  go_wp2_with fail
  refine (dotcmp_any _ x d).mono ?_
  rintro e w1 ⟨rfl, hx1⟩
  go_wp2_with fail
  go_ret
  exact ⟨rfl, hx.comp hx1⟩
set_option maxHeartbeats 1000000 in
theorem remove1_any (w : World) (x : ElemR) (d : DotR) (qb qo : Nat)
    (h0 : w.cell? ⟨qb, qo, none⟩ = some (.int .i64 d.dev)) (h1 : w.cell? ⟨qb, qo + 1, none⟩ = some (.int .i64 d.ep)) (h2 : w.cell? ⟨qb, qo + 2, none⟩ = some (.int .i64 d.seq)) :
    Calls Tryz.prog 60 #[.agg #[.string (str x.key), .string (str x.text), .int .i64 x.ver, .int .i64 x.dot.dev, .int .i64 x.dot.ep, .int .i64 x.dot.seq], .pointer (some ⟨qb, qo, none⟩)] w fun e w' => e = .returned (.bool (x.dot.eqv d)) ∧ Ext no w w' := by
  have hx := Ext.alloc no w (.cells #[.string (str x.key), .string (str x.text), .int .i64 x.ver, .int .i64 x.dot.dev, .int .i64 x.dot.ep, .int .i64 x.dot.seq] 61)
  have h0' := hx.keeps h0 (fun h => h)
  have h1' := hx.keeps h1 (fun h => h)
  have h2' := hx.keeps h2 (fun h => h)
  have T : ∀ {a b : Int}, a = b → (a == b) = true := fun h => by rw [beq_iff_eq]; exact h
  have G : ∀ {a b : Int}, ¬ a = b → (a == b) = false := fun h => by rw [beq_eq_false_iff_ne]; exact h
  by_cases e1 : x.dot.dev = d.dev
  · have t1 := T e1
    by_cases e2 : x.dot.ep = d.ep
    · have t2 := T e2
      by_cases e3 : x.dot.seq = d.seq
      · have t3 := T e3
        have Hr := Lib.hid (show x.dot.eqv d = true by unfold DotR.eqv; simp [t1, t2, t3])
        clear e1 e2 e3 T G
        go_enter Tryz.func60, Tryz.ntmps60
        go_wp2_with fail
        go_ret
        exact ⟨by rw [Hr.out]; rfl, hx⟩
      · have t3 := G e3
        have Hr := Lib.hid (show x.dot.eqv d = false by unfold DotR.eqv; simp [t3])
        clear e1 e2 e3 T G
        go_enter Tryz.func60, Tryz.ntmps60
        go_wp2_with fail
        go_ret
        exact ⟨by rw [Hr.out]; rfl, hx⟩
    · have t2 := G e2
      have Hr := Lib.hid (show x.dot.eqv d = false by unfold DotR.eqv; simp [t2])
      clear e1 e2 T G
      go_enter Tryz.func60, Tryz.ntmps60
      go_wp2_with fail
      go_ret
      exact ⟨by rw [Hr.out]; rfl, hx⟩
  · have t1 := G e1
    have Hr := Lib.hid (show x.dot.eqv d = false by unfold DotR.eqv; simp [t1])
    clear e1 T G
    go_enter Tryz.func60, Tryz.ntmps60
    go_wp2_with fail
    go_ret
    exact ⟨by rw [Hr.out]; rfl, hx⟩
set_option maxHeartbeats 1000000 in
theorem at1_any (w : World) (x : DotR) (k : Int × Int) (qb qo : Nat)
    (h0 : w.cell? ⟨qb, qo, none⟩ = some (.int .i64 k.1)) (h1 : w.cell? ⟨qb, qo + 1, none⟩ = some (.int .i64 k.2)) :
    Calls Tryz.prog 98 #[.agg #[.int .i64 x.dev, .int .i64 x.ep, .int .i64 x.seq], .pointer (some ⟨qb, qo, none⟩)] w fun e w' => e = .returned (.int .i64 (cmpP x.pair k)) ∧ Ext no w w' := by
  go_enter Tryz.func98, Tryz.ntmps98
  go_upto_region 1 with fail
  have hb := Blk.lit w #[.int .i64 x.dev, .int .i64 x.ep, .int .i64 x.seq] 38
  have hx := Ext.alloc no w (.cells #[.int .i64 x.dev, .int .i64 x.ep, .int .i64 x.seq] 38)
  have h0' := hx.keeps h0 (fun h => h)
  have h1' := hx.keeps h1 (fun h => h)
  generalize w.alloc (.cells #[.int .i64 x.dev, .int .i64 x.ep, .int .i64 x.seq] 38) = w1 at *
  have p0 := hb.cell 0 _ rfl
  have p1 := hb.cell 1 _ rfl
  have p2 := hb.cell 2 _ rfl
  have hS0 := Ext.drew no w1
  refine wp_region_E [0, 2] (fun z => Ext no w1 z) (by kernel_rfl) ?_
  refine wpE_look 0 (v := .agg #[.int .i64 x.dev, .int .i64 x.ep, .int .i64 x.seq]) rfl rfl (by kernel_rfl) (by kernel_rfl) (by kernel_rfl) (by kernel_rfl) (fun _ _ _ h => h) hS0 (by rfl) (fun w hS => by have q0 := hS.keeps p0 (fun h => h); have q1 := hS.keeps p1 (fun h => h); have q2 := hS.keeps p2 (fun h => h); go_simp) ?_
  simp only [pz]
  refine wpE_look 2 (v := .agg #[.int .i64 k.1, .int .i64 k.2]) rfl rfl (by kernel_rfl) (by kernel_rfl) (by kernel_rfl) (by kernel_rfl) (fun _ _ _ h => h) hS0 (by rfl) (fun w hS => by have q0 := hS.keeps h0' (fun h => h); have q1 := hS.keeps h1' (fun h => h); go_simp) ?_
  simp only [pz]
  refine wpE_exec 1 rfl (by kernel_rfl) (by rfl) ?_
  intro K hK
  go_simp
  refine (of_any w1.drew x).mono ?_
  rintro e w5 ⟨rfl, hx5⟩
  have hS1 := hS0.comp hx5
  refine hK _ _ (fun z => Ext no w1 z) (.inr (fun z h => h)) hS1 ?_
  clear hK K
  refine wpE_exec 3 rfl (by kernel_rfl) (by rfl) ?_
  intro K hK
  go_simp
  refine (paircmp_any w5 x.dev x.ep k.1 k.2).mono ?_
  rintro e w6 ⟨rfl, hx6⟩
  have hS2 := hS1.comp hx6
  refine hK _ _ (fun z => Ext no w1 z) (.inr (fun z h => h)) hS2 ?_
  clear hK K
  refine wpE_take 4 (v := ?_) rfl (by kernel_rfl) (by kernel_rfl) (by kernel_rfl) (fun _ _ _ h => h) hS2 (by rfl) ?_ ?_
  rotate_left
  · (intro wq; go_simp; try with_reducible rfl)
  simp only [pz]
  refine wpE_done (by kernel_rfl) ?_ _
  go_wp2_with fail
  go_ret
  exact ⟨rfl, hx.comp hS2⟩
theorem or_elem (x : ElemR) (o : OpR) : orI [cmpS x.key o.key, cmpS x.text o.text, x.dot.cmp o.dot] = cmpE x.k3 (Go.Esc.elemOf o).k3 := by
  unfold cmpE
  simp only [orI]
  show (if cmpS x.key o.key ≠ 0 then _ else _) = (if cmpS x.key o.key ≠ 0 then cmpS x.key o.key else if cmpS x.text o.text ≠ 0 then cmpS x.text o.text else x.dot.cmp o.dot)
  split
  · rfl
  · split
    · rfl
    · split <;> simp_all
set_option maxRecDepth 100000 in
set_option maxHeartbeats 1000000 in
theorem add1_any (w : World) (x : ElemR) (o : OpR) (a : Option Addr) (c g : Nat) (hg : Blk w g (o.cells a c)) :
    Calls Tryz.prog 54 #[.agg #[.string (str x.key), .string (str x.text), .int .i64 x.ver, .int .i64 x.dot.dev, .int .i64 x.dot.ep, .int .i64 x.dot.seq], .pointer (some ⟨g, 0, none⟩)] w fun e w' => e = .returned (.int .i64 (cmpE x.k3 (Go.Esc.elemOf o).k3)) ∧ Ext no w w' := by
  go_enter Tryz.func54, Tryz.ntmps54
  go_upto_region 1 with fail
  have hb := Blk.lit w #[.string (str x.key), .string (str x.text), .int .i64 x.ver, .int .i64 x.dot.dev, .int .i64 x.dot.ep, .int .i64 x.dot.seq] 61
  have hx := Ext.alloc no w (.cells #[.string (str x.key), .string (str x.text), .int .i64 x.ver, .int .i64 x.dot.dev, .int .i64 x.dot.ep, .int .i64 x.dot.seq] 61)
  have hg' := hg.ext (by simp [OpR.cells]) hx (fun h => h)
  generalize w.alloc (.cells #[.string (str x.key), .string (str x.text), .int .i64 x.ver, .int .i64 x.dot.dev, .int .i64 x.dot.ep, .int .i64 x.dot.seq] 61) = w1 at *
  have p0 := hb.cell 0 _ rfl
  have p1 := hb.cell 1 _ rfl
  have p3 := hb.cell 3 _ rfl
  have p4 := hb.cell 4 _ rfl
  have p5 := hb.cell 5 _ rfl
  have o0 := hg'.cell 0 _ rfl
  have o1 := hg'.cell 1 _ rfl
  have o2 := hg'.cell 2 _ rfl
  have o6 := hg'.cell 6 _ rfl
  have o7 := hg'.cell 7 _ rfl
  have hS0 := Ext.drew no w1
  refine wp_region_E [1, 3, 6, 8, 11, 13] (fun z => Ext no w1 z) (by kernel_rfl) ?_
  refine wpE_take 0 (v := ?_) rfl (by kernel_rfl) (by kernel_rfl) (by kernel_rfl) (fun _ _ _ h => h) hS0 (by rfl) ?_ ?_
  rotate_left
  · (intro wq; go_simp; try with_reducible rfl)
  simp only [pz]
  refine wpE_look 1 (v := .string (str x.key)) rfl rfl (by kernel_rfl) (by kernel_rfl) (by kernel_rfl) (by kernel_rfl) (fun _ _ _ h => h) hS0 (by rfl) (fun w hS => by have q0 := hS.keeps p0 (fun h => h); go_simp) ?_
  simp only [pz]
  refine wpE_take 2 (v := ?_) rfl (by kernel_rfl) (by kernel_rfl) (by kernel_rfl) (fun _ _ _ h => h) hS0 (by rfl) ?_ ?_
  rotate_left
  · (intro wq; go_simp; try with_reducible rfl)
  simp only [pz]
  refine wpE_look 3 (v := .string (str o.key)) rfl rfl (by kernel_rfl) (by kernel_rfl) (by kernel_rfl) (by kernel_rfl) (fun _ _ _ h => h) hS0 (by rfl) (fun w hS => by have q0 := hS.keeps o6 (fun h => h); go_simp) ?_
  simp only [pz]
  refine wpE_take 5 (v := ?_) rfl (by kernel_rfl) (by kernel_rfl) (by kernel_rfl) (fun _ _ _ h => h) hS0 (by rfl) ?_ ?_
  rotate_left
  · (intro wq; go_simp; try with_reducible rfl)
  simp only [pz]
  refine wpE_look 6 (v := .string (str x.text)) rfl rfl (by kernel_rfl) (by kernel_rfl) (by kernel_rfl) (by kernel_rfl) (fun _ _ _ h => h) hS0 (by rfl) (fun w hS => by have q0 := hS.keeps p1 (fun h => h); go_simp) ?_
  simp only [pz]
  refine wpE_take 7 (v := ?_) rfl (by kernel_rfl) (by kernel_rfl) (by kernel_rfl) (fun _ _ _ h => h) hS0 (by rfl) ?_ ?_
  rotate_left
  · (intro wq; go_simp; try with_reducible rfl)
  simp only [pz]
  refine wpE_look 8 (v := .string (str o.text)) rfl rfl (by kernel_rfl) (by kernel_rfl) (by kernel_rfl) (by kernel_rfl) (fun _ _ _ h => h) hS0 (by rfl) (fun w hS => by have q0 := hS.keeps o7 (fun h => h); go_simp) ?_
  simp only [pz]
  refine wpE_take 10 (v := ?_) rfl (by kernel_rfl) (by kernel_rfl) (by kernel_rfl) (fun _ _ _ h => h) hS0 (by rfl) ?_ ?_
  rotate_left
  · (intro wq; go_simp; try with_reducible rfl)
  simp only [pz]
  refine wpE_look 11 (v := .agg #[.int .i64 x.dot.dev, .int .i64 x.dot.ep, .int .i64 x.dot.seq]) rfl rfl (by kernel_rfl) (by kernel_rfl) (by kernel_rfl) (by kernel_rfl) (fun _ _ _ h => h) hS0 (by rfl) (fun w hS => by have q0 := hS.keeps p3 (fun h => h); have q1 := hS.keeps p4 (fun h => h); have q2 := hS.keeps p5 (fun h => h); go_simp) ?_
  simp only [pz]
  refine wpE_take 12 (v := ?_) rfl (by kernel_rfl) (by kernel_rfl) (by kernel_rfl) (fun _ _ _ h => h) hS0 (by rfl) ?_ ?_
  rotate_left
  · (intro wq; go_simp; try with_reducible rfl)
  simp only [pz]
  refine wpE_look 13 (v := .agg #[.int .i64 o.dot.dev, .int .i64 o.dot.ep, .int .i64 o.dot.seq]) rfl rfl (by kernel_rfl) (by kernel_rfl) (by kernel_rfl) (by kernel_rfl) (fun _ _ _ h => h) hS0 (by rfl) (fun w hS => by have q0 := hS.keeps o0 (fun h => h); have q1 := hS.keeps o1 (fun h => h); have q2 := hS.keeps o2 (fun h => h); go_simp) ?_
  simp only [pz]
  refine wpE_exec 4 rfl (by kernel_rfl) (by rfl) ?_
  intro K hK
  go_simp
  refine (compareS_any w1.drew x.key o.key).mono ?_
  rintro e w5 ⟨rfl, rfl⟩
  have hS1 := hS0
  refine hK _ _ (fun z => Ext no w1 z) (.inr (fun z h => h)) hS1 ?_
  clear hK K
  refine wpE_exec 9 rfl (by kernel_rfl) (by rfl) ?_
  intro K hK
  go_simp
  refine (compareS_any w1.drew x.text o.text).mono ?_
  rintro e w5 ⟨rfl, rfl⟩
  have hS2 := hS0
  refine hK _ _ (fun z => Ext no w1 z) (.inr (fun z h => h)) hS2 ?_
  clear hK K
  refine wpE_exec 14 rfl (by kernel_rfl) (by rfl) ?_
  intro K hK
  go_simp
  refine (dotcmp_any w1.drew x.dot o.dot).mono ?_
  rintro e w5 ⟨rfl, hx5⟩
  have hS3 := hS0.comp hx5
  refine hK _ _ (fun z => Ext no w1 z) (.inr (fun z h => h)) hS3 ?_
  clear hK K
  refine wpE_exec 15 rfl (by kernel_rfl) (by rfl) ?_
  intro K hK
  go_simp
  have hS4 : Ext no w1 (w5.alloc (.cells #[.int .i64 (cmpS x.key o.key), .int .i64 (cmpS x.text o.text), .int .i64 (x.dot.cmp o.dot)] 3)) := hS3.comp (Ext.alloc no w5 _)
  have hS5 := hS4
  refine hK _ _ (fun z => Ext no w1 z) (.inr (fun z h => h)) hS5 ?_
  clear hK K
  refine wpE_exec 16 rfl (by kernel_rfl) (by rfl) ?_
  intro K hK
  go_simp
  refine (or_any (w5.alloc (.cells #[.int .i64 (cmpS x.key o.key), .int .i64 (cmpS x.text o.text), .int .i64 (x.dot.cmp o.dot)] 3)) (some ⟨w5.heap.size, 0, none⟩) 3 [cmpS x.key o.key, cmpS x.text o.text, x.dot.cmp o.dot] (Rd.lit w5 _ _ _) (by simp)).mono ?_
  rintro e w6 ⟨rfl, rfl⟩
  have hS6 := hS5
  refine hK _ _ (fun z => Ext no w1 z) (.inr (fun z h => h)) hS6 ?_
  clear hK K
  refine wpE_take 17 (v := ?_) rfl (by kernel_rfl) (by kernel_rfl) (by kernel_rfl) (fun _ _ _ h => h) hS6 (by rfl) ?_ ?_
  rotate_left
  · (intro wq; go_simp; try with_reducible rfl)
  simp only [pz]
  refine wpE_done (by kernel_rfl) ?_ _
  go_wp2_with fail
  go_ret
  exact ⟨by rw [← or_elem]; rfl, hx.comp hS6⟩
end Go.Proofs.YtejmmkjpncpedaaGreat
