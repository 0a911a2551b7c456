/- The texts OpS OpT in one. -/
import Derived.Test.YtddobhihjljcgaaGreatOpG
/- Walks: rows of dots held against one another; operations held against one another. -/
namespace Go.Proofs.YtddobhihjljcgaaGreat
open Go.RowKit Go.Esc
set_option linter.unusedVariables false
set_option linter.unusedSimpArgs false
set_option maxHeartbeats 1000000 in
theorem refdots_any (w : World) (a b : Option Addr) (c d : Nat) (l m : List DotR) (hl : Rd w a (ds l)) (hm : Rd w b (ds m)) (hll : l.length ≤ 1099511627776) (hml : m.length ≤ 1099511627776) :
  Calls Tryz.prog 91 #[.slice a l.length c, .slice b m.length d] w fun e w' => ∃ r : Bool, e = .returned (.bool r) ∧ (r = true ↔ l = m) ∧ Ext no w w' := by
 by_cases hlm : l.length = m.length
 rotate_left
 ·have Hne := Lib.hid (show ¬ l = m from fun h => hlm (by rw [h]))
  have d0 : (((l.length : Nat) : Int) != ((m.length : Nat) : Int)) = true := by rw [bne_iff_ne]; omega
  have d0' : (l.length == m.length) = false := by rw [beq_eq_false_iff_ne]; exact hlm
  go_enter Tryz.func91, Tryz.ntmps91
  clear hlm
  go_wp2_with fail
  go_ret
  exact ⟨false, rfl, by simp [Hne.out], Ext.refl _ _⟩
 have Hlm := Lib.hid hlm
 have d0' : (l.length == m.length) = true := by rw [beq_iff_eq]; exact hlm
 have d0 : (((l.length : Nat) : Int) != ((m.length : Nat) : Int)) = false := by rw [bne_eq_false_iff_eq]; omega
 clear hlm
 go_enter Tryz.func91, Tryz.ntmps91
 go_wp2_with fail
 go_loopw [5] (fun s wr => ∃ i : Nat, i ≤ l.length ∧ s = .int .i64 i ∧ l.take i = m.take i ∧ Ext no w wr) (fun s _ => l.length - (intOf s).toNat)
 case atStart => exact ⟨0, by omega, rfl, rfl, Ext.refl _ _⟩
 case round =>
  obtain ⟨i, hi, rfl, htk, hx⟩ := hrel
  have Htk := Lib.hid htk
  clear htk
  by_cases hil : i < l.length
  ·have d1 : decide (i < l.length) = true := decT hil
   have him : i < m.length := by have := Hlm.out; omega
   have hl2 := hl.ext hx (fun _ _ h => h)
   have hm2 := hm.ext hx (fun _ _ h => h)
   obtain ⟨ab, ao, rfl, _⟩ := ds_shape hl2 (by omega)
   obtain ⟨bb, bo, rfl, _⟩ := ds_shape hm2 (by omega)
   obtain ⟨x, hx1⟩ : ∃ x, l[i]? = some x := ⟨_, List.getElem?_eq_getElem hil⟩
   obtain ⟨y, hy1⟩ : ∃ y, m[i]? = some y := ⟨_, List.getElem?_eq_getElem him⟩
   have x0 := ds_cell hl2 hx1 0 _ rfl
   have x1 := ds_cell hl2 hx1 1 _ rfl
   have x2 := ds_cell hl2 hx1 2 _ rfl
   have y0 := ds_cell hm2 hy1 0 _ rfl
   have y1 := ds_cell hm2 hy1 1 _ rfl
   have y2 := ds_cell hm2 hy1 2 _ rfl
   rw [Nat.add_zero] at x0 y0
   by_cases hxy : x = y
   ·have HE := Lib.hid (show l.take (i + 1) = m.take (i + 1) by
     obtain ⟨h1, h2⟩ := List.getElem?_eq_some_iff.1 hx1
     obtain ⟨h3, h4⟩ := List.getElem?_eq_some_iff.1 hy1
     rw [List.take_succ_eq_append_getElem h1, List.take_succ_eq_append_getElem h3, Htk.out, h2, h4, hxy])
    subst hxy
    go_upto_region 6 with fail
    --<DT
    refine wp_region_F [3, 7] (looks [(3, fun z => Ext no wr z), (7, fun z => Ext no wr z)]) (by kernel_rfl) ?_
    have hT0 : ∀ k, looks [(3, fun z => Ext no wr z), (7, fun z => Ext no wr z)] k (wr.drew) := looks_all ⟨(Ext.drew no wr), (Ext.drew no wr), trivial⟩
    refine wpF_tk 0 (v := ?_) rfl hT0 (by rfl) ?_ ?_
    rotate_left
    ·(intro wq; go_simp; try with_reducible rfl)
    simp only [pz]
    refine wpF_tk 1 (v := ?_) rfl hT0 (by rfl) ?_ ?_
    rotate_left
    ·(intro wq; go_simp; try with_reducible rfl)
    simp only [pz]
    refine wpF_tk 2 (v := .pointer (some ⟨ab, ao + i * 3, none⟩)) rfl hT0 (by rfl) (by intro wq; go_simp) ?_
    simp only [pz]
    refine wpF_lk 3 (v := .agg #[.int .i64 x.dev, .int .i64 x.ep, .int .i64 x.seq]) rfl hT0 (by rfl) (fun w hS => by have hS : Ext no wr w := hS; have q0 := hS.keeps x0 (fun h => h); have q1 := hS.keeps x1 (fun h => h); have q2 := hS.keeps x2 (fun h => h); go_simp) ?_
    simp only [pz]
    refine wpF_tk 4 (v := ?_) rfl hT0 (by rfl) ?_ ?_
    rotate_left
    ·(intro wq; go_simp; try with_reducible rfl)
    simp only [pz]
    refine wpF_tk 5 (v := ?_) rfl hT0 (by rfl) ?_ ?_
    rotate_left
    ·(intro wq; go_simp; try with_reducible rfl)
    simp only [pz]
    refine wpF_tk 6 (v := .pointer (some ⟨bb, bo + i * 3, none⟩)) rfl hT0 (by rfl) (by intro wq; go_simp) ?_
    simp only [pz]
    refine wpF_lk 7 (v := .agg #[.int .i64 x.dev, .int .i64 x.ep, .int .i64 x.seq]) rfl hT0 (by rfl) (fun w hS => by have hS : Ext no wr w := hS; have q0 := hS.keeps y0 (fun h => h); have q1 := hS.keeps y1 (fun h => h); have q2 := hS.keeps y2 (fun h => h); go_simp) ?_
    simp only [pz]
    refine wpF_tk 8 (v := .bool false) rfl hT0 (by rfl) (by intro wq; go_simp) ?_
    simp only [pz]
    refine wpF_done (by kernel_rfl) ?_ _
    go_wp2_with fail
    go_roundw
    case rel => exact ⟨i + 1, by omega, by go_num, HE.out, hx.comp (Ext.drew no wr)⟩
    case measure => simp [intOf]; omega
    -->DT
   ·have HE := Lib.hid (show ¬ l = m from fun h => by rw [h] at hx1; rw [hx1] at hy1; cases hy1; exact hxy rfl)
    have HF := Lib.hid (show x.eqv y = false by
     cases h : x.eqv y with
     | false => rfl
     | true => exact absurd ((DotR.eqv_iff x y).1 h) hxy)
    clear hxy
    go_upto_region 6 with fail
    --<DF
    refine wp_region_F [3, 7] (looks [(3, fun z => Ext no wr z), (7, fun z => Ext no wr z)]) (by kernel_rfl) ?_
    have hT0 : ∀ k, looks [(3, fun z => Ext no wr z), (7, fun z => Ext no wr z)] k (wr.drew) := looks_all ⟨(Ext.drew no wr), (Ext.drew no wr), trivial⟩
    refine wpF_tk 0 (v := ?_) rfl hT0 (by rfl) ?_ ?_
    rotate_left
    ·(intro wq; go_simp; try with_reducible rfl)
    simp only [pz]
    refine wpF_tk 1 (v := ?_) rfl hT0 (by rfl) ?_ ?_
    rotate_left
    ·(intro wq; go_simp; try with_reducible rfl)
    simp only [pz]
    refine wpF_tk 2 (v := .pointer (some ⟨ab, ao + i * 3, none⟩)) rfl hT0 (by rfl) (by intro wq; go_simp) ?_
    simp only [pz]
    refine wpF_lk 3 (v := .agg #[.int .i64 x.dev, .int .i64 x.ep, .int .i64 x.seq]) rfl hT0 (by rfl) (fun w hS => by have hS : Ext no wr w := hS; have q0 := hS.keeps x0 (fun h => h); have q1 := hS.keeps x1 (fun h => h); have q2 := hS.keeps x2 (fun h => h); go_simp) ?_
    simp only [pz]
    refine wpF_tk 4 (v := ?_) rfl hT0 (by rfl) ?_ ?_
    rotate_left
    ·(intro wq; go_simp; try with_reducible rfl)
    simp only [pz]
    refine wpF_tk 5 (v := ?_) rfl hT0 (by rfl) ?_ ?_
    rotate_left
    ·(intro wq; go_simp; try with_reducible rfl)
    simp only [pz]
    refine wpF_tk 6 (v := .pointer (some ⟨bb, bo + i * 3, none⟩)) rfl hT0 (by rfl) (by intro wq; go_simp) ?_
    simp only [pz]
    refine wpF_lk 7 (v := .agg #[.int .i64 y.dev, .int .i64 y.ep, .int .i64 y.seq]) rfl hT0 (by rfl) (fun w hS => by have hS : Ext no wr w := hS; have q0 := hS.keeps y0 (fun h => h); have q1 := hS.keeps y1 (fun h => h); have q2 := hS.keeps y2 (fun h => h); go_simp) ?_
    simp only [pz]
    refine wpF_tk 8 (v := .bool true) rfl hT0 (by rfl) (by intro wq; go_simp; exact eqv_not HF.out) ?_
    simp only [pz]
    refine wpF_done (by kernel_rfl) ?_ _
    go_wp2_with fail
    go_ret
    exact ⟨false, rfl, by simp [HE.out], hx.comp (Ext.drew no wr)⟩
    -->DF
  ·have d1 : decide (i < l.length) = false := decF hil
   have HE := Lib.hid (show l = m by
    have := Htk.out
    have := Hlm.out
    rwa [List.take_of_length_le (by omega), List.take_of_length_le (by omega)] at *)
   go_wp2_with fail
   go_ret
   exact ⟨true, rfl, by simp [HE.out], hx⟩
end Go.Proofs.YtddobhihjljcgaaGreat
/- Walks: Same of ops and of escrowref9. -/
namespace Go.Proofs.YtddobhihjljcgaaGreat
open Go.RowKit Go.Esc
set_option linter.unusedVariables false
set_option linter.unusedSimpArgs false
set_option maxHeartbeats 4000000 in
theorem refsame_any (w : World) (o p : OpR) (a b : Option Addr) (c d : Nat) (hl : Rd w a (ds o.dots)) (hm : Rd w b (ds p.dots)) (hll : o.dots.length ≤ 1099511627776) (hml : p.dots.length ≤ 1099511627776) :
  Calls Tryz.prog 72 #[o.v a c, p.v b d] w fun e w' => ∃ r : Bool, e = .returned (.bool r) ∧ (r = true ↔ o = p) ∧ Ext no w w' := by
 obtain ⟨⟨d1, e1, s1⟩, l1, v1, k1, y1, x1, n1, t1, q1⟩ := o
 obtain ⟨⟨d2, e2, s2⟩, l2, v2, k2, y2, x2, n2, t2, q2⟩ := p
 go_enter Tryz.func72, Tryz.ntmps72
 unfold OpR.v
 go_upto_region 1 with fail
 simp only at hl hm hll hml
 have hb1 := Blk.lit w #[.int .i64 d1, .int .i64 e1, .int .i64 s1, .int .i64 l1, .int .i64 v1, .int .i64 k1, .string (str y1), .string (str x1), .int .i64 n1, .int .i64 t1, .slice a q1.length c] 62
 have hx1 := Ext.alloc no w (.cells #[.int .i64 d1, .int .i64 e1, .int .i64 s1, .int .i64 l1, .int .i64 v1, .int .i64 k1, .string (str y1), .string (str x1), .int .i64 n1, .int .i64 t1, .slice a q1.length c] 62)
 have hb2 := Blk.at (w.alloc (.cells #[.int .i64 d1, .int .i64 e1, .int .i64 s1, .int .i64 l1, .int .i64 v1, .int .i64 k1, .string (str y1), .string (str x1), .int .i64 n1, .int .i64 t1, .slice a q1.length c] 62)) #[.int .i64 d2, .int .i64 e2, .int .i64 s2, .int .i64 l2, .int .i64 v2, .int .i64 k2, .string (str y2), .string (str x2), .int .i64 n2, .int .i64 t2, .slice b q2.length d] 62 (w.heap.size + 1) (by simp)
 have hx2 := Ext.alloc no (w.alloc (.cells #[.int .i64 d1, .int .i64 e1, .int .i64 s1, .int .i64 l1, .int .i64 v1, .int .i64 k1, .string (str y1), .string (str x1), .int .i64 n1, .int .i64 t1, .slice a q1.length c] 62)) (.cells #[.int .i64 d2, .int .i64 e2, .int .i64 s2, .int .i64 l2, .int .i64 v2, .int .i64 k2, .string (str y2), .string (str x2), .int .i64 n2, .int .i64 t2, .slice b q2.length d] 62)
 have hb1' := hb1.ext (by simp) hx2 (fun h => h)
 have hx := hx1.comp hx2
 clear hb1 hx1 hx2
 generalize (w.alloc (.cells #[.int .i64 d1, .int .i64 e1, .int .i64 s1, .int .i64 l1, .int .i64 v1, .int .i64 k1, .string (str y1), .string (str x1), .int .i64 n1, .int .i64 t1, .slice a q1.length c] 62)).alloc (.cells #[.int .i64 d2, .int .i64 e2, .int .i64 s2, .int .i64 l2, .int .i64 v2, .int .i64 k2, .string (str y2), .string (str x2), .int .i64 n2, .int .i64 t2, .slice b q2.length d] 62) = w1 at *
 have hl1 := hl.ext hx (fun _ _ h => h)
 have hm1 := hm.ext hx (fun _ _ h => h)
 clear hl hm
 have b0 := hb1'.cell 0 _ rfl
 have z0 := hb2.cell 0 _ rfl
 have b1 := hb1'.cell 1 _ rfl
 have z1 := hb2.cell 1 _ rfl
 have b2 := hb1'.cell 2 _ rfl
 have z2 := hb2.cell 2 _ rfl
 have b3 := hb1'.cell 3 _ rfl
 have z3 := hb2.cell 3 _ rfl
 have b4 := hb1'.cell 4 _ rfl
 have z4 := hb2.cell 4 _ rfl
 have b5 := hb1'.cell 5 _ rfl
 have z5 := hb2.cell 5 _ rfl
 have b6 := hb1'.cell 6 _ rfl
 have z6 := hb2.cell 6 _ rfl
 have b7 := hb1'.cell 7 _ rfl
 have z7 := hb2.cell 7 _ rfl
 have b8 := hb1'.cell 8 _ rfl
 have z8 := hb2.cell 8 _ rfl
 have b9 := hb1'.cell 9 _ rfl
 have z9 := hb2.cell 9 _ rfl
 have b10 := hb1'.cell 10 _ rfl
 have z10 := hb2.cell 10 _ rfl
 clear hb1' hb2
 generalize w.heap.size = g at *
 by_cases hd : d1 = d2
 rotate_left
 ·have HN := Lib.hid hd
  go_wp2_with fail
  go_ret
  exact ⟨false, rfl, ⟨fun h => (by cases h), fun h => (HN.out (by cases h; rfl)).elim⟩, hx⟩
 subst hd
 by_cases he : e1 = e2
 rotate_left
 ·have HN := Lib.hid he
  go_wp2_with fail
  go_ret
  exact ⟨false, rfl, ⟨fun h => (by cases h), fun h => (HN.out (by cases h; rfl)).elim⟩, hx⟩
 subst he
 by_cases hs : s1 = s2
 rotate_left
 ·have HN := Lib.hid hs
  go_wp2_with fail
  go_ret
  exact ⟨false, rfl, ⟨fun h => (by cases h), fun h => (HN.out (by cases h; rfl)).elim⟩, hx⟩
 subst hs
 by_cases hl : l1 = l2
 rotate_left
 ·have HN := Lib.hid hl
  have c0 : (l1 == l2) = false := by rw [beq_eq_false_iff_ne]; exact hl
  clear hl
  go_wp2_with fail
  go_ret
  exact ⟨false, rfl, ⟨fun h => (by cases h), fun h => (HN.out (by cases h; rfl)).elim⟩, hx⟩
 subst hl
 by_cases hv : v1 = v2
 rotate_left
 ·have HN := Lib.hid hv
  have c0 : (v1 == v2) = false := by rw [beq_eq_false_iff_ne]; exact hv
  clear hv
  go_wp2_with fail
  go_ret
  exact ⟨false, rfl, ⟨fun h => (by cases h), fun h => (HN.out (by cases h; rfl)).elim⟩, hx⟩
 subst hv
 by_cases hk : k1 = k2
 rotate_left
 ·have HN := Lib.hid hk
  have c0 : (k1 == k2) = false := by rw [beq_eq_false_iff_ne]; exact hk
  clear hk
  go_wp2_with fail
  go_ret
  exact ⟨false, rfl, ⟨fun h => (by cases h), fun h => (HN.out (by cases h; rfl)).elim⟩, hx⟩
 subst hk
 by_cases hy : y1 = y2
 rotate_left
 ·have HN := Lib.hid hy
  have c0 := beqStrF hy
  clear hy
  go_wp2_with fail
  go_ret
  exact ⟨false, rfl, ⟨fun h => (by cases h), fun h => (HN.out (by cases h; rfl)).elim⟩, hx⟩
 subst hy
 by_cases hx : x1 = x2
 rotate_left
 ·have HN := Lib.hid hx
  have c0 := beqStrF hx
  clear hx
  go_wp2_with fail
  go_ret
  exact ⟨false, rfl, ⟨fun h => (by cases h), fun h => (HN.out (by cases h; rfl)).elim⟩, hx⟩
 subst hx
 by_cases hn : n1 = n2
 rotate_left
 ·have HN := Lib.hid hn
  have c0 : (n1 == n2) = false := by rw [beq_eq_false_iff_ne]; exact hn
  clear hn
  go_wp2_with fail
  go_ret
  exact ⟨false, rfl, ⟨fun h => (by cases h), fun h => (HN.out (by cases h; rfl)).elim⟩, hx⟩
 subst hn
 by_cases ht : t1 = t2
 rotate_left
 ·have HN := Lib.hid ht
  have c0 : (t1 == t2) = false := by rw [beq_eq_false_iff_ne]; exact ht
  clear ht
  go_wp2_with fail
  go_ret
  exact ⟨false, rfl, ⟨fun h => (by cases h), fun h => (HN.out (by cases h; rfl)).elim⟩, hx⟩
 subst ht
 go_wp2_with fail
 refine (refdots_any w1 a b c d q1 q2 hl1 hm1 hll hml).mono ?_
 rintro e w2 ⟨r, rfl, hr, hx2⟩
 go_wp2_with fail
 go_ret
 exact ⟨r, rfl, ⟨fun h => (by rw [hr.1 h]), fun h => hr.2 (by cases h; rfl)⟩, hx.comp hx2⟩
end Go.Proofs.YtddobhihjljcgaaGreat
