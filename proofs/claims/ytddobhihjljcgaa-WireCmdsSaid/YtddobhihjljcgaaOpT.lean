/- Walks: Same of ops and of escrowref9. -/
import Derived.Test.YtddobhihjljcgaaOpS
namespace Go.Proofs.Ytddobhihjljcgaa
open Go.RowKit Go.Esc
set_option linter.unusedVariables false
set_option linter.unusedSimpArgs false


set_option maxHeartbeats 4000000 in
theorem same_any (w : World) (o p : OpR) (a b : Option Addr) (c d : Nat) (hl : Rd w a (ds o.dots)) (hm : Rd w b (ds p.dots)) (hll : o.dots.length ≤ 1099511627776) (hml : p.dots.length ≤ 1099511627776) :
    Calls Try.prog 47 #[o.v a c, p.v b d] w fun e w' => ∃ r : Bool, e = .returned (.bool r) ∧ (r = true ↔ o = p) ∧ Ext no w w' := by
  obtain ⟨⟨d1, e1, s1⟩, l1, v1, k1, y1, x1, n1, t1, q1⟩ := o
  obtain ⟨⟨d2, e2, s2⟩, l2, v2, k2, y2, x2, n2, t2, q2⟩ := p
  go_enter Try.func47, Try.ntmps47
  unfold OpR.v
  go_upto_region 1 with fail
  simp only at hl hm hll hml
  have hb1 := Blk.lit w #[.int .i64 d1, .int .i64 e1, .int .i64 s1, .int .i64 l1, .int .i64 v1, .int .i64 k1, .string (str y1), .string (str x1), .int .i64 n1, .int .i64 t1, .slice a q1.length c] 60
  have hx1 := Ext.alloc no w (.cells #[.int .i64 d1, .int .i64 e1, .int .i64 s1, .int .i64 l1, .int .i64 v1, .int .i64 k1, .string (str y1), .string (str x1), .int .i64 n1, .int .i64 t1, .slice a q1.length c] 60)
  have hb2 := Blk.at (w.alloc (.cells #[.int .i64 d1, .int .i64 e1, .int .i64 s1, .int .i64 l1, .int .i64 v1, .int .i64 k1, .string (str y1), .string (str x1), .int .i64 n1, .int .i64 t1, .slice a q1.length c] 60)) #[.int .i64 d2, .int .i64 e2, .int .i64 s2, .int .i64 l2, .int .i64 v2, .int .i64 k2, .string (str y2), .string (str x2), .int .i64 n2, .int .i64 t2, .slice b q2.length d] 60 (w.heap.size + 1) (by simp)
  have hx2 := Ext.alloc no (w.alloc (.cells #[.int .i64 d1, .int .i64 e1, .int .i64 s1, .int .i64 l1, .int .i64 v1, .int .i64 k1, .string (str y1), .string (str x1), .int .i64 n1, .int .i64 t1, .slice a q1.length c] 60)) (.cells #[.int .i64 d2, .int .i64 e2, .int .i64 s2, .int .i64 l2, .int .i64 v2, .int .i64 k2, .string (str y2), .string (str x2), .int .i64 n2, .int .i64 t2, .slice b q2.length d] 60)
  have hb1' := hb1.ext (by simp) hx2 (fun h => h)
  have hx := hx1.comp hx2
  clear hb1 hx1 hx2
  generalize (w.alloc (.cells #[.int .i64 d1, .int .i64 e1, .int .i64 s1, .int .i64 l1, .int .i64 v1, .int .i64 k1, .string (str y1), .string (str x1), .int .i64 n1, .int .i64 t1, .slice a q1.length c] 60)).alloc (.cells #[.int .i64 d2, .int .i64 e2, .int .i64 s2, .int .i64 l2, .int .i64 v2, .int .i64 k2, .string (str y2), .string (str x2), .int .i64 n2, .int .i64 t2, .slice b q2.length d] 60) = w1 at *
  have hl1 := hl.ext hx (fun _ _ h => h)
  have hm1 := hm.ext hx (fun _ _ h => h)
  clear hl hm
  have b0 := hb1'.cell 0 _ rfl
  have z0 := hb2.cell 0 _ rfl
  have b1 := hb1'.cell 1 _ rfl
  have z1 := hb2.cell 1 _ rfl
  have b2 := hb1'.cell 2 _ rfl
  have z2 := hb2.cell 2 _ rfl
  have b3 := hb1'.cell 3 _ rfl
  have z3 := hb2.cell 3 _ rfl
  have b4 := hb1'.cell 4 _ rfl
  have z4 := hb2.cell 4 _ rfl
  have b5 := hb1'.cell 5 _ rfl
  have z5 := hb2.cell 5 _ rfl
  have b6 := hb1'.cell 6 _ rfl
  have z6 := hb2.cell 6 _ rfl
  have b7 := hb1'.cell 7 _ rfl
  have z7 := hb2.cell 7 _ rfl
  have b8 := hb1'.cell 8 _ rfl
  have z8 := hb2.cell 8 _ rfl
  have b9 := hb1'.cell 9 _ rfl
  have z9 := hb2.cell 9 _ rfl
  have b10 := hb1'.cell 10 _ rfl
  have z10 := hb2.cell 10 _ rfl
  clear hb1' hb2
  generalize w.heap.size = g at *
  by_cases hd : d1 = d2
  rotate_left
  · have HN := Lib.hid hd
    go_wp2_with fail
    go_ret
    exact ⟨false, rfl, ⟨fun h => (by cases h), fun h => (HN.out (by cases h; rfl)).elim⟩, hx⟩
  subst hd
  by_cases he : e1 = e2
  rotate_left
  · have HN := Lib.hid he
    go_wp2_with fail
    go_ret
    exact ⟨false, rfl, ⟨fun h => (by cases h), fun h => (HN.out (by cases h; rfl)).elim⟩, hx⟩
  subst he
  by_cases hs : s1 = s2
  rotate_left
  · have HN := Lib.hid hs
    go_wp2_with fail
    go_ret
    exact ⟨false, rfl, ⟨fun h => (by cases h), fun h => (HN.out (by cases h; rfl)).elim⟩, hx⟩
  subst hs
  by_cases hl : l1 = l2
  rotate_left
  · have HN := Lib.hid hl
    have c0 : (l1 == l2) = false := by rw [beq_eq_false_iff_ne]; exact hl
    clear hl
    go_wp2_with fail
    go_ret
    exact ⟨false, rfl, ⟨fun h => (by cases h), fun h => (HN.out (by cases h; rfl)).elim⟩, hx⟩
  subst hl
  by_cases hv : v1 = v2
  rotate_left
  · have HN := Lib.hid hv
    have c0 : (v1 == v2) = false := by rw [beq_eq_false_iff_ne]; exact hv
    clear hv
    go_wp2_with fail
    go_ret
    exact ⟨false, rfl, ⟨fun h => (by cases h), fun h => (HN.out (by cases h; rfl)).elim⟩, hx⟩
  subst hv
  by_cases hk : k1 = k2
  rotate_left
  · have HN := Lib.hid hk
    have c0 : (k1 == k2) = false := by rw [beq_eq_false_iff_ne]; exact hk
    clear hk
    go_wp2_with fail
    go_ret
    exact ⟨false, rfl, ⟨fun h => (by cases h), fun h => (HN.out (by cases h; rfl)).elim⟩, hx⟩
  subst hk
  by_cases hy : y1 = y2
  rotate_left
  · have HN := Lib.hid hy
    have c0 := beqStrF hy
    clear hy
    go_wp2_with fail
    go_ret
    exact ⟨false, rfl, ⟨fun h => (by cases h), fun h => (HN.out (by cases h; rfl)).elim⟩, hx⟩
  subst hy
  by_cases hx : x1 = x2
  rotate_left
  · have HN := Lib.hid hx
    have c0 := beqStrF hx
    clear hx
    go_wp2_with fail
    go_ret
    exact ⟨false, rfl, ⟨fun h => (by cases h), fun h => (HN.out (by cases h; rfl)).elim⟩, hx⟩
  subst hx
  by_cases hn : n1 = n2
  rotate_left
  · have HN := Lib.hid hn
    have c0 : (n1 == n2) = false := by rw [beq_eq_false_iff_ne]; exact hn
    clear hn
    go_wp2_with fail
    go_ret
    exact ⟨false, rfl, ⟨fun h => (by cases h), fun h => (HN.out (by cases h; rfl)).elim⟩, hx⟩
  subst hn
  by_cases ht : t1 = t2
  rotate_left
  · have HN := Lib.hid ht
    have c0 : (t1 == t2) = false := by rw [beq_eq_false_iff_ne]; exact ht
    clear ht
    go_wp2_with fail
    go_ret
    exact ⟨false, rfl, ⟨fun h => (by cases h), fun h => (HN.out (by cases h; rfl)).elim⟩, hx⟩
  subst ht
  go_wp2_with fail
  refine (eqdots_any w1 a b c d q1 q2 hl1 hm1 hll hml).mono ?_
  rintro e w2 ⟨r, rfl, hr, hx2⟩
  go_wp2_with fail
  go_ret
  exact ⟨r, rfl, ⟨fun h => (by rw [hr.1 h]), fun h => hr.2 (by cases h; rfl)⟩, hx.comp hx2⟩

set_option maxHeartbeats 4000000 in
theorem refsame_any (w : World) (o p : OpR) (a b : Option Addr) (c d : Nat) (hl : Rd w a (ds o.dots)) (hm : Rd w b (ds p.dots)) (hll : o.dots.length ≤ 1099511627776) (hml : p.dots.length ≤ 1099511627776) :
    Calls Try.prog 75 #[o.v a c, p.v b d] w fun e w' => ∃ r : Bool, e = .returned (.bool r) ∧ (r = true ↔ o = p) ∧ Ext no w w' := by
  obtain ⟨⟨d1, e1, s1⟩, l1, v1, k1, y1, x1, n1, t1, q1⟩ := o
  obtain ⟨⟨d2, e2, s2⟩, l2, v2, k2, y2, x2, n2, t2, q2⟩ := p
  go_enter Try.func75, Try.ntmps75
  unfold OpR.v
  go_upto_region 1 with fail
  simp only at hl hm hll hml
  have hb1 := Blk.lit w #[.int .i64 d1, .int .i64 e1, .int .i64 s1, .int .i64 l1, .int .i64 v1, .int .i64 k1, .string (str y1), .string (str x1), .int .i64 n1, .int .i64 t1, .slice a q1.length c] 60
  have hx1 := Ext.alloc no w (.cells #[.int .i64 d1, .int .i64 e1, .int .i64 s1, .int .i64 l1, .int .i64 v1, .int .i64 k1, .string (str y1), .string (str x1), .int .i64 n1, .int .i64 t1, .slice a q1.length c] 60)
  have hb2 := Blk.at (w.alloc (.cells #[.int .i64 d1, .int .i64 e1, .int .i64 s1, .int .i64 l1, .int .i64 v1, .int .i64 k1, .string (str y1), .string (str x1), .int .i64 n1, .int .i64 t1, .slice a q1.length c] 60)) #[.int .i64 d2, .int .i64 e2, .int .i64 s2, .int .i64 l2, .int .i64 v2, .int .i64 k2, .string (str y2), .string (str x2), .int .i64 n2, .int .i64 t2, .slice b q2.length d] 60 (w.heap.size + 1) (by simp)
  have hx2 := Ext.alloc no (w.alloc (.cells #[.int .i64 d1, .int .i64 e1, .int .i64 s1, .int .i64 l1, .int .i64 v1, .int .i64 k1, .string (str y1), .string (str x1), .int .i64 n1, .int .i64 t1, .slice a q1.length c] 60)) (.cells #[.int .i64 d2, .int .i64 e2, .int .i64 s2, .int .i64 l2, .int .i64 v2, .int .i64 k2, .string (str y2), .string (str x2), .int .i64 n2, .int .i64 t2, .slice b q2.length d] 60)
  have hb1' := hb1.ext (by simp) hx2 (fun h => h)
  have hx := hx1.comp hx2
  clear hb1 hx1 hx2
  generalize (w.alloc (.cells #[.int .i64 d1, .int .i64 e1, .int .i64 s1, .int .i64 l1, .int .i64 v1, .int .i64 k1, .string (str y1), .string (str x1), .int .i64 n1, .int .i64 t1, .slice a q1.length c] 60)).alloc (.cells #[.int .i64 d2, .int .i64 e2, .int .i64 s2, .int .i64 l2, .int .i64 v2, .int .i64 k2, .string (str y2), .string (str x2), .int .i64 n2, .int .i64 t2, .slice b q2.length d] 60) = w1 at *
  have hl1 := hl.ext hx (fun _ _ h => h)
  have hm1 := hm.ext hx (fun _ _ h => h)
  clear hl hm
  have b0 := hb1'.cell 0 _ rfl
  have z0 := hb2.cell 0 _ rfl
  have b1 := hb1'.cell 1 _ rfl
  have z1 := hb2.cell 1 _ rfl
  have b2 := hb1'.cell 2 _ rfl
  have z2 := hb2.cell 2 _ rfl
  have b3 := hb1'.cell 3 _ rfl
  have z3 := hb2.cell 3 _ rfl
  have b4 := hb1'.cell 4 _ rfl
  have z4 := hb2.cell 4 _ rfl
  have b5 := hb1'.cell 5 _ rfl
  have z5 := hb2.cell 5 _ rfl
  have b6 := hb1'.cell 6 _ rfl
  have z6 := hb2.cell 6 _ rfl
  have b7 := hb1'.cell 7 _ rfl
  have z7 := hb2.cell 7 _ rfl
  have b8 := hb1'.cell 8 _ rfl
  have z8 := hb2.cell 8 _ rfl
  have b9 := hb1'.cell 9 _ rfl
  have z9 := hb2.cell 9 _ rfl
  have b10 := hb1'.cell 10 _ rfl
  have z10 := hb2.cell 10 _ rfl
  clear hb1' hb2
  generalize w.heap.size = g at *
  by_cases hd : d1 = d2
  rotate_left
  · have HN := Lib.hid hd
    go_wp2_with fail
    go_ret
    exact ⟨false, rfl, ⟨fun h => (by cases h), fun h => (HN.out (by cases h; rfl)).elim⟩, hx⟩
  subst hd
  by_cases he : e1 = e2
  rotate_left
  · have HN := Lib.hid he
    go_wp2_with fail
    go_ret
    exact ⟨false, rfl, ⟨fun h => (by cases h), fun h => (HN.out (by cases h; rfl)).elim⟩, hx⟩
  subst he
  by_cases hs : s1 = s2
  rotate_left
  · have HN := Lib.hid hs
    go_wp2_with fail
    go_ret
    exact ⟨false, rfl, ⟨fun h => (by cases h), fun h => (HN.out (by cases h; rfl)).elim⟩, hx⟩
  subst hs
  by_cases hl : l1 = l2
  rotate_left
  · have HN := Lib.hid hl
    have c0 : (l1 == l2) = false := by rw [beq_eq_false_iff_ne]; exact hl
    clear hl
    go_wp2_with fail
    go_ret
    exact ⟨false, rfl, ⟨fun h => (by cases h), fun h => (HN.out (by cases h; rfl)).elim⟩, hx⟩
  subst hl
  by_cases hv : v1 = v2
  rotate_left
  · have HN := Lib.hid hv
    have c0 : (v1 == v2) = false := by rw [beq_eq_false_iff_ne]; exact hv
    clear hv
    go_wp2_with fail
    go_ret
    exact ⟨false, rfl, ⟨fun h => (by cases h), fun h => (HN.out (by cases h; rfl)).elim⟩, hx⟩
  subst hv
  by_cases hk : k1 = k2
  rotate_left
  · have HN := Lib.hid hk
    have c0 : (k1 == k2) = false := by rw [beq_eq_false_iff_ne]; exact hk
    clear hk
    go_wp2_with fail
    go_ret
    exact ⟨false, rfl, ⟨fun h => (by cases h), fun h => (HN.out (by cases h; rfl)).elim⟩, hx⟩
  subst hk
  by_cases hy : y1 = y2
  rotate_left
  · have HN := Lib.hid hy
    have c0 := beqStrF hy
    clear hy
    go_wp2_with fail
    go_ret
    exact ⟨false, rfl, ⟨fun h => (by cases h), fun h => (HN.out (by cases h; rfl)).elim⟩, hx⟩
  subst hy
  by_cases hx : x1 = x2
  rotate_left
  · have HN := Lib.hid hx
    have c0 := beqStrF hx
    clear hx
    go_wp2_with fail
    go_ret
    exact ⟨false, rfl, ⟨fun h => (by cases h), fun h => (HN.out (by cases h; rfl)).elim⟩, hx⟩
  subst hx
  by_cases hn : n1 = n2
  rotate_left
  · have HN := Lib.hid hn
    have c0 : (n1 == n2) = false := by rw [beq_eq_false_iff_ne]; exact hn
    clear hn
    go_wp2_with fail
    go_ret
    exact ⟨false, rfl, ⟨fun h => (by cases h), fun h => (HN.out (by cases h; rfl)).elim⟩, hx⟩
  subst hn
  by_cases ht : t1 = t2
  rotate_left
  · have HN := Lib.hid ht
    have c0 : (t1 == t2) = false := by rw [beq_eq_false_iff_ne]; exact ht
    clear ht
    go_wp2_with fail
    go_ret
    exact ⟨false, rfl, ⟨fun h => (by cases h), fun h => (HN.out (by cases h; rfl)).elim⟩, hx⟩
  subst ht
  go_wp2_with fail
  refine (refdots_any w1 a b c d q1 q2 hl1 hm1 hll hml).mono ?_
  rintro e w2 ⟨r, rfl, hr, hx2⟩
  go_wp2_with fail
  go_ret
  exact ⟨r, rfl, ⟨fun h => (by rw [hr.1 h]), fun h => hr.2 (by cases h; rfl)⟩, hx.comp hx2⟩
end Go.Proofs.Ytddobhihjljcgaa
