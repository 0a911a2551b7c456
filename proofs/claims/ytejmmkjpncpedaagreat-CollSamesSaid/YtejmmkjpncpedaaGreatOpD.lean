/- Slices of dots; Less of the document's chapter 9. -/
import Derived.Test.YtejmmkjpncpedaaGreatOpC
namespace Go.Proofs.YtejmmkjpncpedaaGreat
open Go.RowKit Go.Esc
set_option linter.unusedVariables false
theorem TDots : SlT Tryz.prog 28 39 (.agg #[.int .i64 0, .int .i64 0, .int .i64 0]) 3 24 := ⟨Tryz.underlying28, by kernel_rfl, rfl, by decide⟩
theorem risesB_snoc (D : List DotR) (d : DotR) (p : DotR) (hp : D.getLast? = some p) : risesB (D ++ [d]) = (risesB D && p.lt d) := by
  induction D with
  | nil => simp at hp
  | cons a D ih =>
    cases D with
    | nil => simp at hp; subst hp; simp [risesB]
    | cons b D =>
      rw [List.cons_append, List.cons_append, risesB, ← List.cons_append, ih (by simpa using hp), risesB, Bool.and_assoc]
theorem tdiv2_ok (n : Int) (h : I64ok n) : I64ok (n.tdiv 2) := by
  unfold I64ok at *
  have h1 := @Int.tdiv_eq_ediv n 2
  have h2 : Int.sign 2 = 1 := rfl
  rw [h2] at h1
  split at h1 <;> omega
theorem tdiv4_ok (n : Int) (h : I64ok n) : I64ok (n.tdiv 4) := by
  unfold I64ok at *
  have h1 := @Int.tdiv_eq_ediv n 4
  have h2 : Int.sign 4 = 1 := rfl
  rw [h2] at h1
  split at h1 <;> omega
theorem less_any (w : World) (x y : DotR) :
    Calls Tryz.prog 37 #[x.v, y.v] w fun e w' => e = .returned (.bool (x.lt y)) ∧ Ext no w w' := by
  obtain ⟨r, hr⟩ : ∃ r, r = x.lt y := ⟨_, rfl⟩
  have Hr := Lib.hid hr
  rw [← hr]
  clear hr
  go_enter Tryz.func37, Tryz.ntmps37
  unfold DotR.v
  go_upto_region 1 with fail
  have hb1 := Blk.lit w #[.int .i64 x.dev, .int .i64 x.ep, .int .i64 x.seq] 39
  have hx1 := Ext.alloc no w (.cells #[.int .i64 x.dev, .int .i64 x.ep, .int .i64 x.seq] 39)
  have hb2 := Blk.at (w.alloc (.cells #[.int .i64 x.dev, .int .i64 x.ep, .int .i64 x.seq] 39)) #[.int .i64 y.dev, .int .i64 y.ep, .int .i64 y.seq] 39 (w.heap.size + 1) (by simp)
  have hx2 := Ext.alloc no (w.alloc (.cells #[.int .i64 x.dev, .int .i64 x.ep, .int .i64 x.seq] 39)) (.cells #[.int .i64 y.dev, .int .i64 y.ep, .int .i64 y.seq] 39)
  have hb1' := hb1.ext (by simp) hx2 (fun h => h)
  replace hx1 := hx1.comp hx2
  clear hb1 hx2
  generalize (w.alloc (.cells #[.int .i64 x.dev, .int .i64 x.ep, .int .i64 x.seq] 39)).alloc (.cells #[.int .i64 y.dev, .int .i64 y.ep, .int .i64 y.seq] 39) = w1 at *
  have p0 := hb1'.cell 0 _ rfl
  have p1 := hb1'.cell 1 _ rfl
  have p2 := hb1'.cell 2 _ rfl
  have q0 := hb2.cell 0 _ rfl
  have q1 := hb2.cell 1 _ rfl
  have q2 := hb2.cell 2 _ rfl
  clear hb1' hb2
  by_cases h0 : x.dev = y.dev
  · have c0 : (x.dev != y.dev) = false := by rw [bne_eq_false_iff_eq]; exact h0
    have H0 := Lib.hid h0
    clear h0
    by_cases h1 : x.ep = y.ep
    · have c1 : (x.ep != y.ep) = false := by rw [bne_eq_false_iff_eq]; exact h1
      have H1 := Lib.hid h1
      clear h1
      go_wp2_with fail
      go_ret
      exact ⟨by rw [Hr.out]; unfold DotR.lt; rw [if_neg (by rw [H0.out]; simp), if_neg (by rw [H1.out]; simp)]; rfl, hx1⟩
    · have c1 : (x.ep != y.ep) = true := by rw [bne_iff_ne]; exact h1
      have H1 := Lib.hid h1
      clear h1
      go_wp2_with fail
      go_ret
      exact ⟨by rw [Hr.out]; unfold DotR.lt; rw [if_neg (by rw [H0.out]; simp), if_pos H1.out]; rfl, hx1⟩
  · have c0 : (x.dev != y.dev) = true := by rw [bne_iff_ne]; exact h0
    have H0 := Lib.hid h0
    clear h0
    go_wp2_with fail
    go_ret
    exact ⟨by rw [Hr.out]; unfold DotR.lt; rw [if_pos H0.out]; rfl, hx1⟩
end Go.Proofs.YtejmmkjpncpedaaGreat
