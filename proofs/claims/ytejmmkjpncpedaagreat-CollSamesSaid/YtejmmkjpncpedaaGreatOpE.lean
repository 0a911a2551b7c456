/- Walks: Text of escrowref5, Check of escrowref9, Few. -/
import Derived.Test.YtejmmkjpncpedaaGreatOpD
namespace Go.Proofs.YtejmmkjpncpedaaGreat
open Go.RowKit Go.Esc
set_option linter.unusedVariables false
def fewB (o : OpR) : Bool := decide (o.key.length ≤ 60 ∧ o.text.length ≤ 60 ∧ o.dots.length ≤ 12)
theorem few_any (w : World) (o : OpR) (a : Option Addr) (c : Nat) (hl : o.dots.length ≤ maxLen) (hks : o.key.length ≤ maxLen) (hts : o.text.length ≤ maxLen) :
    Calls Tryz.prog 11 #[o.v a c] w fun e w' => e = .returned (.bool (fewB o)) ∧ Ext no w w' := by
  unfold maxLen at *
  obtain ⟨r, hr⟩ : ∃ r, r = fewB o := ⟨_, rfl⟩
  have Hr := Lib.hid hr
  rw [← hr]
  clear hr
  go_enter Tryz.func11, Tryz.ntmps11
  unfold OpR.v
  go_upto_region 1 with fail
  have hb := Blk.lit w #[.int .i64 o.dot.dev, .int .i64 o.dot.ep, .int .i64 o.dot.seq, .int .i64 o.coll, .int .i64 o.ver, .int .i64 o.kind, .string (str o.key), .string (str o.text), .int .i64 o.n, .int .i64 o.time, .slice a o.dots.length c] 51
  have hx := Ext.alloc no w (.cells #[.int .i64 o.dot.dev, .int .i64 o.dot.ep, .int .i64 o.dot.seq, .int .i64 o.coll, .int .i64 o.ver, .int .i64 o.kind, .string (str o.key), .string (str o.text), .int .i64 o.n, .int .i64 o.time, .slice a o.dots.length c] 51)
  generalize w.alloc (.cells #[.int .i64 o.dot.dev, .int .i64 o.dot.ep, .int .i64 o.dot.seq, .int .i64 o.coll, .int .i64 o.ver, .int .i64 o.kind, .string (str o.key), .string (str o.text), .int .i64 o.n, .int .i64 o.time, .slice a o.dots.length c] 51) = w1 at *
  have b0 := hb.cell 0 _ rfl
  have b1 := hb.cell 1 _ rfl
  have b2 := hb.cell 2 _ rfl
  have b3 := hb.cell 3 _ rfl
  have b4 := hb.cell 4 _ rfl
  have b5 := hb.cell 5 _ rfl
  have b6 := hb.cell 6 _ rfl
  have b7 := hb.cell 7 _ rfl
  have b8 := hb.cell 8 _ rfl
  have b9 := hb.cell 9 _ rfl
  have b10 := hb.cell 10 _ rfl
  clear hb
  by_cases h1 : o.key.length ≤ 60
  · have d1 : decide (((str o.key).size : Int) ≤ 60) = true := decT (by rw [str_size]; omega)
    by_cases h2 : o.text.length ≤ 60
    · have d2 : decide (((str o.text).size : Int) ≤ 60) = true := decT (by rw [str_size]; omega)
      by_cases h3 : o.dots.length ≤ 12
      · have H := Lib.hid (And.intro h1 (And.intro h2 h3))
        have d3 : decide ((o.dots.length : Int) ≤ 12) = true := decT (by omega)
        go_wp2_with fail
        go_ret
        exact ⟨by rw [Hr.out, fewB, decT H.out]; rfl, hx⟩
      · have H := Lib.hid (show ¬ (o.key.length ≤ 60 ∧ o.text.length ≤ 60 ∧ o.dots.length ≤ 12) from fun h => h3 h.2.2)
        have d3 : decide ((o.dots.length : Int) ≤ 12) = false := decF (by omega)
        go_wp2_with fail
        go_ret
        exact ⟨by rw [Hr.out, fewB, decF H.out]; rfl, hx⟩
    · have H := Lib.hid (show ¬ (o.key.length ≤ 60 ∧ o.text.length ≤ 60 ∧ o.dots.length ≤ 12) from fun h => h2 h.2.1)
      have d2 : decide (((str o.text).size : Int) ≤ 60) = false := decF (by rw [str_size]; omega)
      go_wp2_with fail
      go_ret
      exact ⟨by rw [Hr.out, fewB, decF H.out]; rfl, hx⟩
  · have H := Lib.hid (show ¬ (o.key.length ≤ 60 ∧ o.text.length ≤ 60 ∧ o.dots.length ≤ 12) from fun h => h1 h.1)
    have d1 : decide (((str o.key).size : Int) ≤ 60) = false := decF (by rw [str_size]; omega)
    go_wp2_with fail
    go_ret
    exact ⟨by rw [Hr.out, fewB, decF H.out]; rfl, hx⟩
end Go.Proofs.YtejmmkjpncpedaaGreat
