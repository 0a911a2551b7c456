/- Walks of the law's own small functions: known, within. -/
import Derived.Test.YtejmmkjpncpedaaGreatOpC
namespace Go.Proofs.YtejmmkjpncpedaaGreat
open Go.RowKit Go.Esc
set_option linter.unusedVariables false
set_option maxHeartbeats 400000 in
theorem within_any (a n : Int) (w : World) (h1 : 0 < n) (h2 : n ≤ 4611686018427387904) (h3 : I64ok a) :
    Calls Tryz.prog 36 #[.int .i64 a, .int .i64 n] w fun e w' => e = .returned (.int .i64 (a % n)) ∧ w = w' := by
  obtain ⟨h3, h4⟩ := h3
  have hb := Int.tmod_lt_of_pos a h1
  have hb' : -n ≤ a.tmod n := by
    have := tmod_pos a n h1
    have e1 := Int.emod_nonneg a (show n ≠ 0 by omega)
    have e2 := Int.emod_lt_of_pos a h1
    generalize a % n = q at *
    split at this <;> omega
  have he := tmod_pos a n h1
  have He := Lib.hid he
  clear he
  by_cases hn : a.tmod n < 0
  · go_enter Tryz.func36, Tryz.ntmps36
    go_wp2
    go_ret
    exact ⟨by rw [He.out, if_pos (by omega)]; rfl, rfl⟩
  · go_enter Tryz.func36, Tryz.ntmps36
    go_wp2
    go_ret
    exact ⟨by rw [He.out, if_neg (by omega)]; rfl, rfl⟩
end Go.Proofs.YtejmmkjpncpedaaGreat
