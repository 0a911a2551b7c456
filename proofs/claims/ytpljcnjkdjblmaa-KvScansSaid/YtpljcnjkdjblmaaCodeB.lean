/- Walks of the package code: turned, Grow, Concat, Clone, Int. -/
import Derived.Test.YtpljcnjkdjblmaaCodeA
namespace Go.Proofs.Ytpljcnjkdjblmaa
open Go.RowKit Go.Esc

set_option maxHeartbeats 400000 in
theorem turned_any (n : Int) (w : World) (h1 : -9223372036854775808 ≤ n) (h2 : n ≤ 9223372036854775807) :
    Calls Try.prog 74 #[.int .i64 n] w fun e w' => e = .returned (.int .u64 (zig n)) ∧ w = w' := by
  by_cases hn : n < 0
  · have ho := or1 (-(n + 1) * 2) (by omega) (by omega) (by omega)
    go_enter Try.func74, Try.ntmps74
    go_wp2
    go_ret
    have hz : (-(n + 1) * 2 + 1 : Int) = ((zig n : Nat) : Int) := by unfold zig; rw [if_pos (by omega)]; omega
    exact ⟨by rw [← hz]; rfl, rfl⟩
  · have hn0 : 0 ≤ n := by omega
    go_enter Try.func74, Try.ntmps74
    go_wp2
    go_ret
    have hz : (n * 2 : Int) = ((zig n : Nat) : Int) := by unfold zig; rw [if_neg (by omega)]; omega
    exact ⟨by rw [← hz]; rfl, rfl⟩

end Go.Proofs.Ytpljcnjkdjblmaa
