/- The law's comparing of two lists. -/
import Derived.Test.YtnplelcnigpemaaRefB
namespace Go.Proofs.Ytnplelcnigpemaa
open Go.RowKit Go.Esc
set_option linter.unusedVariables false

theorem take_eq_step {l m : List Int} {k : Nat} (h : l.take k = m.take k) (hl : k < l.length) (hm : k < m.length) (he : l[k] = m[k]) : l.take (k + 1) = m.take (k + 1) := by
  rw [List.take_succ_eq_append_getElem hl, List.take_succ_eq_append_getElem hm, h, he]

set_option maxHeartbeats 1000000 in
theorem lists_any (w : World) (xa ya : Option Addr) (xc yc : Nat) (l m : List Int) (hx : Rd w xa (is l)) (hy : Rd w ya (is m)) (hl : l.length ≤ 1099511627776) (hm : m.length ≤ 1099511627776) :
    Calls Try.prog 28 #[.slice xa l.length xc, .slice ya m.length yc] w fun e w' => e = .returned (.bool (decide (l = m))) ∧ Ext no w w' := by
  by_cases hlen : l.length = m.length
  · have Hlen := Lib.hid hlen
    have hb : ((l.length : Int) == (m.length : Int)) = true := by rw [beq_iff_eq]; omega
    clear hlen
    go_enter Try.func28, Try.ntmps28
    go_wp2_with fail
    go_loopw [5] (fun s5 wr => ∃ k : Nat, k ≤ l.length ∧ s5 = .int .i64 k ∧ l.take k = m.take k ∧ Ext no w wr) (fun s5 _ => l.length - (intOf s5).toNat)
    case atStart => exact ⟨0, Nat.zero_le _, rfl, rfl, Ext.refl _ _⟩
    case round =>
      obtain ⟨k, hk, rfl, htk, hxr⟩ := hrel
      have Htk := Lib.hid htk
      clear htk
      by_cases hlt : k < l.length
      · have hlm : k < m.length := by have := Hlen.out; omega
        obtain ⟨ax, rfl, _⟩ := hx.ne (by simp; omega)
        obtain ⟨ay, rfl, _⟩ := hy.ne (by simp; omega)
        have hcx := hxr.keeps (hx.cell k (by simpa using hlt)) (fun h => h)
        have hcy := hxr.keeps (hy.cell k (by simpa using hlm)) (fun h => h)
        rw [show (is l)[k]'(by simpa using hlt) = .int .i64 l[k] from by simp [is, I64]] at hcx
        rw [show (is m)[k]'(by simpa using hlm) = .int .i64 m[k] from by simp [is, I64]] at hcy
        by_cases he : l[k] = m[k]
        · have Hst := Lib.hid (take_eq_step Htk.out hlt hlm he)
          have hbe : (l[k] == m[k]) = true := by rw [beq_iff_eq]; exact he
          clear he
          go_upto_region 6 with fail
          go_quiet (fail)
          go_wp2_with fail
          go_roundw
          case rel => exact ⟨k + 1, by omega, by go_num, Hst.out, hxr.comp (Ext.drewN no _ _)⟩
          case measure => simp [intOf]; omega
        · have Hne := Lib.hid (show l ≠ m from fun h => he (by subst h; rfl))
          have hbe : (l[k] == m[k]) = false := by rw [beq_eq_false_iff_ne]; exact he
          clear he
          go_upto_region 6 with fail
          go_quiet (fail)
          go_wp2_with fail
          go_ret
          exact ⟨by rw [decide_eq_false Hne.out]; rfl, hxr.comp (Ext.drewN no _ _)⟩
      · have Heq := Lib.hid (show l = m by
          have := Htk.out
          rwa [List.take_of_length_le (by omega), List.take_of_length_le (by have := Hlen.out; omega)] at this)
        go_wp2_with fail
        go_ret
        exact ⟨by rw [decide_eq_true Heq.out]; rfl, hxr⟩
  · have hb : ((l.length : Int) == (m.length : Int)) = false := by rw [beq_eq_false_iff_ne]; omega
    have Hne := Lib.hid (show l ≠ m from fun h => hlen (by rw [h]))
    clear hlen
    go_enter Try.func28, Try.ntmps28
    go_wp2_with fail
    go_ret
    exact ⟨by rw [decide_eq_false Hne.out]; rfl, Ext.refl _ _⟩
end Go.Proofs.Ytnplelcnigpemaa
