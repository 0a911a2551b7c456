/- Walks of the package code: New and End of a reader. -/
import Derived.Test.YtddobhihjljcgaaCodeG
namespace Go.Proofs.Ytddobhihjljcgaa
open Go.RowKit Go.Esc
set_option linter.unusedVariables false

theorem new_any (w : World) (a : Option Addr) (c : Nat) (l : List UInt8) (hrd : Rd w a (bs l)) (hl : l.length ≤ 70368744177664) :
    Calls Try.prog 30 #[.slice a l.length c] w fun e w' => ∃ g d, e = .returned (.pointer (some ⟨g, 0, none⟩)) ∧ Rdr w' g d l 0 ∧ w.heap.size ≤ g ∧ (∀ i, d = some i → w.heap.size ≤ i) ∧ Ext no w w' := by
  go_enter Try.func30, Try.ntmps30
  go_wp2_with fail
  refine (clone_any w a c l hrd hl).mono ?_
  rintro e w1 ⟨a2, c2, rfl, hown, hx⟩
  have h1 := hown.nc
  have h2 := hown.cm
  have h3 := hown.rd
  have h4 := hown.base
  clear hown
  go_wp2_with fail
  go_ret
  have hxa : Ext no w1 (w1.alloc (.cells #[.slice a2 l.length c2, .int .i64 0] 115)) := Ext.alloc _ _ _
  refine ⟨w1.heap.size, a2.map Addr.block, rfl, ⟨⟨a2, c2, by simp, h1, h2, h3.ext hxa (fun _ _ h => h), fun ad ha => by rw [ha]; rfl⟩, ?_, by simp, fun j => by simp⟩, hx.size, ?_, hx.comp hxa⟩
  · intro i hi
    cases a2 with
    | none => cases hi
    | some ad =>
      have := (h4 ad rfl).2.1
      simp at hi ⊢
      omega
  · intro i hi
    cases a2 with
    | none => cases hi
    | some ad =>
      have := (h4 ad rfl).1
      simp at hi
      omega

theorem end_any (w : World) (g : Nat) {d : Option Nat} (s : RS) (h : Rdr w g d s.l s.e) :
    Calls Try.prog 34 #[.pointer (some ⟨g, 0, none⟩)] w fun e w' => e = .returned (.int .i64 (rEnd s)) ∧ w = w' := by
  obtain ⟨a, c, h1, h2, h3, h4, h5⟩ := h.sl
  have hc := h.err
  by_cases h0 : s.e = 0
  · have hb : (s.e == 0) = true := by rw [beq_iff_eq]; exact h0
    by_cases hl : 0 < s.l.length
    · have hl' : decide (0 < s.l.length) = true := by rw [decide_eq_true_eq]; omega
      have hr : rEnd s = 9 := by unfold rEnd; rw [if_pos ⟨h0, hl⟩]
      have Hr := Lib.hid hr
      clear h0 hl hr
      go_enter Try.func34, Try.ntmps34
      go_wp2_with fail
      go_ret
      exact ⟨by rw [Hr.out]; rfl, rfl⟩
    · have hl' : decide (0 < s.l.length) = false := by rw [decide_eq_false_iff_not]; omega
      have hr : rEnd s = s.e := by unfold rEnd; rw [if_neg (fun hh => hl hh.2)]
      have Hr := Lib.hid hr
      clear h0 hl hr
      go_enter Try.func34, Try.ntmps34
      go_wp2_with fail
      go_ret
      exact ⟨by rw [Hr.out]; rfl, rfl⟩
  · have hb : (s.e == 0) = false := by rw [beq_eq_false_iff_ne]; exact h0
    have hr : rEnd s = s.e := by unfold rEnd; rw [if_neg (fun hh => h0 hh.1)]
    have Hr := Lib.hid hr
    clear h0 hr
    go_enter Try.func34, Try.ntmps34
    go_wp2_with fail
    go_ret
    exact ⟨by rw [Hr.out]; rfl, rfl⟩
end Go.Proofs.Ytddobhihjljcgaa
