/- The bytes of a number, one by one: in plain terms. -/
import Derived.Test.YtnplelcnigpemaaPlainC
namespace Go.Esc
open Go.RowKit

theorem hiRev_mem (v : Nat) : ∀ c ∈ hiRev v, 128 ≤ c.toNat := by
  induction v using Nat.strongRecOn with
  | _ v ih =>
    intro c hc
    by_cases h0 : v = 0
    · subst h0; rw [hiRev_zero] at hc; cases hc
    · rw [hiRev_pos (by omega)] at hc
      rcases List.mem_cons.mp hc with rfl | hc
      · rw [toNat_b8 _ (by omega)]; omega
      · exact ih (v / 128) (by omega) c hc

theorem hiRev_last (v : Nat) (h : 0 < v) : ∃ p c, hiRev v = p ++ [c] ∧ 128 < c.toNat := by
  induction v using Nat.strongRecOn with
  | _ v ih =>
    rw [hiRev_pos h]
    by_cases h0 : v / 128 = 0
    · rw [h0, hiRev_zero]
      exact ⟨[], _, rfl, by rw [toNat_b8 _ (by omega)]; omega⟩
    · obtain ⟨p, c, hp, hc⟩ := ih (v / 128) (by omega) (by omega)
      rw [hp]
      exact ⟨_ :: p, c, rfl, hc⟩

theorem row_mark (u j : Nat) (hj : j < (row u).length) : 128 ≤ (row u)[j].toNat ↔ j + 1 < (row u).length := by
  have hr : row u = (hiRev (u / 128)).reverse ++ [b8 (u % 128)] := by unfold row revRow; rw [List.reverse_cons]
  have hl : (row u).length = (hiRev (u / 128)).length + 1 := by rw [hr]; simp
  by_cases h : j < (hiRev (u / 128)).length
  · have : (row u)[j] = (hiRev (u / 128)).reverse[j]'(by simpa using h) := by
      simp only [hr]; exact List.getElem_append_left (by simpa using h)
    rw [this]
    have := hiRev_mem (u / 128) ((hiRev (u / 128)).reverse[j]'(by simpa using h)) (by rw [← List.mem_reverse]; exact List.getElem_mem _)
    constructor <;> intro _ <;> omega
  · have : (row u)[j] = b8 (u % 128) := by
      simp only [hr]; rw [List.getElem_append_right (by simp; omega)]; simp
    rw [this, toNat_b8 _ (by omega)]
    constructor <;> intro _ <;> omega

theorem row_first (u : Nat) (h : 1 < (row u).length) : (row u)[0].toNat ≠ 128 := by
  have hr : row u = (hiRev (u / 128)).reverse ++ [b8 (u % 128)] := by unfold row revRow; rw [List.reverse_cons]
  have hl : (row u).length = (hiRev (u / 128)).length + 1 := by rw [hr]; simp
  by_cases h0 : u / 128 = 0
  · rw [h0, hiRev_zero] at hl; simp at hl; omega
  · obtain ⟨p, c, hp, hc⟩ := hiRev_last (u / 128) (by omega)
    have : (row u)[0] = c := by simp only [hr, hp]; simp
    rw [this]; omega
end Go.Esc
