/- What the laws of chapter 5 share: within, known, rows of changes. -/
import Derived.Test.YtpljcnjkdjblmaaKvG
namespace Go.Proofs.Ytpljcnjkdjblmaa
open Go.RowKit Go.Esc
set_option linter.unusedVariables false
set_option linter.unusedSimpArgs false

theorem TChange : SlT Try.prog 36 39 (.agg #[.int .i64 0, .string { data := #[] }, .string { data := #[] }, .bool false]) 4 48 := ⟨Try.underlying36, by kernel_rfl, rfl, by decide⟩
set_option maxHeartbeats 400000 in
theorem kvwithin_any (a n : Int) (w : World) (h1 : 0 < n) (h2 : n ≤ 4611686018427387904) (h3 : I64ok a) :
    Calls Try.prog 11 #[.int .i64 a, .int .i64 n] w fun e w' => e = .returned (.int .i64 (a % n)) ∧ w = w' := by
  obtain ⟨h3, h4⟩ := h3
  have hb := Int.tmod_lt_of_pos a h1
  have hb' : -n ≤ a.tmod n := by
    have := tmod_pos a n h1
    have e1 := Int.emod_nonneg a (show n ≠ 0 by omega)
    have e2 := Int.emod_lt_of_pos a h1
    generalize a % n = q at *
    split at this <;> omega
  have he := tmod_pos a n h1
  have He := Lib.hid he
  clear he
  by_cases hn : a.tmod n < 0
  · go_enter Try.func11, Try.ntmps11
    go_wp2
    go_ret
    exact ⟨by rw [He.out, if_pos (by omega)]; rfl, rfl⟩
  · go_enter Try.func11, Try.ntmps11
    go_wp2
    go_ret
    exact ⟨by rw [He.out, if_neg (by omega)]; rfl, rfl⟩

set_option maxRecDepth 100000 in
set_option maxHeartbeats 4000000 in
/-- A new disk, and a store on it. -/
theorem kvfresh (w : World) (g : Nat) (room : Nat) (hD : Dk w g (DS.new room) (fun _ => False)) (hr : room ≤ 16777216) :
    Calls Try.prog 13 #[.pointer (some ⟨g, 0, none⟩)] w fun e w' => ∃ s j b, e = .returned (.tuple #[.pointer (some ⟨s, 0, none⟩), .int .i64 0]) ∧ St w' g s j b (DS.new room) 0 [] ∧ (w.heap.size ≤ s ∧ w.heap.size ≤ j ∧ w.heap.size ≤ b) ∧ Ext (just g) w w' :=
  kvopen_empty w g (DS.new room) (DS.new room) hD ((Well.new room).ok (by simp) hr (by omega)) (new_opens room)

set_option maxRecDepth 100000 in
set_option maxHeartbeats 4000000 in
theorem kvknown_any (w : World) : Calls Try.prog 10 #[] w fun e w' => e = .returned (.bool true) ∧ Ext no w w' := by
  go_enter Try.func10, Try.ntmps10
  go_wp2_with fail
  refine (newdisk_any w 1000 (by omega) (by omega) (fun _ => False)).mono ?_
  rintro e w1 ⟨g, rfl, hD, hg, hx1⟩
  go_wp2_with fail
  refine (kvfresh w1 g 1000 hD (by omega)).mono ?_
  rintro e w2 ⟨s, j, b, rfl, hSt, ⟨h1, h2, h3⟩, hx2⟩
  have hW := hx1.trans hx2 (fun k hk e => by have e : k = g := e; omega)
  have hw1 := hx1.size
  go_wp2_with fail
  refine (kvapply_any w2 g s j b 0 (DS.new 1000) [] hSt ((Well.new 1000).ok (by simp) (by omega) (by omega)) (by simp [DS.new]) (by omega) (by simp) none [] 0 (Rd.nil _ _) (fun c hc => by cases hc) (Nat.le_refl _) (Nat.zero_le _) (fun _ hne => absurd rfl hne)).mono ?_
  rintro e w3 ⟨rfl, b', hSt3, hb', hx3⟩
  have hW3 := hW.trans hx3 (fun k hk e => by rcases e with e | e | e <;> omega)
  have hk0 : kvErr [] [] = 0 := by decide
  have hm : MapIn w3 b' [] := hSt3.mp
  have hbk := hSt3.blk
  clear hSt hSt3 hx1 hx2 hx3 hD
  rw [hk0]
  go_wp2_with fail
  refine (kvlen_any w3 s j b' [] hbk hm (by simp)).mono ?_
  rintro e _ ⟨rfl, rfl⟩
  go_wp2_with fail
  go_ret
  exact ⟨rfl, hW3⟩
end Go.Proofs.Ytpljcnjkdjblmaa
