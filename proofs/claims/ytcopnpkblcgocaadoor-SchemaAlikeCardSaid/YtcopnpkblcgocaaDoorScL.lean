/- The laws of chapter 8: what they share; steps, plainly. -/
import Derived.Test.YtcopnpkblcgocaaDoorScF
import Derived.Lib.SlBytesConst
namespace Go.Esc
theorem lowB_lowB (b : UInt8) : lowB (lowB b) = lowB b := by
  by_cases h : 65 ≤ b.toNat ∧ b.toNat ≤ 90
  · have := (lowB_great h).2
    exact lowB_not (by omega)
  · rw [lowB_not h, lowB_not h]
theorem low_low (l : List UInt8) : low (low l) = low l := by unfold low; rw [List.map_map]; congr 1; funext b; exact lowB_lowB b
theorem lowB_blank (b : UInt8) : lowB b = 32 ↔ b = 32 := by
  by_cases h : 65 ≤ b.toNat ∧ b.toNat ≤ 90
  · have h2 := (lowB_great h).2
    constructor
    · intro e; rw [e] at h2; simp at h2; omega
    · intro e; rw [e] at h; simp at h
  · rw [lowB_not h]
theorem low_trimL (l : List UInt8) : low (trimL l) = trimL (low l) := by
  induction l with
  | nil => rfl
  | cons b t ih =>
    have e : low (b :: t) = lowB b :: low t := rfl
    rw [trimL_cons, e, trimL_cons]
    by_cases hb : b = 32
    · rw [if_pos hb, if_pos ((lowB_blank b).2 hb)]; exact ih
    · rw [if_neg hb, if_neg (fun h => hb ((lowB_blank b).1 h))]; rfl
theorem low_trimR (l : List UInt8) : low (trimR l) = trimR (low l) := by
  have e : ∀ x : List UInt8, low x.reverse = (low x).reverse := fun x => by unfold low; rw [List.map_reverse]
  unfold trimR
  rw [e, low_trimL, e]
theorem trimL_trimL (l : List UInt8) : trimL (trimL l) = trimL l := by
  induction l with
  | nil => rfl
  | cons b t ih =>
    rw [trimL_cons]
    by_cases hb : b = 32
    · rw [if_pos hb]; exact ih
    · rw [if_neg hb, trimL_cons, if_neg hb]
theorem trimR_trimR (l : List UInt8) : trimR (trimR l) = trimR l := by unfold trimR; rw [List.reverse_reverse, trimL_trimL]
theorem trim_trim (l : List UInt8) : trim (trim l) = trim l := by
  unfold trim
  rw [← trim_comm, trimL_trimL, trimR_trimR]
theorem low_trim (l : List UInt8) : low (trim l) = trim (low l) := by unfold trim; rw [low_trimL, low_trimR]
theorem up_len (l : List UInt8) (a b : Int) : (up l a b).length ≤ l.length := by
  have h1 : ∀ x : List UInt8, (trim x).length ≤ x.length := fun x => Nat.le_trans (trimL_len _) (trimR_len _)
  have h2 := low_len l
  unfold up
  split
  · simp
  · split
    · exact Nat.le_refl _
    · split
      · split
        · omega
        · have := h1 (low l); omega
      · exact h1 l
theorem ups (l : List UInt8) {a b c : Int} (h1 : 1 ≤ a) (h2 : a ≤ b) (h3 : b ≤ c) (h4 : c ≤ 3) :
    upErr a b = 0 ∧ upErr b c = 0 ∧ upErr a c = 0 ∧ upErr a a = 0 ∧ up (up l a b) b c = up l a c ∧ up l a a = l ∧ up (up l a c) a c = up l a c := by
  have v : ∀ x : Int, 1 ≤ x → x ≤ 3 → isVer x = true := fun x p q => (isVer_iff x).2 ⟨p, q⟩
  have e : ∀ x y : Int, 1 ≤ x → x ≤ y → y ≤ 3 → upErr x y = 0 := fun x y p q r => upErr_ok ⟨v x p (by omega), v y (by omega) r⟩ (by omega)
  refine ⟨e a b h1 h2 (by omega), e b c (by omega) h3 h4, e a c h1 (by omega) h4, e a a h1 (Int.le_refl _) (by omega), ?_, up_same l (e a a h1 (Int.le_refl _) (by omega)), ?_⟩
  · rcases (show a = b ∨ b = c ∨ (a = 1 ∧ b = 2 ∧ c = 3) by omega) with rfl | rfl | ⟨rfl, rfl, rfl⟩
    · rw [up_same l (e a a h1 (Int.le_refl _) (by omega))]
    · rw [up_same _ (e b b (by omega) (Int.le_refl _) h4)]
    · rfl
  · rcases (show a = c ∨ (a = 1 ∧ c = 2) ∨ (a = 1 ∧ c = 3) ∨ (a = 2 ∧ c = 3) by omega) with rfl | ⟨rfl, rfl⟩ | ⟨rfl, rfl⟩ | ⟨rfl, rfl⟩
    · rw [up_same _ (e a a h1 (Int.le_refl _) h4)]
    · exact low_low l
    · show trim (low (trim (low l))) = trim (low l)
      rw [low_trim, low_low, trim_trim]
    · exact trim_trim l
end Go.Esc
namespace Go.Proofs.YtcopnpkblcgocaaDoor
open Go.RowKit Go.Esc
set_option linter.unusedVariables false
set_option linter.unusedSimpArgs false

set_option maxHeartbeats 400000 in
theorem within_any (a n : Int) (w : World) (h1 : 0 < n) (h2 : n ≤ 4611686018427387904) (h3 : I64ok a) :
    Calls Tryd.prog 9 #[.int .i64 a, .int .i64 n] w fun e w' => e = .returned (.int .i64 (a % n)) ∧ w = w' := by
  obtain ⟨h3, h4⟩ := h3
  have hb := Int.tmod_lt_of_pos a h1
  have hb' : -n ≤ a.tmod n := by
    have := tmod_pos a n h1
    have e1 := Int.emod_nonneg a (show n ≠ 0 by omega)
    have e2 := Int.emod_lt_of_pos a h1
    generalize a % n = q at *
    split at this <;> omega
  have he := tmod_pos a n h1
  have He := Lib.hid he
  clear he
  by_cases hn : a.tmod n < 0
  · go_enter Tryd.func9, Tryd.ntmps9
    go_wp2
    go_ret
    exact ⟨by rw [He.out, if_pos (by omega)]; rfl, rfl⟩
  · go_enter Tryd.func9, Tryd.ntmps9
    go_wp2
    go_ret
    exact ⟨by rw [He.out, if_neg (by omega)]; rfl, rfl⟩


set_option maxHeartbeats 1000000 in
theorem known_any (w : World) : Calls Tryd.prog 8 #[] w fun e w' => e = .returned (.bool true) ∧ Ext no w w' := by
  have Hr := Lib.hid (show up [32, 65, 32, 98, 32] 1 3 = [97, 32, 98] ∧ upErr 1 3 = 0 by decide)
  have hbe := beqStrT (rfl : ([97, 32, 98] : List UInt8) = [97, 32, 98])
  go_enter Tryd.func8, Tryd.ntmps8
  go_wp2_with fail
  refine (up_any w [32, 65, 32, 98, 32] (by simp) 1 3 ⟨by omega, by omega⟩ ⟨by omega, by omega⟩).mono ?_
  rintro e w1 ⟨rfl, hx⟩
  rw [Hr.out.1, Hr.out.2]
  go_wp2_with fail
  go_ret
  exact ⟨by show Ending.returned (.bool ((str [97, 32, 98]).toList == [97, 32, 98])) = _; rw [toList_str]; rfl, hx⟩
end Go.Proofs.YtcopnpkblcgocaaDoor
