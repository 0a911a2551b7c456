/- Walks of strings.Trim at one byte; blanks at both ends, plainly. -/
import Derived.Test.YtejmmkjpncpedaaGreatDoorScB
namespace Go.Esc
open Go.RowKit

theorem trimL_snoc (x : List UInt8) (b : UInt8) : trimL (x ++ [b]) = if trimL x = [] then trimL [b] else trimL x ++ [b] := by
  unfold trimL
  rw [List.dropWhile_append]
  by_cases h : List.dropWhile (· == 32) x = []
  · rw [if_pos h, if_pos (by rw [h]; rfl)]
  · rw [if_neg h, if_neg (by simpa using h)]
theorem trimR_cons (b : UInt8) (t : List UInt8) : trimR (b :: t) = if trimR t = [] ∧ b = 32 then [] else b :: trimR t := by
  unfold trimR
  rw [List.reverse_cons, trimL_snoc]
  by_cases h : trimL t.reverse = []
  · rw [if_pos h, trimL_cons]
    by_cases hb : b = 32
    · rw [if_pos hb, if_pos ⟨by rw [h]; rfl, hb⟩]; rfl
    · rw [if_neg hb, if_neg (fun e => hb e.2), h]; rfl
  · rw [if_neg h, if_neg (fun e => h (List.reverse_eq_nil_iff.1 e.1))]; simp
theorem trim_comm (l : List UInt8) : trimL (trimR l) = trimR (trimL l) := by
  induction l with
  | nil => rfl
  | cons b t ih =>
    rw [trimR_cons, trimL_cons]
    by_cases hb : b = 32
    · rw [if_pos hb, ← ih]
      by_cases h : trimR t = []
      · rw [if_pos ⟨h, hb⟩, h]
      · rw [if_neg (fun e => h e.1), trimL_cons, if_pos hb]
    · rw [if_neg (fun e => hb e.2), if_neg hb, trimL_cons, if_neg hb, trimR_cons, if_neg (fun e => hb e.2)]
theorem trimL_done {l : List UInt8} (h : l = [] ∨ ∃ b t, l = b :: t ∧ b ≠ 32) : trimL l = l := by
  rcases h with rfl | ⟨b, t, rfl, hb⟩
  · rfl
  · rw [trimL_cons, if_neg hb]
theorem trimR_done {l : List UInt8} (h : l = [] ∨ ∃ b t, l = t ++ [b] ∧ b ≠ 32) : trimR l = l := by
  rcases h with rfl | ⟨b, t, rfl, hb⟩
  · rfl
  · rw [trimR_snoc, if_neg hb]
end Go.Esc
namespace Go.Proofs.YtejmmkjpncpedaaGreatDoor
open Go.RowKit Go.Esc
set_option linter.unusedVariables false

theorem str_drop (l : List UInt8) (n : Nat) : (str l).extract n (str l).size = str (l.drop n) := by
  rw [← str_of ((str l).extract n (str l).size), Lib.extract_data, str_size]
  show str ((l.drop n).take (l.length - n)) = _
  rw [List.take_of_length_le (by simp)]
theorem cut_from (w : World) (l : List UInt8) (n : Nat) (h : n ≤ l.length) : (Instr.sliceAt 9 (.string (str l)) (some (.int .i64 (n : Int))) none none).run Tryz.prog w = .ok (.string (str (l.drop n))) w := by
  rw [run_sliceAt_string _ _ _ _ _ _ Tryz.underlying9, run_slice_string_l w _ _ Tryz.underlying9 _ _ (by omega) (by rw [str_size]; omega), Int.toNat_natCast, str_drop]
theorem cut_to (w : World) (l : List UInt8) (n : Nat) (h : n ≤ l.length) : (Instr.sliceAt 9 (.string (str l)) none (some (.int .i64 (n : Int))) none).run Tryz.prog w = .ok (.string (str (l.take n))) w := by
  rw [run_sliceAt_string _ _ _ _ _ _ Tryz.underlying9, run_slice_string_h w _ _ Tryz.underlying9 _ _ (by omega) (by rw [str_size]; omega), Int.toNat_natCast, str_take]

set_option maxHeartbeats 2000000 in
theorem left_any (w : World) (l : List UInt8) (hl : l.length ≤ 1099511627776) :
    Calls Tryz.prog 84 #[.string (str l), .int .u8 32] w fun e w' => e = .returned (.string (str (trimL l))) ∧ w = w' := by
  go_enter Tryz.func84, Tryz.ntmps84
  go_wp2_with fail
  go_loopw [0] (fun s0 wr => ∃ m : List UInt8, s0 = .string (str m) ∧ trimL m = trimL l ∧ m.length ≤ l.length ∧ wr = w) (fun s0 _ => match s0 with | .string s => s.size | _ => 0)
  case atStart => exact ⟨l, rfl, rfl, Nat.le_refl _, rfl⟩
  case round =>
    obtain ⟨m, rfl, hm, hml, rfl⟩ := hrel
    have Hm := Lib.hid hm
    clear hm
    have hsz := str_size m
    cases hmc : m with
    | nil =>
      have Hd := Lib.hid (show trimL l = [] by rw [← Hm.out, hmc]; rfl)
      go_wp2_with fail
      go_ret
      exact ⟨by rw [Hd.out]; rfl, rfl⟩
    | cons b t =>
      have hix : ∀ w, (Instr.index 9 (.string (str (b :: t))) (.int .i64 0)).run Tryz.prog w = .ok (.int .u8 b.toNat) w := fun w => str_index w (b :: t) 0 b rfl
      have hct : ∀ w, (Instr.sliceAt 9 (.string (str (b :: t))) (some (.int .i64 1)) none none).run Tryz.prog w = .ok (.string (str t)) w := fun w => cut_from w (b :: t) 1 (by simp)
      have hsz2 := str_size (b :: t)
      have hsz3 := str_size t
      by_cases hb : b = 32
      · have hb2 : ((b.toNat : Int) == 32) = true := by rw [hb]; rfl
        have Hn := Lib.hid (show trimL t = trimL l by rw [← Hm.out, hmc, trimL_cons, if_pos hb])
        have Hl := Lib.hid (show t.length ≤ l.length by rw [hmc] at hml; simp at hml; omega)
        clear hb
        go_wp2_with fail
        go_roundw
        case rel => exact ⟨t, rfl, Hn.out, Hl.out, by first | rfl | trivial⟩
        case measure => simp [hsz2, hsz3]
      · have hb2 : ((b.toNat : Int) == 32) = false := by
          rw [beq_eq_false_iff_ne]
          intro e
          exact hb (UInt8.toNat_inj.1 (by show b.toNat = 32; omega))
        have Hd := Lib.hid (show trimL l = b :: t by rw [← Hm.out, hmc, trimL_cons, if_neg hb])
        clear hb
        go_wp2_with fail
        go_ret
        exact ⟨by rw [Hd.out]; rfl, rfl⟩

set_option maxHeartbeats 2000000 in
theorem right_any (w : World) (l : List UInt8) (hl : l.length ≤ 1099511627776) :
    Calls Tryz.prog 85 #[.string (str l), .int .u8 32] w fun e w' => e = .returned (.string (str (trimR l))) ∧ w = w' := by
  go_enter Tryz.func85, Tryz.ntmps85
  go_wp2_with fail
  go_loopw [0] (fun s0 wr => ∃ m : List UInt8, s0 = .string (str m) ∧ trimR m = trimR l ∧ m.length ≤ l.length ∧ wr = w) (fun s0 _ => match s0 with | .string s => s.size | _ => 0)
  case atStart => exact ⟨l, rfl, rfl, Nat.le_refl _, rfl⟩
  case round =>
    obtain ⟨m, rfl, hm, hml, rfl⟩ := hrel
    have Hm := Lib.hid hm
    clear hm
    have hsz := str_size m
    rcases List.eq_nil_or_concat m with hmc | ⟨t, b, hmc⟩
    · have Hd := Lib.hid (show trimR l = [] by rw [← Hm.out, hmc]; rfl)
      subst hmc
      go_wp2_with fail
      go_ret
      exact ⟨by rw [Hd.out]; rfl, rfl⟩
    · have hlen : m.length = t.length + 1 := by rw [hmc]; simp
      have hpos : decide (0 < m.length) = true := decT (by omega)
      have hix : ∀ w, (Instr.index 9 (.string (str m)) (.int .i64 ((m.length : Int) - 1))).run Tryz.prog w = .ok (.int .u8 b.toNat) w := fun w => by
        rw [show (m.length : Int) - 1 = (t.length : Int) by omega]
        exact str_index w m t.length b (by rw [hmc]; simp)
      have hct : ∀ w, (Instr.sliceAt 9 (.string (str m)) none (some (.int .i64 ((m.length : Int) - 1))) none).run Tryz.prog w = .ok (.string (str t)) w := fun w => by
        rw [show (m.length : Int) - 1 = (t.length : Int) by omega, cut_to w m t.length (by omega), hmc]
        simp
      have hsz3 := str_size t
      have Hlen := Lib.hid hlen
      by_cases hb : b = 32
      · have hb2 : ((b.toNat : Int) == 32) = true := by rw [hb]; rfl
        have Hn := Lib.hid (show trimR t = trimR l by rw [← Hm.out, hmc, List.concat_eq_append, trimR_snoc, if_pos hb])
        have Hl := Lib.hid (show t.length ≤ l.length by omega)
        clear hb hmc hlen
        go_wp2_with fail
        go_roundw
        case rel => exact ⟨t, rfl, Hn.out, Hl.out, by first | rfl | trivial⟩
        case measure => have := Hlen.out; simp [hsz, hsz3]; omega
      · have hb2 : ((b.toNat : Int) == 32) = false := by
          rw [beq_eq_false_iff_ne]
          intro e
          exact hb (UInt8.toNat_inj.1 (by show b.toNat = 32; omega))
        have Hd := Lib.hid (show trimR l = m by rw [← Hm.out, hmc, List.concat_eq_append, trimR_snoc, if_neg hb])
        clear hb hmc hlen
        go_wp2_with fail
        go_ret
        exact ⟨by rw [Hd.out]; rfl, rfl⟩
end Go.Proofs.YtejmmkjpncpedaaGreatDoor
