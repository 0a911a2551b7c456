/- The walk of the law SchemaBytes. -/
import Derived.Test.YtcopnpkblcgocaaDoorScL
namespace Go.Esc
theorem trim_front (l : List UInt8) : trimR l = l.take (trimR l).length := by
  have h : ∀ n : Nat, ∀ l : List UInt8, l.length ≤ n → ∃ t, l = trimR l ++ t := by
    intro n
    induction n with
    | zero => intro l hl; rw [List.length_eq_zero_iff.1 (by omega : l.length = 0)]; exact ⟨[], rfl⟩
    | succ n ih =>
      intro l hl
      rcases List.eq_nil_or_concat l with rfl | ⟨x, b, rfl⟩
      · exact ⟨[], rfl⟩
      · rw [List.concat_eq_append, trimR_snoc]
        by_cases hb : b = 32
        · rw [if_pos hb]
          obtain ⟨t, ht⟩ := ih x (by rw [List.concat_eq_append] at hl; simp at hl; omega)
          exact ⟨t ++ [b], by rw [← List.append_assoc, ← ht]⟩
        · rw [if_neg hb]; exact ⟨[], by simp⟩
  obtain ⟨t, ht⟩ := h _ l (Nat.le_refl _)
  conv => rhs; rw [ht]
  rw [List.take_append_of_le_length (by
    have e : trimR (trimR l ++ t) = trimR l := by rw [← ht]
    rw [e]
    exact Nat.le_refl _)]
  rw [List.take_of_length_le (by
    have e : trimR (trimR l ++ t) = trimR l := by rw [← ht]
    rw [e]
    exact Nat.le_refl _)]
theorem trimL_head (l : List UInt8) : trimL l = [] ∨ ∃ b t, trimL l = b :: t ∧ b ≠ 32 := by
  induction l with
  | nil => exact .inl rfl
  | cons b t ih =>
    rw [trimL_cons]
    by_cases hb : b = 32
    · rw [if_pos hb]; exact ih
    · rw [if_neg hb]; exact .inr ⟨b, t, rfl, hb⟩
theorem trimR_last (l : List UInt8) : trimR l = [] ∨ ∃ b t, trimR l = t ++ [b] ∧ b ≠ 32 := by
  unfold trimR
  rcases trimL_head l.reverse with h | ⟨b, t, h, hb⟩
  · exact .inl (by rw [h]; rfl)
  · exact .inr ⟨b, t.reverse, by rw [h]; simp, hb⟩
theorem trimL_drop (l : List UInt8) (k : Nat) (h : ∀ (j : Nat) (hj : j < l.length), j < k → l[j] = 32) : trimL (l.drop k) = trimL l := by
  induction l generalizing k with
  | nil => simp
  | cons b t ih =>
    cases k with
    | zero => rfl
    | succ k =>
      have hb : b = 32 := h 0 (by simp) (by omega)
      rw [List.drop_succ_cons, trimL_cons, if_pos hb]
      exact ih k (fun j hj hk => by have := h (j + 1) (by simp; omega) (by omega); simpa using this)
end Go.Esc
namespace Go.Proofs.YtcopnpkblcgocaaDoor
open Go.RowKit Go.Esc
set_option linter.unusedVariables false
set_option linter.unusedSimpArgs false

theorem cut_both (w : World) (l : List UInt8) (n m : Nat) (h : n ≤ m) (h2 : m ≤ l.length) : (Instr.sliceAt 9 (.string (str l)) (some (.int .i64 (n : Int))) (some (.int .i64 (m : Int))) none).run Tryd.prog w = .ok (.string (str ((l.drop n).take (m - n)))) w := by
  rw [run_sliceAt_string _ _ _ _ _ _ Tryd.underlying9, run_slice_string w _ _ _ _ _ _ Tryd.underlying9 (by omega) (by omega) (by rw [str_size]; omega), Int.toNat_natCast, Int.toNat_natCast, ← str_of ((str l).extract n m), Lib.extract_data]
  rfl

set_option maxRecDepth 100000 in
set_option maxHeartbeats 4000000 in
theorem bytes_walk (w : World) (l : List UInt8) (hl : l.length ≤ maxLen) :
    Calls Tryd.prog 4 #[.string (str l)] w fun e w' => e = .returned (.bool true) ∧ Ext no w w' := by
  unfold maxLen at hl
  have hsz := str_size l
  by_cases h3 : 300 < l.length
  · have d1 : decide ((300 : Int) < l.length) = true := decT (by omega)
    go_enter Tryd.func4, Tryd.ntmps4
    go_wp2_with fail
    refine (known_any w).mono ?_
    rintro e w1 ⟨rfl, hx1⟩
    go_wp2_with fail
    go_ret
    exact ⟨rfl, hx1⟩
  have d1 : decide ((300 : Int) < l.length) = false := decF (by omega)
  have Hu := Lib.hid (show up l 1 2 = low l ∧ up l 2 3 = trim l ∧ upErr 1 2 = 0 ∧ upErr 2 3 = 0 from ⟨rfl, rfl, by decide, by decide⟩)
  go_enter Tryd.func4, Tryd.ntmps4
  go_wp2_with fail
  refine (known_any w).mono ?_
  rintro e w1 ⟨rfl, hx1⟩
  go_wp2_with fail
  refine (up_any w1 l (by omega) 1 2 ⟨by omega, by omega⟩ ⟨by omega, by omega⟩).mono ?_
  rintro e w2 ⟨rfl, hx2⟩
  rw [Hu.out.1, Hu.out.2.2.1]
  go_wp2_with fail
  refine (up_any w2 l (by omega) 2 3 ⟨by omega, by omega⟩ ⟨by omega, by omega⟩).mono ?_
  rintro e w3 ⟨rfl, hx3⟩
  rw [Hu.out.2.1, Hu.out.2.2.2]
  have hx := (hx1.comp hx2).comp hx3
  obtain ⟨A, hA⟩ : ∃ A, A = low l := ⟨_, rfl⟩
  obtain ⟨B, hB⟩ : ∃ B, B = trim l := ⟨_, rfl⟩
  rw [← hA, ← hB]
  have hAl : A.length = l.length := by rw [hA]; exact low_len l
  have hBl : B.length ≤ l.length := by rw [hB]; exact Nat.le_trans (trimL_len _) (trimR_len _)
  have HA := Lib.hid hA
  have HB := Lib.hid hB
  have hszA : (str A).size = l.length := by rw [str_size, hAl]
  have hszB := str_size B
  have dB : decide ((l.length : Int) < B.length) = false := decF (by omega)
  have dB' : decide (l.length < B.length) = false := decF (by omega)
  clear hA hB hx1 hx2 hx3
  go_wp2_with fail
  go_loopw [7, 8] (fun s7 _ wr => ∃ i : Nat, i ≤ l.length ∧ s7 = .int .i64 i ∧ Ext no w wr) (fun s7 _ _ => l.length - (intOf s7).toNat)
  case atStart => exact ⟨0, Nat.zero_le _, rfl, hx⟩
  case round =>
    clear hx
    obtain ⟨i, hi, rfl, hx⟩ := hrel
    by_cases hlt : i < l.length
    · have e0 : decide ((i : Int) < l.length) = true := decT (by omega)
      have hs : l[i]? = some l[i] := List.getElem?_eq_getElem hlt
      have ha : A[i]? = some (lowB l[i]) := by rw [HA.out]; unfold low; rw [List.getElem?_map, hs]; rfl
      have hgr0 : 65 ≤ (l[i]).toNat ∧ (l[i]).toNat ≤ 90 → (((l[i]).toNat : Int) + 32) % 256 = (lowB l[i]).toNat := fun h => by have := (lowB_great h).2; omega
      have hng0 : ¬ (65 ≤ (l[i]).toNat ∧ (l[i]).toNat ≤ 90) → (lowB l[i]).toNat = (l[i]).toNat := fun h => by rw [lowB_not h]
      generalize l[i] = x at *
      have ixs : ∀ w, (Instr.index 9 (.string (str l)) (.int .i64 (i : Int))).run Tryd.prog w = .ok (.int .u8 x.toNat) w := fun w => str_index w l i x hs
      have ixa : ∀ w, (Instr.index 9 (.string (str A)) (.int .i64 (i : Int))).run Tryd.prog w = .ok (.int .u8 (lowB x).toNat) w := fun w => str_index w A i _ ha
      have hxd := hx.comp (Ext.drew no wr)
      clear hs ha
      by_cases hgr : 65 ≤ x.toNat ∧ x.toNat ≤ 90
      · have g1 : decide ((65 : Int) ≤ x.toNat) = true := decT (by omega)
        have g2 : decide ((x.toNat : Int) ≤ 90) = true := decT (by omega)
        have Hz := Lib.hid (hgr0 hgr)
        clear hgr0 hng0
        generalize (lowB x).toNat = z at *
        go_upto_region 13 with fail
        --<A
        refine wp_region_F [] (looks []) (by kernel_rfl) ?_
        have hT0 : ∀ k, looks [] k (wr.drew) := looks_all trivial
        refine wpF_take 0 (v := ?_) rfl (by kernel_rfl) (by kernel_rfl) (by kernel_rfl) (fun _ _ _ h => h) hT0 (by rfl) ?_ ?_
        rotate_left
        · (intro wq; go_simp; try with_reducible rfl)
        simp only [Act.put, List.setIfInBounds_toArray, List.set_cons_zero, List.set_cons_succ]
        refine wpF_take 1 (v := ?_) rfl (by kernel_rfl) (by kernel_rfl) (by kernel_rfl) (fun _ _ _ h => h) hT0 (by rfl) ?_ ?_
        rotate_left
        · (intro wq; go_simp; try with_reducible rfl)
        simp only [Act.put, List.setIfInBounds_toArray, List.set_cons_zero, List.set_cons_succ]
        refine wpF_take 2 (v := ?_) rfl (by kernel_rfl) (by kernel_rfl) (by kernel_rfl) (fun _ _ _ h => h) hT0 (by rfl) ?_ ?_
        rotate_left
        · (intro wq; go_simp; try with_reducible rfl)
        simp only [Act.put, List.setIfInBounds_toArray, List.set_cons_zero, List.set_cons_succ]
        refine wpF_take 3 (v := ?_) rfl (by kernel_rfl) (by kernel_rfl) (by kernel_rfl) (fun _ _ _ h => h) hT0 (by rfl) ?_ ?_
        rotate_left
        · (intro wq; go_simp; try with_reducible rfl)
        simp only [Act.put, List.setIfInBounds_toArray, List.set_cons_zero, List.set_cons_succ]
        refine wpF_take 4 (v := ?_) rfl (by kernel_rfl) (by kernel_rfl) (by kernel_rfl) (fun _ _ _ h => h) hT0 (by rfl) ?_ ?_
        rotate_left
        · (intro wq; go_simp; try with_reducible rfl)
        simp only [Act.put, List.setIfInBounds_toArray, List.set_cons_zero, List.set_cons_succ]
        refine wpF_take 5 (v := ?_) rfl (by kernel_rfl) (by kernel_rfl) (by kernel_rfl) (fun _ _ _ h => h) hT0 (by rfl) ?_ ?_
        rotate_left
        · (intro wq; go_simp; try with_reducible rfl)
        simp only [Act.put, List.setIfInBounds_toArray, List.set_cons_zero, List.set_cons_succ]
        refine wpF_take 6 (v := ?_) rfl (by kernel_rfl) (by kernel_rfl) (by kernel_rfl) (fun _ _ _ h => h) hT0 (by rfl) ?_ ?_
        rotate_left
        · (intro wq; go_simp; try with_reducible rfl)
        simp only [Act.put, List.setIfInBounds_toArray, List.set_cons_zero, List.set_cons_succ]
        refine wpF_take 7 (v := ?_) rfl (by kernel_rfl) (by kernel_rfl) (by kernel_rfl) (fun _ _ _ h => h) hT0 (by rfl) ?_ ?_
        rotate_left
        · (intro wq; go_simp; try with_reducible rfl)
        simp only [Act.put, List.setIfInBounds_toArray, List.set_cons_zero, List.set_cons_succ]
        refine wpF_take 8 (v := .int .u8 (z : Int)) rfl (by kernel_rfl) (by kernel_rfl) (by kernel_rfl) (fun _ _ _ h => h) hT0 (by rfl) (by intro wq; go_simp; rw [← Hz.out]; exact IntKind.wrap_u8' _) ?_
        simp only [Act.put, List.setIfInBounds_toArray, List.set_cons_zero, List.set_cons_succ]
        refine wpF_take 9 (v := .bool false) rfl (by kernel_rfl) (by kernel_rfl) (by kernel_rfl) (fun _ _ _ h => h) hT0 (by rfl) (by intro wq; go_simp) ?_
        simp only [Act.put, List.setIfInBounds_toArray, List.set_cons_zero, List.set_cons_succ]
        refine wpF_take 10 (v := ?_) rfl (by kernel_rfl) (by kernel_rfl) (by kernel_rfl) (fun _ _ _ h => h) hT0 (by rfl) ?_ ?_
        rotate_left
        · (intro wq; go_simp; try with_reducible rfl)
        simp only [Act.put, List.setIfInBounds_toArray, List.set_cons_zero, List.set_cons_succ]
        refine wpF_take 11 (v := ?_) rfl (by kernel_rfl) (by kernel_rfl) (by kernel_rfl) (fun _ _ _ h => h) hT0 (by rfl) ?_ ?_
        rotate_left
        · (intro wq; go_simp; try with_reducible rfl)
        simp only [Act.put, List.setIfInBounds_toArray, List.set_cons_zero, List.set_cons_succ]
        refine wpF_take 12 (v := ?_) rfl (by kernel_rfl) (by kernel_rfl) (by kernel_rfl) (fun _ _ _ h => h) hT0 (by rfl) ?_ ?_
        rotate_left
        · (intro wq; go_simp; try with_reducible rfl)
        simp only [Act.put, List.setIfInBounds_toArray, List.set_cons_zero, List.set_cons_succ]
        refine wpF_take 13 (v := ?_) rfl (by kernel_rfl) (by kernel_rfl) (by kernel_rfl) (fun _ _ _ h => h) hT0 (by rfl) ?_ ?_
        rotate_left
        · (intro wq; go_simp; try with_reducible rfl)
        simp only [Act.put, List.setIfInBounds_toArray, List.set_cons_zero, List.set_cons_succ]
        refine wpF_take 14 (v := ?_) rfl (by kernel_rfl) (by kernel_rfl) (by kernel_rfl) (fun _ _ _ h => h) hT0 (by rfl) ?_ ?_
        rotate_left
        · (intro wq; go_simp; try with_reducible rfl)
        simp only [Act.put, List.setIfInBounds_toArray, List.set_cons_zero, List.set_cons_succ]
        refine wpF_skip 15 rfl (by kernel_rfl) (by kernel_rfl) (by kernel_rfl) (fun _ _ _ h => h) hT0 (by rfl) ?_
        simp only [Act.put, List.setIfInBounds_toArray, List.set_cons_zero, List.set_cons_succ]
        refine wpF_skip 16 rfl (by kernel_rfl) (by kernel_rfl) (by kernel_rfl) (fun _ _ _ h => h) hT0 (by rfl) ?_
        simp only [Act.put, List.setIfInBounds_toArray, List.set_cons_zero, List.set_cons_succ]
        refine wpF_skip 17 rfl (by kernel_rfl) (by kernel_rfl) (by kernel_rfl) (fun _ _ _ h => h) hT0 (by rfl) ?_
        simp only [Act.put, List.setIfInBounds_toArray, List.set_cons_zero, List.set_cons_succ]
        refine wpF_skip 18 rfl (by kernel_rfl) (by kernel_rfl) (by kernel_rfl) (fun _ _ _ h => h) hT0 (by rfl) ?_
        simp only [Act.put, List.setIfInBounds_toArray, List.set_cons_zero, List.set_cons_succ]
        refine wpF_skip 19 rfl (by kernel_rfl) (by kernel_rfl) (by kernel_rfl) (fun _ _ _ h => h) hT0 (by rfl) ?_
        simp only [Act.put, List.setIfInBounds_toArray, List.set_cons_zero, List.set_cons_succ]
        refine wpF_skip 20 rfl (by kernel_rfl) (by kernel_rfl) (by kernel_rfl) (fun _ _ _ h => h) hT0 (by rfl) ?_
        simp only [Act.put, List.setIfInBounds_toArray, List.set_cons_zero, List.set_cons_succ]
        refine wpF_skip 21 rfl (by kernel_rfl) (by kernel_rfl) (by kernel_rfl) (fun _ _ _ h => h) hT0 (by rfl) ?_
        simp only [Act.put, List.setIfInBounds_toArray, List.set_cons_zero, List.set_cons_succ]
        refine wpF_take 22 (v := ?_) rfl (by kernel_rfl) (by kernel_rfl) (by kernel_rfl) (fun _ _ _ h => h) hT0 (by rfl) ?_ ?_
        rotate_left
        · (intro wq; go_simp; try with_reducible rfl)
        simp only [Act.put, List.setIfInBounds_toArray, List.set_cons_zero, List.set_cons_succ]
        refine wpF_take 23 (v := ?_) rfl (by kernel_rfl) (by kernel_rfl) (by kernel_rfl) (fun _ _ _ h => h) hT0 (by rfl) ?_ ?_
        rotate_left
        · (intro wq; go_simp; try with_reducible rfl)
        simp only [Act.put, List.setIfInBounds_toArray, List.set_cons_zero, List.set_cons_succ]
        refine wpF_done (by kernel_rfl) ?_ _
        go_wp2_with fail
        go_roundw
        case rel => exact ⟨i + 1, by omega, by go_num, hxd⟩
        case measure => simp [intOf]; omega
        -->A
      · have Hz := Lib.hid (hng0 hgr)
        clear hgr0 hng0
        rw [Hz.out] at ixa
        by_cases h65 : 65 ≤ x.toNat
        · have g1 : decide ((65 : Int) ≤ x.toNat) = true := decT (by omega)
          have g2 : decide ((x.toNat : Int) ≤ 90) = false := decF (by omega)
          go_upto_region 13 with fail
          --<B
          refine wp_region_F [] (looks []) (by kernel_rfl) ?_
          have hT0 : ∀ k, looks [] k (wr.drew) := looks_all trivial
          refine wpF_take 0 (v := ?_) rfl (by kernel_rfl) (by kernel_rfl) (by kernel_rfl) (fun _ _ _ h => h) hT0 (by rfl) ?_ ?_
          rotate_left
          · (intro wq; go_simp; try with_reducible rfl)
          simp only [Act.put, List.setIfInBounds_toArray, List.set_cons_zero, List.set_cons_succ]
          refine wpF_take 1 (v := ?_) rfl (by kernel_rfl) (by kernel_rfl) (by kernel_rfl) (fun _ _ _ h => h) hT0 (by rfl) ?_ ?_
          rotate_left
          · (intro wq; go_simp; try with_reducible rfl)
          simp only [Act.put, List.setIfInBounds_toArray, List.set_cons_zero, List.set_cons_succ]
          refine wpF_skip 2 rfl (by kernel_rfl) (by kernel_rfl) (by kernel_rfl) (fun _ _ _ h => h) hT0 (by rfl) ?_
          simp only [Act.put, List.setIfInBounds_toArray, List.set_cons_zero, List.set_cons_succ]
          refine wpF_skip 3 rfl (by kernel_rfl) (by kernel_rfl) (by kernel_rfl) (fun _ _ _ h => h) hT0 (by rfl) ?_
          simp only [Act.put, List.setIfInBounds_toArray, List.set_cons_zero, List.set_cons_succ]
          refine wpF_skip 4 rfl (by kernel_rfl) (by kernel_rfl) (by kernel_rfl) (fun _ _ _ h => h) hT0 (by rfl) ?_
          simp only [Act.put, List.setIfInBounds_toArray, List.set_cons_zero, List.set_cons_succ]
          refine wpF_skip 5 rfl (by kernel_rfl) (by kernel_rfl) (by kernel_rfl) (fun _ _ _ h => h) hT0 (by rfl) ?_
          simp only [Act.put, List.setIfInBounds_toArray, List.set_cons_zero, List.set_cons_succ]
          refine wpF_skip 6 rfl (by kernel_rfl) (by kernel_rfl) (by kernel_rfl) (fun _ _ _ h => h) hT0 (by rfl) ?_
          simp only [Act.put, List.setIfInBounds_toArray, List.set_cons_zero, List.set_cons_succ]
          refine wpF_skip 7 rfl (by kernel_rfl) (by kernel_rfl) (by kernel_rfl) (fun _ _ _ h => h) hT0 (by rfl) ?_
          simp only [Act.put, List.setIfInBounds_toArray, List.set_cons_zero, List.set_cons_succ]
          refine wpF_skip 8 rfl (by kernel_rfl) (by kernel_rfl) (by kernel_rfl) (fun _ _ _ h => h) hT0 (by rfl) ?_
          simp only [Act.put, List.setIfInBounds_toArray, List.set_cons_zero, List.set_cons_succ]
          refine wpF_skip 9 rfl (by kernel_rfl) (by kernel_rfl) (by kernel_rfl) (fun _ _ _ h => h) hT0 (by rfl) ?_
          simp only [Act.put, List.setIfInBounds_toArray, List.set_cons_zero, List.set_cons_succ]
          refine wpF_take 10 (v := ?_) rfl (by kernel_rfl) (by kernel_rfl) (by kernel_rfl) (fun _ _ _ h => h) hT0 (by rfl) ?_ ?_
          rotate_left
          · (intro wq; go_simp; try with_reducible rfl)
          simp only [Act.put, List.setIfInBounds_toArray, List.set_cons_zero, List.set_cons_succ]
          refine wpF_take 11 (v := ?_) rfl (by kernel_rfl) (by kernel_rfl) (by kernel_rfl) (fun _ _ _ h => h) hT0 (by rfl) ?_ ?_
          rotate_left
          · (intro wq; go_simp; try with_reducible rfl)
          simp only [Act.put, List.setIfInBounds_toArray, List.set_cons_zero, List.set_cons_succ]
          refine wpF_take 12 (v := ?_) rfl (by kernel_rfl) (by kernel_rfl) (by kernel_rfl) (fun _ _ _ h => h) hT0 (by rfl) ?_ ?_
          rotate_left
          · (intro wq; go_simp; try with_reducible rfl)
          simp only [Act.put, List.setIfInBounds_toArray, List.set_cons_zero, List.set_cons_succ]
          refine wpF_take 13 (v := ?_) rfl (by kernel_rfl) (by kernel_rfl) (by kernel_rfl) (fun _ _ _ h => h) hT0 (by rfl) ?_ ?_
          rotate_left
          · (intro wq; go_simp; try with_reducible rfl)
          simp only [Act.put, List.setIfInBounds_toArray, List.set_cons_zero, List.set_cons_succ]
          refine wpF_take 14 (v := ?_) rfl (by kernel_rfl) (by kernel_rfl) (by kernel_rfl) (fun _ _ _ h => h) hT0 (by rfl) ?_ ?_
          rotate_left
          · (intro wq; go_simp; try with_reducible rfl)
          simp only [Act.put, List.setIfInBounds_toArray, List.set_cons_zero, List.set_cons_succ]
          refine wpF_take 15 (v := ?_) rfl (by kernel_rfl) (by kernel_rfl) (by kernel_rfl) (fun _ _ _ h => h) hT0 (by rfl) ?_ ?_
          rotate_left
          · (intro wq; go_simp; try with_reducible rfl)
          simp only [Act.put, List.setIfInBounds_toArray, List.set_cons_zero, List.set_cons_succ]
          refine wpF_take 16 (v := ?_) rfl (by kernel_rfl) (by kernel_rfl) (by kernel_rfl) (fun _ _ _ h => h) hT0 (by rfl) ?_ ?_
          rotate_left
          · (intro wq; go_simp; try with_reducible rfl)
          simp only [Act.put, List.setIfInBounds_toArray, List.set_cons_zero, List.set_cons_succ]
          refine wpF_take 17 (v := ?_) rfl (by kernel_rfl) (by kernel_rfl) (by kernel_rfl) (fun _ _ _ h => h) hT0 (by rfl) ?_ ?_
          rotate_left
          · (intro wq; go_simp; try with_reducible rfl)
          simp only [Act.put, List.setIfInBounds_toArray, List.set_cons_zero, List.set_cons_succ]
          refine wpF_take 18 (v := ?_) rfl (by kernel_rfl) (by kernel_rfl) (by kernel_rfl) (fun _ _ _ h => h) hT0 (by rfl) ?_ ?_
          rotate_left
          · (intro wq; go_simp; try with_reducible rfl)
          simp only [Act.put, List.setIfInBounds_toArray, List.set_cons_zero, List.set_cons_succ]
          refine wpF_take 19 (v := ?_) rfl (by kernel_rfl) (by kernel_rfl) (by kernel_rfl) (fun _ _ _ h => h) hT0 (by rfl) ?_ ?_
          rotate_left
          · (intro wq; go_simp; try with_reducible rfl)
          simp only [Act.put, List.setIfInBounds_toArray, List.set_cons_zero, List.set_cons_succ]
          refine wpF_take 20 (v := ?_) rfl (by kernel_rfl) (by kernel_rfl) (by kernel_rfl) (fun _ _ _ h => h) hT0 (by rfl) ?_ ?_
          rotate_left
          · (intro wq; go_simp; try with_reducible rfl)
          simp only [Act.put, List.setIfInBounds_toArray, List.set_cons_zero, List.set_cons_succ]
          refine wpF_take 21 (v := .bool false) rfl (by kernel_rfl) (by kernel_rfl) (by kernel_rfl) (fun _ _ _ h => h) hT0 (by rfl) (by intro wq; go_simp) ?_
          simp only [Act.put, List.setIfInBounds_toArray, List.set_cons_zero, List.set_cons_succ]
          refine wpF_take 22 (v := ?_) rfl (by kernel_rfl) (by kernel_rfl) (by kernel_rfl) (fun _ _ _ h => h) hT0 (by rfl) ?_ ?_
          rotate_left
          · (intro wq; go_simp; try with_reducible rfl)
          simp only [Act.put, List.setIfInBounds_toArray, List.set_cons_zero, List.set_cons_succ]
          refine wpF_take 23 (v := ?_) rfl (by kernel_rfl) (by kernel_rfl) (by kernel_rfl) (fun _ _ _ h => h) hT0 (by rfl) ?_ ?_
          rotate_left
          · (intro wq; go_simp; try with_reducible rfl)
          simp only [Act.put, List.setIfInBounds_toArray, List.set_cons_zero, List.set_cons_succ]
          refine wpF_done (by kernel_rfl) ?_ _
          go_wp2_with fail
          go_roundw
          case rel => exact ⟨i + 1, by omega, by go_num, hxd⟩
          case measure => simp [intOf]; omega
          -->B
        · have g1 : decide ((65 : Int) ≤ x.toNat) = false := decF (by omega)
          go_upto_region 13 with fail
          --<C
          refine wp_region_F [] (looks []) (by kernel_rfl) ?_
          have hT0 : ∀ k, looks [] k (wr.drew) := looks_all trivial
          refine wpF_take 0 (v := ?_) rfl (by kernel_rfl) (by kernel_rfl) (by kernel_rfl) (fun _ _ _ h => h) hT0 (by rfl) ?_ ?_
          rotate_left
          · (intro wq; go_simp; try with_reducible rfl)
          simp only [Act.put, List.setIfInBounds_toArray, List.set_cons_zero, List.set_cons_succ]
          refine wpF_take 1 (v := ?_) rfl (by kernel_rfl) (by kernel_rfl) (by kernel_rfl) (fun _ _ _ h => h) hT0 (by rfl) ?_ ?_
          rotate_left
          · (intro wq; go_simp; try with_reducible rfl)
          simp only [Act.put, List.setIfInBounds_toArray, List.set_cons_zero, List.set_cons_succ]
          refine wpF_skip 2 rfl (by kernel_rfl) (by kernel_rfl) (by kernel_rfl) (fun _ _ _ h => h) hT0 (by rfl) ?_
          simp only [Act.put, List.setIfInBounds_toArray, List.set_cons_zero, List.set_cons_succ]
          refine wpF_skip 3 rfl (by kernel_rfl) (by kernel_rfl) (by kernel_rfl) (fun _ _ _ h => h) hT0 (by rfl) ?_
          simp only [Act.put, List.setIfInBounds_toArray, List.set_cons_zero, List.set_cons_succ]
          refine wpF_skip 4 rfl (by kernel_rfl) (by kernel_rfl) (by kernel_rfl) (fun _ _ _ h => h) hT0 (by rfl) ?_
          simp only [Act.put, List.setIfInBounds_toArray, List.set_cons_zero, List.set_cons_succ]
          refine wpF_skip 5 rfl (by kernel_rfl) (by kernel_rfl) (by kernel_rfl) (fun _ _ _ h => h) hT0 (by rfl) ?_
          simp only [Act.put, List.setIfInBounds_toArray, List.set_cons_zero, List.set_cons_succ]
          refine wpF_skip 6 rfl (by kernel_rfl) (by kernel_rfl) (by kernel_rfl) (fun _ _ _ h => h) hT0 (by rfl) ?_
          simp only [Act.put, List.setIfInBounds_toArray, List.set_cons_zero, List.set_cons_succ]
          refine wpF_skip 7 rfl (by kernel_rfl) (by kernel_rfl) (by kernel_rfl) (fun _ _ _ h => h) hT0 (by rfl) ?_
          simp only [Act.put, List.setIfInBounds_toArray, List.set_cons_zero, List.set_cons_succ]
          refine wpF_skip 8 rfl (by kernel_rfl) (by kernel_rfl) (by kernel_rfl) (fun _ _ _ h => h) hT0 (by rfl) ?_
          simp only [Act.put, List.setIfInBounds_toArray, List.set_cons_zero, List.set_cons_succ]
          refine wpF_skip 9 rfl (by kernel_rfl) (by kernel_rfl) (by kernel_rfl) (fun _ _ _ h => h) hT0 (by rfl) ?_
          simp only [Act.put, List.setIfInBounds_toArray, List.set_cons_zero, List.set_cons_succ]
          refine wpF_take 10 (v := ?_) rfl (by kernel_rfl) (by kernel_rfl) (by kernel_rfl) (fun _ _ _ h => h) hT0 (by rfl) ?_ ?_
          rotate_left
          · (intro wq; go_simp; try with_reducible rfl)
          simp only [Act.put, List.setIfInBounds_toArray, List.set_cons_zero, List.set_cons_succ]
          refine wpF_take 11 (v := ?_) rfl (by kernel_rfl) (by kernel_rfl) (by kernel_rfl) (fun _ _ _ h => h) hT0 (by rfl) ?_ ?_
          rotate_left
          · (intro wq; go_simp; try with_reducible rfl)
          simp only [Act.put, List.setIfInBounds_toArray, List.set_cons_zero, List.set_cons_succ]
          refine wpF_take 12 (v := ?_) rfl (by kernel_rfl) (by kernel_rfl) (by kernel_rfl) (fun _ _ _ h => h) hT0 (by rfl) ?_ ?_
          rotate_left
          · (intro wq; go_simp; try with_reducible rfl)
          simp only [Act.put, List.setIfInBounds_toArray, List.set_cons_zero, List.set_cons_succ]
          refine wpF_take 13 (v := ?_) rfl (by kernel_rfl) (by kernel_rfl) (by kernel_rfl) (fun _ _ _ h => h) hT0 (by rfl) ?_ ?_
          rotate_left
          · (intro wq; go_simp; try with_reducible rfl)
          simp only [Act.put, List.setIfInBounds_toArray, List.set_cons_zero, List.set_cons_succ]
          refine wpF_take 14 (v := ?_) rfl (by kernel_rfl) (by kernel_rfl) (by kernel_rfl) (fun _ _ _ h => h) hT0 (by rfl) ?_ ?_
          rotate_left
          · (intro wq; go_simp; try with_reducible rfl)
          simp only [Act.put, List.setIfInBounds_toArray, List.set_cons_zero, List.set_cons_succ]
          refine wpF_take 15 (v := ?_) rfl (by kernel_rfl) (by kernel_rfl) (by kernel_rfl) (fun _ _ _ h => h) hT0 (by rfl) ?_ ?_
          rotate_left
          · (intro wq; go_simp; try with_reducible rfl)
          simp only [Act.put, List.setIfInBounds_toArray, List.set_cons_zero, List.set_cons_succ]
          refine wpF_take 16 (v := ?_) rfl (by kernel_rfl) (by kernel_rfl) (by kernel_rfl) (fun _ _ _ h => h) hT0 (by rfl) ?_ ?_
          rotate_left
          · (intro wq; go_simp; try with_reducible rfl)
          simp only [Act.put, List.setIfInBounds_toArray, List.set_cons_zero, List.set_cons_succ]
          refine wpF_take 17 (v := ?_) rfl (by kernel_rfl) (by kernel_rfl) (by kernel_rfl) (fun _ _ _ h => h) hT0 (by rfl) ?_ ?_
          rotate_left
          · (intro wq; go_simp; try with_reducible rfl)
          simp only [Act.put, List.setIfInBounds_toArray, List.set_cons_zero, List.set_cons_succ]
          refine wpF_take 18 (v := ?_) rfl (by kernel_rfl) (by kernel_rfl) (by kernel_rfl) (fun _ _ _ h => h) hT0 (by rfl) ?_ ?_
          rotate_left
          · (intro wq; go_simp; try with_reducible rfl)
          simp only [Act.put, List.setIfInBounds_toArray, List.set_cons_zero, List.set_cons_succ]
          refine wpF_take 19 (v := ?_) rfl (by kernel_rfl) (by kernel_rfl) (by kernel_rfl) (fun _ _ _ h => h) hT0 (by rfl) ?_ ?_
          rotate_left
          · (intro wq; go_simp; try with_reducible rfl)
          simp only [Act.put, List.setIfInBounds_toArray, List.set_cons_zero, List.set_cons_succ]
          refine wpF_take 20 (v := ?_) rfl (by kernel_rfl) (by kernel_rfl) (by kernel_rfl) (fun _ _ _ h => h) hT0 (by rfl) ?_ ?_
          rotate_left
          · (intro wq; go_simp; try with_reducible rfl)
          simp only [Act.put, List.setIfInBounds_toArray, List.set_cons_zero, List.set_cons_succ]
          refine wpF_take 21 (v := .bool false) rfl (by kernel_rfl) (by kernel_rfl) (by kernel_rfl) (fun _ _ _ h => h) hT0 (by rfl) (by intro wq; go_simp) ?_
          simp only [Act.put, List.setIfInBounds_toArray, List.set_cons_zero, List.set_cons_succ]
          refine wpF_take 22 (v := ?_) rfl (by kernel_rfl) (by kernel_rfl) (by kernel_rfl) (fun _ _ _ h => h) hT0 (by rfl) ?_ ?_
          rotate_left
          · (intro wq; go_simp; try with_reducible rfl)
          simp only [Act.put, List.setIfInBounds_toArray, List.set_cons_zero, List.set_cons_succ]
          refine wpF_take 23 (v := ?_) rfl (by kernel_rfl) (by kernel_rfl) (by kernel_rfl) (fun _ _ _ h => h) hT0 (by rfl) ?_ ?_
          rotate_left
          · (intro wq; go_simp; try with_reducible rfl)
          simp only [Act.put, List.setIfInBounds_toArray, List.set_cons_zero, List.set_cons_succ]
          refine wpF_done (by kernel_rfl) ?_ _
          go_wp2_with fail
          go_roundw
          case rel => exact ⟨i + 1, by omega, by go_num, hxd⟩
          case measure => simp [intOf]; omega
          -->C
    · have e0 : decide ((i : Int) < l.length) = false := decF (by omega)
      have e0' : decide (i < l.length) = false := decF (by omega)
      go_wp2_with fail
      clear e0'
      go_loopw [9] (fun s9 wq => ∃ k : Nat, k ≤ l.length ∧ s9 = .int .i64 k ∧ (∀ (j : Nat) (hj : j < l.length), j < k → l[j] = 32) ∧ Ext no w wq) (fun s9 _ => l.length - (intOf s9).toNat)
      case atStart => exact ⟨0, Nat.zero_le _, rfl, fun j _ h => by omega, hx⟩
      case round =>
        clear hx e0
        obtain ⟨k, hk, rfl, hall, hx⟩ := hrel
        have Hall := Lib.hid hall
        clear hall
        by_cases hgo : k < l.length ∧ l[k]? = some 32
        · obtain ⟨hkl, h32⟩ := hgo
          have e0 : decide ((k : Int) < l.length) = true := decT (by omega)
          have e0' : decide (k < l.length) = true := decT (by omega)
          have ixs : ∀ w, (Instr.index 9 (.string (str l)) (.int .i64 (k : Int))).run Tryd.prog w = .ok (.int .u8 32) w := fun w => str_index w l k 32 h32
          have Hn := Lib.hid (show ∀ (j : Nat) (hj : j < l.length), j < k + 1 → l[j] = 32 from fun j hj h => by
            by_cases e : j = k
            · subst e; rw [List.getElem?_eq_getElem hj] at h32; exact Option.some.inj h32
            · exact Hall.out j hj (by omega))
          clear h32
          go_wp2_with fail
          go_roundw
          case rel => exact ⟨k + 1, by omega, by go_num, Hn.out, hx⟩
          case measure => simp [intOf]; omega
        · -- all blanks ahead are counted
          have htl : trimL l = l.drop k := by
            rw [← trimL_drop l k Hall.out]
            refine trimL_done ?_
            by_cases hkl : k < l.length
            · refine .inr ⟨l[k], l.drop (k + 1), List.drop_eq_getElem_cons hkl, fun e => hgo ⟨hkl, by rw [List.getElem?_eq_getElem hkl, e]⟩⟩
            · exact .inl (List.drop_eq_nil_of_le (by omega))
          have hBk : B = trimR (l.drop k) := by rw [HB.out]; unfold trim; rw [trim_comm, htl]
          have hBf : (l.drop k).take B.length = B := by
            have := trim_front (l.drop k)
            rw [← hBk] at this
            exact this.symm
          have hkB : k + B.length ≤ l.length := by
            have := congrArg List.length hBf
            rw [List.length_take, List.length_drop] at this
            omega
          have hct : ∀ w, (Instr.sliceAt 9 (.string (str l)) (some (.int .i64 (k : Int))) (some (.int .i64 ((k : Int) + B.length))) none).run Tryd.prog w = .ok (.string (str B)) w := fun w => by
            rw [show (k : Int) + B.length = ((k + B.length : Nat) : Int) by omega, cut_both w l k (k + B.length) (by omega) hkB, show k + B.length - k = B.length by omega, hBf]
          have dk : decide ((k : Int) + B.length ≤ l.length) = true := decT (by omega)
          have hbe := beqStrT (rfl : B = B)
          have hfirst : B = [] ∨ ∃ b, B[0]? = some b ∧ b ≠ 32 := by
            rcases trimL_head (trimR l) with h | ⟨b, t, h, hb⟩
            · exact .inl (by rw [HB.out]; exact h)
            · exact .inr ⟨b, by rw [HB.out]; unfold trim; rw [h]; rfl, hb⟩
          have hlast : B = [] ∨ ∃ b, B[B.length - 1]? = some b ∧ b ≠ 32 := by
            rcases trimR_last (l.drop k) with h | ⟨b, t, h, hb⟩
            · exact .inl (by rw [hBk]; exact h)
            · exact .inr ⟨b, by rw [hBk, h]; simp, hb⟩
          have hend : ∀ b : UInt8, b ≠ 32 → ((b.toNat : Int) != 32) = true := fun b hb => by
            rw [bne_iff_ne]
            intro e
            exact hb (UInt8.toNat_inj.1 (by show b.toNat = 32; omega))
          have hexit : ∀ {b : UInt8}, l[k]? = some b → ((b.toNat : Int) == 32) = false := fun {b} hb => by
            rw [beq_eq_false_iff_ne]
            intro e
            have : b = 32 := UInt8.toNat_inj.1 (by show b.toNat = 32; omega)
            subst this
            have hkl : k < l.length := (List.getElem?_eq_some_iff.1 hb).1
            exact hgo ⟨hkl, hb⟩
          clear htl hBk hBf hgo
          by_cases hkl : k < l.length
          · have e0 : decide ((k : Int) < l.length) = true := decT (by omega)
            have e0' : decide (k < l.length) = true := decT (by omega)
            obtain ⟨b, hb⟩ : ∃ b, l[k]? = some b := ⟨_, List.getElem?_eq_getElem hkl⟩
            have ixs : ∀ w, (Instr.index 9 (.string (str l)) (.int .i64 (k : Int))).run Tryd.prog w = .ok (.int .u8 b.toNat) w := fun w => str_index w l k b hb
            have hb2 := hexit hb
            clear hexit hb
            rcases hfirst with hB0 | ⟨b0, hb0, hn0⟩
            · have dz : ((B.length : Int) == 0) = true := by rw [hB0]; rfl
              clear hB0 hlast hend
              go_wp2_with fail
              go_ret
              exact ⟨rfl, hx⟩
            · rcases hlast with hB0 | ⟨b1, hb1, hn1⟩
              · rw [hB0] at hb0; cases hb0
              have hBp : 0 < B.length := by have := (List.getElem?_eq_some_iff.1 hb0).1; omega
              have dz : ((B.length : Int) == 0) = false := by rw [beq_eq_false_iff_ne]; omega
              have i0 : ∀ w, (Instr.index 9 (.string (str B)) (.int .i64 0)).run Tryd.prog w = .ok (.int .u8 b0.toNat) w := fun w => str_index w B 0 b0 hb0
              have i1 : ∀ w, (Instr.index 9 (.string (str B)) (.int .i64 ((B.length : Int) - 1))).run Tryd.prog w = .ok (.int .u8 b1.toNat) w := fun w => by
                rw [show (B.length : Int) - 1 = ((B.length - 1 : Nat) : Int) by omega]
                exact str_index w B (B.length - 1) b1 hb1
              have n0 := hend b0 hn0
              have n1 := hend b1 hn1
              clear hend hb0 hb1 hn0 hn1
              go_wp2_with fail
              go_ret
              exact ⟨rfl, hx⟩
          · have e0 : decide ((k : Int) < l.length) = false := decF (by omega)
            have e0' : decide (k < l.length) = false := decF (by omega)
            clear hexit
            rcases hfirst with hB0 | ⟨b0, hb0, hn0⟩
            · have dz : ((B.length : Int) == 0) = true := by rw [hB0]; rfl
              clear hB0 hlast hend
              go_wp2_with fail
              go_ret
              exact ⟨rfl, hx⟩
            · rcases hlast with hB0 | ⟨b1, hb1, hn1⟩
              · rw [hB0] at hb0; cases hb0
              have hBp : 0 < B.length := by have := (List.getElem?_eq_some_iff.1 hb0).1; omega
              have dz : ((B.length : Int) == 0) = false := by rw [beq_eq_false_iff_ne]; omega
              have i0 : ∀ w, (Instr.index 9 (.string (str B)) (.int .i64 0)).run Tryd.prog w = .ok (.int .u8 b0.toNat) w := fun w => str_index w B 0 b0 hb0
              have i1 : ∀ w, (Instr.index 9 (.string (str B)) (.int .i64 ((B.length : Int) - 1))).run Tryd.prog w = .ok (.int .u8 b1.toNat) w := fun w => by
                rw [show (B.length : Int) - 1 = ((B.length - 1 : Nat) : Int) by omega]
                exact str_index w B (B.length - 1) b1 hb1
              have n0 := hend b0 hn0
              have n1 := hend b1 hn1
              clear hend hb0 hb1 hn0 hn1
              go_wp2_with fail
              go_ret
              exact ⟨rfl, hx⟩
end Go.Proofs.YtcopnpkblcgocaaDoor
