/- The walk of the law OpsTexts. -/
import Derived.Test.YtfelipkbbefhhaaOpL
namespace Go.Proofs.Ytfelipkbbefhhaa
open Go.RowKit Go.Esc
set_option linter.unusedVariables false

theorem zeros_bs (m : Nat) : List.replicate m (Value.int .u8 0) = bs (List.replicate m 0) := by simp [bs, B8]
theorem bs_set (l : List UInt8) (i : Nat) (b : UInt8) : (bs l).set i (B8 b) = bs (l.set i b) := by unfold bs; rw [List.map_set]

/-- A text of x's, one of them turned. -/
theorem xs_ok (M : List UInt8) (m r : Nat) (y : UInt8) (hM : M.length = m) (hx : ∀ i, i < m → M[i]? = some 120) (hr : r < m) (h40 : m ≤ 40) (hy : textB y = true) : textOk (M.set r y) = true := by
  rw [textOk_iff, List.length_set]
  refine ⟨by omega, fun j b hb => ?_⟩
  have hj := (List.getElem?_eq_some_iff.1 hb).1
  rw [List.length_set] at hj
  by_cases e : r = j
  · subst e
    rw [List.getElem?_set_self (by omega)] at hb
    cases hb
    simpa [textB] using hy
  · rw [List.getElem?_set_ne e, hx j (by omega)] at hb
    cases hb
    decide
theorem xs_bad (M : List UInt8) (m r : Nat) (y : UInt8) (hM : M.length = m) (hr : r < m) (hy : 40 < m ∨ textB y = false) : textOk (M.set r y) = false := by
  cases h : textOk (M.set r y) with
  | false => rfl
  | true =>
    obtain ⟨h1, h2⟩ := (textOk_iff _).1 h
    rw [List.length_set] at h1
    rcases hy with hy | hy
    · omega
    · have := h2 r y (by rw [List.getElem?_set_self (by omega)])
      simp [textB, this.1, this.2] at hy
theorem set_of_key (k t : List UInt8) : checkOp ⟨⟨0, 1, 1⟩, 0, 1, 1, k, t, 0, 0, []⟩ = if ¬ (textOk k = true ∧ textOk t = true) then 5 else if k = [] then 1 else 0 := by
  unfold checkOp kindErr
  rw [if_neg (by simp [headOk]), if_neg (by simp)]
  by_cases h : k = [] <;> simp [h]

set_option maxRecDepth 100000 in
set_option maxHeartbeats 16000000 in
theorem texts_walk (w : World) (n : Int) (y : UInt8) (at' : Int) (key : Bool) (hn : I64ok n) (hat : I64ok at') :
    Calls Try.prog 5 #[.int .i64 n, .int .u8 y.toNat, .int .i64 at', .bool key] w fun e w' => e = .returned (.bool true) ∧ Ext no w w' := by
  go_enter Try.func5, Try.ntmps5
  go_wp2_with fail
  refine (known_any w).mono ?_
  rintro e w1 ⟨rfl, hx1⟩
  go_wp2_with fail
  refine (within_any n 44 w1 (by omega) (by omega) hn).mono ?_
  rintro e w2 ⟨rfl, rfl⟩
  obtain ⟨m, hm⟩ : ∃ m : Nat, n % 44 = (m : Int) := ⟨(n % 44).toNat, by omega⟩
  have hm44 : m < 44 := by omega
  rw [hm]
  clear hm
  go_wp2_with (with_reducible refine wpList_make_z TBytes rfl rfl rfl m rfl rfl rfl rfl w1.heap.size (Nat.le_refl _) (by omega) (by unfold maxLen; omega) ?_)
  intro ad w2 hown hx2
  rw [zeros_bs] at hown
  have hx02 := hx1.comp hx2
  have hw1 := hx1.size
  clear hx1 hx2
  go_wp2_with fail
  go_loopw [10] (fun s10 wr => ∃ (j : Nat) (M : List UInt8), j ≤ m ∧ s10 = .int .i64 j ∧ M.length = m ∧ (∀ i, i < j → M[i]? = some 120) ∧ Own wr w1.heap.size (some ad) 1 m m (bs M) ∧ Ext no w wr) (fun s10 _ => m - (intOf s10).toNat)
  case atStart => exact ⟨0, List.replicate m 0, by omega, rfl, by simp, fun i h => absurd h (by omega), hown, hx02⟩
  case round =>
    clear hown hx02
    obtain ⟨j, M, hj, rfl, hM, hfill, hown, hx⟩ := hrel
    have HM := Lib.hid hM
    clear hM
    by_cases hjl : j < m
    · have d1 : decide (j < m) = true := decT hjl
      have hbc := hown.rd.cell j (by rw [bs_length, HM.out]; exact hjl)
      have hbf : wr.frozen? (ad.add j) = false := by
        obtain ⟨_, e, _, f⟩ := hown.can j (by omega)
        cases e; exact f
      have hblo := (hown.base ad rfl).1
      have hxs : Ext (just ad.block) wr (wr.setCell (ad.add j) (.int .u8 120)) := Ext.setCell _ _ _ (show (ad.add j).block = ad.block by first | rfl | (simp [Addr.add]; done) | (unfold Addr.add; split <;> rfl))
      have hown5 : Own (wr.setCell (ad.add j) (.int .u8 120)) w1.heap.size (some ad) 1 m m (bs (M.set j 120)) := by
        rw [← bs_set]; exact hown.set j (by omega) (.int .u8 120)
      have hx5 := hx.trans hxs (fun i hi h => by simp only [Esc.just] at h; omega)
      go_wp2_with fail
      go_roundw
      case rel => exact ⟨j + 1, M.set j 120, by omega, by go_num, by rw [List.length_set]; exact HM.out, fun i hi => by
        by_cases e : j = i
        · subst e; rw [List.getElem?_set_self (by rw [HM.out]; exact hjl)]
        · rw [List.getElem?_set_ne e]; exact hfill i (by omega), hown5, hx5⟩
      case measure => simp [intOf]; omega
    have d1 : decide (j < m) = false := decF hjl
    obtain rfl : m = j := by omega
    have Hfill := Lib.hid hfill
    clear hfill hj hjl
    rcases Nat.eq_zero_or_pos m with h0 | hpos
    · have hM0 := HM.out
      have hR := hown.rd
      have hx5 := hx
      clear hown hx HM Hfill
      subst h0
      obtain rfl : M = [] := List.eq_nil_of_length_eq_zero hM0
      go_upto_region 11 with fail
      obtain ⟨L, hLL⟩ : ∃ L : List UInt8, L = [] := ⟨_, rfl⟩
      rw [← hLL] at hR
      have H0 := Lib.hid hLL
      have hL : L.length = 0 := by rw [hLL]; rfl
      clear hLL hM0
      generalize wr = w5 at *
      have HL := Lib.hid hL
      have cv := convStr w5 (some ad) 0 0 L (by rw [HL.out]) hR
      clear hL
      cases key with
      | false =>
        go_upto_region 14 with fail
        have hb7 := Blk.lit w5 #[.int .i64 0, .int .i64 1, .int .i64 1, .int .i64 0, .int .i64 1, .int .i64 1, .string { data := #[107] }, .string (str L), .int .i64 0, .int .i64 0, .slice none 0 0] 26
        have hx7 := hx5.comp (Ext.alloc no w5 (.cells #[.int .i64 0, .int .i64 1, .int .i64 1, .int .i64 0, .int .i64 1, .int .i64 1, .string { data := #[107] }, .string (str L), .int .i64 0, .int .i64 0, .slice none 0 0] 26))
        clear cv hR hx5
        generalize w5.alloc (.cells #[.int .i64 0, .int .i64 1, .int .i64 1, .int .i64 0, .int .i64 1, .int .i64 1, .string { data := #[107] }, .string (str L), .int .i64 0, .int .i64 0, .slice none 0 0] 26) = w7 at *
        have b0 := hb7.cell 0 _ rfl
        have b1 := hb7.cell 1 _ rfl
        have b2 := hb7.cell 2 _ rfl
        have b3 := hb7.cell 3 _ rfl
        have b4 := hb7.cell 4 _ rfl
        have b5 := hb7.cell 5 _ rfl
        have b6 := hb7.cell 6 _ rfl
        have b7 := hb7.cell 7 _ rfl
        have b8 := hb7.cell 8 _ rfl
        have b9 := hb7.cell 9 _ rfl
        have b10 := hb7.cell 10 _ rfl
        clear hb7
        ·
          have Hr := Lib.hid (show checkOp ⟨⟨0, 1, 1⟩, 0, 1, 1, [107], L, 0, 0, []⟩ = 0 by rw [set_of_key, H0.out]; decide)
          go_wp2_with fail
          refine (check_any w7 ⟨⟨0, 1, 1⟩, 0, 1, 1, [107], L, 0, 0, []⟩ none 0 (Rd.nil _ _) (by simp) (by unfold maxLen; have := HL.out; simp; try omega) (by unfold maxLen; have := HL.out; simp; try omega)).mono ?_
          rintro e w8 ⟨rfl, hx8⟩
          rw [Hr.out]
          go_wp2_with fail
          go_ret
          exact ⟨rfl, hx7.comp hx8⟩
      | true =>
        go_upto_region 13 with fail
        have hb6 := Blk.lit w5 #[.int .i64 0, .int .i64 1, .int .i64 1, .int .i64 0, .int .i64 1, .int .i64 1, .string { data := #[107] }, .string (str L), .int .i64 0, .int .i64 0, .slice none 0 0] 26
        have hx6 := hx5.comp (Ext.alloc no w5 (.cells #[.int .i64 0, .int .i64 1, .int .i64 1, .int .i64 0, .int .i64 1, .int .i64 1, .string { data := #[107] }, .string (str L), .int .i64 0, .int .i64 0, .slice none 0 0] 26))
        have cv6 := convStr (w5.alloc (.cells #[.int .i64 0, .int .i64 1, .int .i64 1, .int .i64 0, .int .i64 1, .int .i64 1, .string { data := #[107] }, .string (str L), .int .i64 0, .int .i64 0, .slice none 0 0] 26)) (some ad) 0 0 L (by rw [HL.out]) (hR.alloc _)
        have hwg : w.heap.size ≤ w5.heap.size := hx5.size
        clear cv hR hx5
        generalize w5.alloc (.cells #[.int .i64 0, .int .i64 1, .int .i64 1, .int .i64 0, .int .i64 1, .int .i64 1, .string { data := #[107] }, .string (str L), .int .i64 0, .int .i64 0, .slice none 0 0] 26) = w6 at *
        generalize w5.heap.size = g at *
        have f6 := hb6.fr 6
        have f7 := hb6.fr 7
        have f7' := (hb6.set 6 (.string (str L)) (by simp)).fr 7
        have e6 := hb6.cell 6 _ rfl
        have e7 := hb6.cell 7 _ rfl
        have e7' := (hb6.set 6 (.string (str L)) (by simp)).cell 7 _ rfl
        go_upto_region 14 with fail
        have hb7 := (hb6.set 6 (.string (str L)) (by simp)).set 7 (.string { data := #[] }) (by simp)
        have hx7 := (hx6.trans (Ext.setCell w6 ⟨g, 6, none⟩ (.string (str L)) (S := just g) rfl) (fun i hi h => by simp only [Esc.just] at h; omega)).trans (Ext.setCell (w6.setCell ⟨g, 6, none⟩ (.string (str L))) ⟨g, 7, none⟩ (.string { data := #[] }) (S := just g) rfl) (fun i hi h => by simp only [Esc.just] at h; omega)
        clear cv6 hb6 hx6 f6 f7 f7' e6 e7 e7'
        generalize (w6.setCell ⟨g, 6, none⟩ (.string (str L))).setCell ⟨g, 7, none⟩ (.string { data := #[] }) = w7 at *
        have b0 := hb7.cell 0 _ rfl
        have b1 := hb7.cell 1 _ rfl
        have b2 := hb7.cell 2 _ rfl
        have b3 := hb7.cell 3 _ rfl
        have b4 := hb7.cell 4 _ rfl
        have b5 := hb7.cell 5 _ rfl
        have b6 := hb7.cell 6 _ rfl
        have b7 := hb7.cell 7 _ rfl
        have b8 := hb7.cell 8 _ rfl
        have b9 := hb7.cell 9 _ rfl
        have b10 := hb7.cell 10 _ rfl
        clear hb7
        ·
          have Hr := Lib.hid (show checkOp ⟨⟨0, 1, 1⟩, 0, 1, 1, L, [], 0, 0, []⟩ = 1 by rw [set_of_key, H0.out]; decide)
          go_wp2_with fail
          refine (check_any w7 ⟨⟨0, 1, 1⟩, 0, 1, 1, L, [], 0, 0, []⟩ none 0 (Rd.nil _ _) (by simp) (by unfold maxLen; have := HL.out; simp; try omega) (by unfold maxLen; have := HL.out; simp; try omega)).mono ?_
          rintro e w8 ⟨rfl, hx8⟩
          rw [Hr.out]
          go_wp2_with fail
          go_ret
          exact ⟨rfl, hx7.comp hx8⟩
    · have d2 : decide ((0 : Int) < m) = true := decT (by omega)
      have dm : ((m : Int) == 0) = false := by rw [beq_eq_false_iff_ne]; omega
      go_wp2_with fail
      refine (within_any at' m wr (by omega) (by omega) hat).mono ?_
      rintro e w3 ⟨rfl, rfl⟩
      obtain ⟨r, hr⟩ : ∃ r : Nat, at' % (m : Int) = (r : Int) := ⟨(at' % m).toNat, by have := Int.emod_nonneg at' (show (m : Int) ≠ 0 by omega); omega⟩
      have hrm : r < m := by have := Int.emod_lt_of_pos at' (show (0 : Int) < m by omega); omega
      rw [hr]
      clear hr
      have hbc := hown.rd.cell r (by rw [bs_length, HM.out]; exact hrm)
      have hbf : wr.frozen? (ad.add r) = false := by
        obtain ⟨_, e, _, f⟩ := hown.can r (by omega)
        cases e; exact f
      have hblo := (hown.base ad rfl).1
      have hxs : Ext (just ad.block) wr (wr.setCell (ad.add r) (.int .u8 y.toNat)) := Ext.setCell _ _ _ (show (ad.add r).block = ad.block by first | rfl | (simp [Addr.add]; done) | (unfold Addr.add; split <;> rfl))
      have hR : Rd (wr.setCell (ad.add r) (.int .u8 y.toNat)) (some ad) (bs (M.set r y)) := by
        rw [← bs_set]; exact (hown.set r (by omega) (.int .u8 y.toNat)).rd
      have hx5 := hx.trans hxs (fun i hi h => by simp only [Esc.just] at h; omega)
      go_upto_region 11 with fail
      have HB := Lib.hid (show (40 < m ∨ (¬ 40 < m ∧ y.toNat < 32) ∨ (¬ 40 < m ∧ y.toNat = 127)) → textOk (M.set r y) = false from fun h => xs_bad M m r y HM.out hrm (by
        rcases h with h | h | h
        · exact .inl h
        · exact .inr (by simp [textB]; omega)
        · exact .inr (by simp [textB]; omega)))
      have HG := Lib.hid (show (m ≤ 40 ∧ 32 ≤ y.toNat ∧ y.toNat ≠ 127) → textOk (M.set r y) = true from fun h => xs_ok M m r y HM.out Hfill.out hrm h.1 (by simp [textB]; omega))
      have hL : (M.set r y).length = m := by rw [List.length_set]; exact HM.out
      clear hbc hbf hxs hown hx
      generalize wr.setCell (ad.add r) (.int .u8 y.toNat) = w5 at *
      generalize M.set r y = L at *
      have HL := Lib.hid hL
      have cv := convStr w5 (some ad) m m L (by rw [HL.out]) hR
      clear hL
      cases key with
      | false =>
        go_upto_region 14 with fail
        have hb7 := Blk.lit w5 #[.int .i64 0, .int .i64 1, .int .i64 1, .int .i64 0, .int .i64 1, .int .i64 1, .string { data := #[107] }, .string (str L), .int .i64 0, .int .i64 0, .slice none 0 0] 26
        have hx7 := hx5.comp (Ext.alloc no w5 (.cells #[.int .i64 0, .int .i64 1, .int .i64 1, .int .i64 0, .int .i64 1, .int .i64 1, .string { data := #[107] }, .string (str L), .int .i64 0, .int .i64 0, .slice none 0 0] 26))
        clear cv hR hx5
        generalize w5.alloc (.cells #[.int .i64 0, .int .i64 1, .int .i64 1, .int .i64 0, .int .i64 1, .int .i64 1, .string { data := #[107] }, .string (str L), .int .i64 0, .int .i64 0, .slice none 0 0] 26) = w7 at *
        have b0 := hb7.cell 0 _ rfl
        have b1 := hb7.cell 1 _ rfl
        have b2 := hb7.cell 2 _ rfl
        have b3 := hb7.cell 3 _ rfl
        have b4 := hb7.cell 4 _ rfl
        have b5 := hb7.cell 5 _ rfl
        have b6 := hb7.cell 6 _ rfl
        have b7 := hb7.cell 7 _ rfl
        have b8 := hb7.cell 8 _ rfl
        have b9 := hb7.cell 9 _ rfl
        have b10 := hb7.cell 10 _ rfl
        clear hb7
        have h4 : 40 < m ∨ (¬ 40 < m ∧ y.toNat < 32) ∨ (¬ 40 < m ∧ y.toNat = 127) ∨ (m ≤ 40 ∧ 32 ≤ y.toNat ∧ y.toNat ≠ 127) := by omega
        rcases h4 with h40 | hlo | hde | hgo
        ·
          have d40 : decide ((m : Int) ≤ 40) = false := decF (by omega)
          have Hr := Lib.hid (show checkOp ⟨⟨0, 1, 1⟩, 0, 1, 1, [107], L, 0, 0, []⟩ = 5 by have hT := HB.out (by first | exact .inl h40 | exact .inr (.inl h40) | exact .inr (.inr h40)); rw [set_of_key, if_pos (by rw [hT]; simp)])
          clear h40
          go_wp2_with fail
          refine (check_any w7 ⟨⟨0, 1, 1⟩, 0, 1, 1, [107], L, 0, 0, []⟩ none 0 (Rd.nil _ _) (by simp) (by unfold maxLen; have := HL.out; simp; try omega) (by unfold maxLen; have := HL.out; simp; try omega)).mono ?_
          rintro e w8 ⟨rfl, hx8⟩
          rw [Hr.out]
          go_wp2_with fail
          go_ret
          exact ⟨rfl, hx7.comp hx8⟩
        ·
          have d40 : decide ((m : Int) ≤ 40) = true := decT (by omega)
          have d32 : decide ((32 : Int) ≤ y.toNat) = false := decF (by omega)
          have Hr := Lib.hid (show checkOp ⟨⟨0, 1, 1⟩, 0, 1, 1, [107], L, 0, 0, []⟩ = 5 by have hT := HB.out (by first | exact .inl hlo | exact .inr (.inl hlo) | exact .inr (.inr hlo)); rw [set_of_key, if_pos (by rw [hT]; simp)])
          clear hlo
          go_wp2_with fail
          refine (check_any w7 ⟨⟨0, 1, 1⟩, 0, 1, 1, [107], L, 0, 0, []⟩ none 0 (Rd.nil _ _) (by simp) (by unfold maxLen; have := HL.out; simp; try omega) (by unfold maxLen; have := HL.out; simp; try omega)).mono ?_
          rintro e w8 ⟨rfl, hx8⟩
          rw [Hr.out]
          go_wp2_with fail
          go_ret
          exact ⟨rfl, hx7.comp hx8⟩
        ·
          have d40 : decide ((m : Int) ≤ 40) = true := decT (by omega)
          have d32 : decide ((32 : Int) ≤ y.toNat) = true := decT (by omega)
          have d127 : ((y.toNat : Int) != 127) = false := by rw [bne_eq_false_iff_eq]; omega
          have Hr := Lib.hid (show checkOp ⟨⟨0, 1, 1⟩, 0, 1, 1, [107], L, 0, 0, []⟩ = 5 by have hT := HB.out (by first | exact .inl hde | exact .inr (.inl hde) | exact .inr (.inr hde)); rw [set_of_key, if_pos (by rw [hT]; simp)])
          clear hde
          go_wp2_with fail
          refine (check_any w7 ⟨⟨0, 1, 1⟩, 0, 1, 1, [107], L, 0, 0, []⟩ none 0 (Rd.nil _ _) (by simp) (by unfold maxLen; have := HL.out; simp; try omega) (by unfold maxLen; have := HL.out; simp; try omega)).mono ?_
          rintro e w8 ⟨rfl, hx8⟩
          rw [Hr.out]
          go_wp2_with fail
          go_ret
          exact ⟨rfl, hx7.comp hx8⟩
        ·
          have d40 : decide ((m : Int) ≤ 40) = true := decT (by omega)
          have d32 : decide ((32 : Int) ≤ y.toNat) = true := decT (by omega)
          have d127 : ((y.toNat : Int) != 127) = true := by rw [bne_iff_ne]; omega
          have Hr := Lib.hid (show checkOp ⟨⟨0, 1, 1⟩, 0, 1, 1, [107], L, 0, 0, []⟩ = 0 by have hT := HG.out hgo; rw [set_of_key, if_neg (by rw [hT, (show textOk [107] = true by decide)]; simp), if_neg (by simp)])
          clear hgo
          go_wp2_with fail
          refine (check_any w7 ⟨⟨0, 1, 1⟩, 0, 1, 1, [107], L, 0, 0, []⟩ none 0 (Rd.nil _ _) (by simp) (by unfold maxLen; have := HL.out; simp; try omega) (by unfold maxLen; have := HL.out; simp; try omega)).mono ?_
          rintro e w8 ⟨rfl, hx8⟩
          rw [Hr.out]
          go_wp2_with fail
          go_ret
          exact ⟨rfl, hx7.comp hx8⟩
      | true =>
        go_upto_region 13 with fail
        have hb6 := Blk.lit w5 #[.int .i64 0, .int .i64 1, .int .i64 1, .int .i64 0, .int .i64 1, .int .i64 1, .string { data := #[107] }, .string (str L), .int .i64 0, .int .i64 0, .slice none 0 0] 26
        have hx6 := hx5.comp (Ext.alloc no w5 (.cells #[.int .i64 0, .int .i64 1, .int .i64 1, .int .i64 0, .int .i64 1, .int .i64 1, .string { data := #[107] }, .string (str L), .int .i64 0, .int .i64 0, .slice none 0 0] 26))
        have cv6 := convStr (w5.alloc (.cells #[.int .i64 0, .int .i64 1, .int .i64 1, .int .i64 0, .int .i64 1, .int .i64 1, .string { data := #[107] }, .string (str L), .int .i64 0, .int .i64 0, .slice none 0 0] 26)) (some ad) m m L (by rw [HL.out]) (hR.alloc _)
        have hwg : w.heap.size ≤ w5.heap.size := hx5.size
        clear cv hR hx5
        generalize w5.alloc (.cells #[.int .i64 0, .int .i64 1, .int .i64 1, .int .i64 0, .int .i64 1, .int .i64 1, .string { data := #[107] }, .string (str L), .int .i64 0, .int .i64 0, .slice none 0 0] 26) = w6 at *
        generalize w5.heap.size = g at *
        have f6 := hb6.fr 6
        have f7 := hb6.fr 7
        have f7' := (hb6.set 6 (.string (str L)) (by simp)).fr 7
        have e6 := hb6.cell 6 _ rfl
        have e7 := hb6.cell 7 _ rfl
        have e7' := (hb6.set 6 (.string (str L)) (by simp)).cell 7 _ rfl
        go_upto_region 14 with fail
        have hb7 := (hb6.set 6 (.string (str L)) (by simp)).set 7 (.string { data := #[] }) (by simp)
        have hx7 := (hx6.trans (Ext.setCell w6 ⟨g, 6, none⟩ (.string (str L)) (S := just g) rfl) (fun i hi h => by simp only [Esc.just] at h; omega)).trans (Ext.setCell (w6.setCell ⟨g, 6, none⟩ (.string (str L))) ⟨g, 7, none⟩ (.string { data := #[] }) (S := just g) rfl) (fun i hi h => by simp only [Esc.just] at h; omega)
        clear cv6 hb6 hx6 f6 f7 f7' e6 e7 e7'
        generalize (w6.setCell ⟨g, 6, none⟩ (.string (str L))).setCell ⟨g, 7, none⟩ (.string { data := #[] }) = w7 at *
        have b0 := hb7.cell 0 _ rfl
        have b1 := hb7.cell 1 _ rfl
        have b2 := hb7.cell 2 _ rfl
        have b3 := hb7.cell 3 _ rfl
        have b4 := hb7.cell 4 _ rfl
        have b5 := hb7.cell 5 _ rfl
        have b6 := hb7.cell 6 _ rfl
        have b7 := hb7.cell 7 _ rfl
        have b8 := hb7.cell 8 _ rfl
        have b9 := hb7.cell 9 _ rfl
        have b10 := hb7.cell 10 _ rfl
        clear hb7
        have h4 : 40 < m ∨ (¬ 40 < m ∧ y.toNat < 32) ∨ (¬ 40 < m ∧ y.toNat = 127) ∨ (m ≤ 40 ∧ 32 ≤ y.toNat ∧ y.toNat ≠ 127) := by omega
        rcases h4 with h40 | hlo | hde | hgo
        ·
          have d40 : decide ((m : Int) ≤ 40) = false := decF (by omega)
          have Hr := Lib.hid (show checkOp ⟨⟨0, 1, 1⟩, 0, 1, 1, L, [], 0, 0, []⟩ = 5 by have hT := HB.out (by first | exact .inl h40 | exact .inr (.inl h40) | exact .inr (.inr h40)); rw [set_of_key, if_pos (by rw [hT]; simp)])
          clear h40
          go_wp2_with fail
          refine (check_any w7 ⟨⟨0, 1, 1⟩, 0, 1, 1, L, [], 0, 0, []⟩ none 0 (Rd.nil _ _) (by simp) (by unfold maxLen; have := HL.out; simp; try omega) (by unfold maxLen; have := HL.out; simp; try omega)).mono ?_
          rintro e w8 ⟨rfl, hx8⟩
          rw [Hr.out]
          go_wp2_with fail
          go_ret
          exact ⟨rfl, hx7.comp hx8⟩
        ·
          have d40 : decide ((m : Int) ≤ 40) = true := decT (by omega)
          have d32 : decide ((32 : Int) ≤ y.toNat) = false := decF (by omega)
          have Hr := Lib.hid (show checkOp ⟨⟨0, 1, 1⟩, 0, 1, 1, L, [], 0, 0, []⟩ = 5 by have hT := HB.out (by first | exact .inl hlo | exact .inr (.inl hlo) | exact .inr (.inr hlo)); rw [set_of_key, if_pos (by rw [hT]; simp)])
          clear hlo
          go_wp2_with fail
          refine (check_any w7 ⟨⟨0, 1, 1⟩, 0, 1, 1, L, [], 0, 0, []⟩ none 0 (Rd.nil _ _) (by simp) (by unfold maxLen; have := HL.out; simp; try omega) (by unfold maxLen; have := HL.out; simp; try omega)).mono ?_
          rintro e w8 ⟨rfl, hx8⟩
          rw [Hr.out]
          go_wp2_with fail
          go_ret
          exact ⟨rfl, hx7.comp hx8⟩
        ·
          have d40 : decide ((m : Int) ≤ 40) = true := decT (by omega)
          have d32 : decide ((32 : Int) ≤ y.toNat) = true := decT (by omega)
          have d127 : ((y.toNat : Int) != 127) = false := by rw [bne_eq_false_iff_eq]; omega
          have Hr := Lib.hid (show checkOp ⟨⟨0, 1, 1⟩, 0, 1, 1, L, [], 0, 0, []⟩ = 5 by have hT := HB.out (by first | exact .inl hde | exact .inr (.inl hde) | exact .inr (.inr hde)); rw [set_of_key, if_pos (by rw [hT]; simp)])
          clear hde
          go_wp2_with fail
          refine (check_any w7 ⟨⟨0, 1, 1⟩, 0, 1, 1, L, [], 0, 0, []⟩ none 0 (Rd.nil _ _) (by simp) (by unfold maxLen; have := HL.out; simp; try omega) (by unfold maxLen; have := HL.out; simp; try omega)).mono ?_
          rintro e w8 ⟨rfl, hx8⟩
          rw [Hr.out]
          go_wp2_with fail
          go_ret
          exact ⟨rfl, hx7.comp hx8⟩
        ·
          have d40 : decide ((m : Int) ≤ 40) = true := decT (by omega)
          have d32 : decide ((32 : Int) ≤ y.toNat) = true := decT (by omega)
          have d127 : ((y.toNat : Int) != 127) = true := by rw [bne_iff_ne]; omega
          have Hr := Lib.hid (show checkOp ⟨⟨0, 1, 1⟩, 0, 1, 1, L, [], 0, 0, []⟩ = 0 by have hT := HG.out hgo; rw [set_of_key, if_neg (by rw [hT, (show textOk [] = true by decide)]; simp), if_neg (by intro h; have := HL.out; rw [h] at this; simp at this; omega)])
          clear hgo
          go_wp2_with fail
          refine (check_any w7 ⟨⟨0, 1, 1⟩, 0, 1, 1, L, [], 0, 0, []⟩ none 0 (Rd.nil _ _) (by simp) (by unfold maxLen; have := HL.out; simp; try omega) (by unfold maxLen; have := HL.out; simp; try omega)).mono ?_
          rintro e w8 ⟨rfl, hx8⟩
          rw [Hr.out]
          go_wp2_with fail
          go_ret
          exact ⟨rfl, hx7.comp hx8⟩
end Go.Proofs.Ytfelipkbbefhhaa
