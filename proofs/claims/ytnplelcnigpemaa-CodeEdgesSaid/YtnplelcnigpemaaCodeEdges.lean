/- The walk of the law CodeEdges. -/
import Derived.Test.YtnplelcnigpemaaCodeI
import Derived.Test.YtnplelcnigpemaaPlainD
import Derived.Test.YtnplelcnigpemaaLawA
import Derived.Test.YtnplelcnigpemaaRegionB
import Derived.Deep.DeepCutAuto
namespace Go.Proofs.Ytnplelcnigpemaa
open Go.RowKit Go.Esc
set_option linter.unusedVariables false

theorem _root_.Go.Esc.Ext.no1 {g : Nat} {w w' w0 : World} (hx : Ext (just g) w0 w') (h : w.heap.size ≤ g) (h0 : Ext no w w0) : Ext no w w' := h0.trans hx (fun i hi h => by simp only [Esc.just] at h; omega)

def edges (p b : Int) : List Int := [p + b, -p + b, 9223372036854775807, -9223372036854775808]

set_option maxRecDepth 100000 in
set_option maxHeartbeats 4000000 in
theorem edges_walk (w : World) (n k : Int) (hn : I64ok n) (hk : I64ok k) :
    Calls Try.prog 6 #[.int .i64 n, .int .i64 k] w fun e w' => e = .returned (.bool true) ∧ Ext no w w' := by
  obtain ⟨m, hm, hm63⟩ : ∃ m : Nat, n % 63 = (m : Int) ∧ m < 63 := ⟨(n % 63).toNat, by omega, by omega⟩
  obtain ⟨q, hq, hq0, hq1⟩ : ∃ q : Int, k % 5 = q ∧ 0 ≤ q ∧ q < 5 := ⟨_, rfl, by omega, by omega⟩
  have Hn := Lib.hid hn
  have Hk := Lib.hid hk
  have Hm := Lib.hid hm
  have Hq := Lib.hid hq
  clear hn hk hm hq
  have hp1 : (1 : Int) ≤ 2 ^ m := by have : (0 : Int) < 2 ^ m := Int.pow_pos (by decide); omega
  have hp2 : (2 : Int) ^ m ≤ 4611686018427387904 := by
    have : (2 : Nat) ^ m ≤ 2 ^ 62 := Nat.pow_le_pow_right (by decide) (by omega)
    have e : ((2 : Int) ^ m) = ((2 ^ m : Nat) : Int) := by simp
    rw [e]; omega
  have hw : wrap64 (2 ^ m) = 2 ^ m := by unfold wrap64; omega
  go_enter Try.func6, Try.ntmps6
  go_wp2_with fail
  refine (known_any w).mono ?_
  rintro e w1 ⟨rfl, hext1⟩
  go_wp2_with fail
  refine (within_any n 63 w1 (by omega) (by omega) Hn.out).mono ?_
  rintro e w2 ⟨rfl, rfl⟩
  rw [Hm.out]
  go_wp2_with fail
  refine (within_any k 5 w1 (by omega) (by omega) Hk.out).mono ?_
  rintro e w2 ⟨rfl, rfl⟩
  rw [Hq.out]
  go_upto_region 5 with fail
  generalize hwa : w1.alloc _ = wa
  have hxa : Ext no w wa := by rw [← hwa]; exact hext1.comp (Ext.alloc no _ _)
  have hsz : w1.heap.size < wa.heap.size := by rw [← hwa]; simp
  obtain ⟨L, hLd, hL4, hLok⟩ : ∃ L : List Int, Rd wa (some ⟨w1.heap.size, 0, none⟩) (is L) ∧ L.length = 4 ∧ ∀ x ∈ L, I64ok x := by
    refine ⟨edges (2 ^ m) (q - 2), ?_, rfl, ?_⟩
    · rw [← hwa]
      exact Rd.lit _ _ _ _
    · intro x hx
      simp only [edges, List.mem_cons, List.not_mem_nil, or_false] at hx
      unfold I64ok
      rcases hx with rfl | rfl | rfl | rfl <;> omega
  have hl10 : ∀ j, ((L.take j).flatMap encI).length ≤ 10 * j := by
    intro j
    induction j with
    | zero => simp
    | succ j ih =>
      by_cases hj : j < L.length
      · rw [List.take_succ_eq_append_getElem hj, List.flatMap_append, List.length_append, List.flatMap_singleton]
        have := (encI_length L[j] (hLok _ (by simp))).1
        omega
      · rw [List.take_of_length_le (by omega)]
        rw [List.take_of_length_le (by omega)] at ih
        omega
  have HL4 := Lib.hid hL4
  have HLok := Lib.hid hLok
  have Hl10 := Lib.hid hl10
  clear hwa hL4 hLok hl10 hp1 hp2 hw
  generalize hB : w1.heap.size = B at *
  clear hB hext1
  go_wp2_with fail
  go_loopw [6, 7, 8, 9] (fun s6 s7 _ _ wr => ∃ (k : Nat) (a : Option Addr) (c : Nat) (M : List UInt8), k ≤ 4 ∧ s7 = .int .i64 k ∧ M = (L.take k).flatMap encI ∧ s6 = .slice a M.length c ∧ Own wr wa.heap.size a 1 M.length c (bs M) ∧ Ext no wa wr) (fun _ s7 _ _ _ => 4 - (intOf s7).toNat)
  case atStart => exact ⟨0, none, 0, [], Nat.zero_le _, rfl, rfl, rfl, Own.nil _ _ _, Ext.refl _ _⟩
  case round =>
    obtain ⟨k, a, c, M, hk4, rfl, hM, rfl, hown, hxr⟩ := hrel
    by_cases hlt : k < 4
    · have hkl : k < L.length := by rw [HL4.out]; exact hlt
      have hc := hxr.keeps (hLd.cell k (by simpa using hkl)) (fun h => h)
      rw [show (is L)[k]'(by simpa using hkl) = .int .i64 L[k] from by simp [is, I64], Addr.add_lit, Nat.zero_add] at hc
      have HM := Lib.hid (show M ++ encI L[k] = (L.take (k + 1)).flatMap encI by rw [hM, List.take_succ_eq_append_getElem hkl, List.flatMap_append, List.flatMap_singleton])
      have hMl : M.length ≤ 40 := by have := Hl10.out k; rw [← hM] at this; omega
      clear hM
      have HLk := Lib.hid (HLok.out L[k] (by simp))
      generalize L[k] = x at *
      go_wp2_with fail
      refine (int_any wr none 0 [] x (Rd.nil _ _) (by simp) HLk.out).mono ?_
      rintro e w2 ⟨a2, c2, rfl, hown2, hx2⟩
      rw [List.nil_append] at hown2 ⊢
      have hex := encI_length x HLk.out
      have hmark : ∀ j (hj : j < (encI x).length), 128 ≤ (encI x)[j].toNat ↔ j + 1 < (encI x).length := fun j hj => row_mark (zig x) j hj
      have hfirst : 1 < (encI x).length → ∀ h0, ((encI x)[0]'h0).toNat ≠ 128 := fun h _ => row_first (zig x) h
      have Hmark := Lib.hid hmark
      have Hfirst := Lib.hid hfirst
      clear hmark hfirst
      generalize encI x = X at *
      obtain ⟨b2, o2, rfl, _⟩ := hown2.rd.shape (by simp; omega)
      have hc0 := hown2.rd.lookup 0 (by simp; omega)
      rw [show (bs X)[0]'(by simp; omega) = .int .u8 (X[0]'(by omega)).toNat from by simp [bs, B8], Nat.add_zero] at hc0
      obtain ⟨y0, hy0, hne0⟩ : ∃ y : Nat, (X[0]'(by omega)).toNat = y ∧ (1 < X.length → ((y : Int) == 128) = false) := ⟨_, rfl, fun h => by rw [beq_eq_false_iff_ne]; have := Hfirst.out h (by omega); omega⟩
      rw [hy0] at hc0
      clear hy0
      have hxr2 := hxr.comp hx2
      have hown' := hown.ext hx2 (fun _ _ h => h)
      clear hxr hx2 hown
      obtain ⟨h1, hne0⟩ | h1 : (1 < X.length ∧ ((y0 : Int) == 128) = false) ∨ X.length ≤ 1 := by
        by_cases h1 : 1 < X.length
        · exact .inl ⟨h1, hne0 h1⟩
        · exact .inr (by omega)
      all_goals
        have Hrd2 := Lib.hid hown2.rd
        clear hown2
        go_wp2_with fail
        go_loop [9] (fun s9 => ∃ j : Nat, j ≤ X.length ∧ s9 = .int .i64 j) (fun s9 => X.length - (intOf s9).toNat)
        case atStart => exact ⟨0, Nat.zero_le _, rfl⟩
        case round =>
          obtain ⟨j, hj, rfl⟩ := hrel
          by_cases hjl : j < X.length
          · have hcj := Hrd2.out.lookup j (by simpa using hjl)
            rw [show (bs X)[j]'(by simpa using hjl) = .int .u8 (X[j]'hjl).toNat from by simp [bs, B8]] at hcj
            obtain ⟨y, hy, hmk⟩ : ∃ y : Nat, (X[j]'hjl).toNat = y ∧ (128 ≤ y ↔ j + 1 < X.length) := ⟨_, rfl, Hmark.out j hjl⟩
            rw [hy] at hcj
            clear hy
            by_cases hjj : j + 1 < X.length
            · have hb1 : decide (128 ≤ (y : Int)) = true := by rw [decide_eq_true_eq]; omega
              have hb2 : decide ((j : Int) < (X.length : Int) - 1) = true := by rw [decide_eq_true_eq]; omega
              go_wp2_with fail
              go_round
              case rel => exact ⟨j + 1, by omega, by go_num⟩
              case measure => simp [intOf]; omega
            · have hb1 : decide (128 ≤ (y : Int)) = false := by rw [decide_eq_false_iff_not]; omega
              have hb2 : decide ((j : Int) < (X.length : Int) - 1) = false := by rw [decide_eq_false_iff_not]; omega
              go_wp2_with fail
              go_round
              case rel => exact ⟨j + 1, by omega, by go_num⟩
              case measure => simp [intOf]; omega
          · obtain rfl : j = X.length := by omega
            have hsr := hxr2.size
            go_wp2_with (at_builtin; refine wpList_append TBytes rfl rfl rfl hown' rfl Hrd2.out (by simp) (bs_one _) (by unfold maxLen; omega) (by omega) (by omega) ?_)
            intro a5 c5 w5 happ
            have hx5 : Ext no wa w5 := Ext.ofBelow (hxr2.belowAll.trans (hown'.below happ.ext (by omega))) (Nat.le_refl _)
            have hown5 := happ.own
            rw [← bs_append, HM.out, show M.length + X.length = ((L.take (k + 1)).flatMap encI).length by rw [← HM.out, List.length_append]] at hown5
            have HMl := Lib.hid (show M.length + X.length = ((L.take (k + 1)).flatMap encI).length by rw [← HM.out, List.length_append])
            clear happ hown' hxr2 hc0 hc
            go_wp2_with fail
            go_roundw
            case rel => exact ⟨k + 1, a5, c5, (L.take (k + 1)).flatMap encI, by omega, by go_num, rfl, by rw [HMl.out], hown5, hx5⟩
            case measure => simp [intOf]; omega
    · obtain rfl : k = 4 := by omega
      rw [List.take_of_length_le (by have := HL4.out; omega)] at hM
      have hMl : M.length ≤ 40 := by have := Hl10.out 4; rw [List.take_of_length_le (by have := HL4.out; omega), ← hM] at this; omega
      have HM := Lib.hid hM
      clear hM
      go_wp2_with fail
      refine (new_any wr a c M hown.rd (by omega)).mono ?_
      rintro e w2 ⟨g, d, rfl, hr2, hg2, hd2, hx2⟩
      rw [HM.out] at hr2
      have hxr2 := hxr.comp hx2
      have hLd2 := hLd.ext hxr2 (fun _ _ h => h)
      have hs2 := hxr.size
      have hBg : ∀ ad, (some ⟨B, 0, none⟩ : Option Addr) = some ad → ¬ just g ad.block := fun ad ha h => by cases ha; simp only [Esc.just] at h; omega
      clear hown hxr hx2 hd2
      go_wp2_with fail
      go_loopw [11] (fun s11 wr => ∃ k : Nat, k ≤ 4 ∧ s11 = .int .i64 k ∧ Rdr wr g d ((L.drop k).flatMap encI) 0 ∧ Ext (just g) w2 wr) (fun s11 _ => 4 - (intOf s11).toNat)
      case atStart => exact ⟨0, Nat.zero_le _, rfl, hr2, Ext.refl _ _⟩
      case round =>
        clear hr2
        obtain ⟨k, hk4, rfl, hr, hxr⟩ := hrel
        by_cases hlt : k < 4
        · have hkl : k < L.length := by rw [HL4.out]; exact hlt
          have hLr := hLd2.ext hxr hBg
          have hdr : (L.drop k).flatMap encI = encI L[k] ++ (L.drop (k + 1)).flatMap encI := by rw [List.drop_eq_getElem_cons hkl, List.flatMap_cons]
          have HI := Lib.hid (rInt_enc L[k] (HLok.out _ (by simp)) ((L.drop (k + 1)).flatMap encI))
          rw [hdr] at hr
          clear hdr
          go_upto_region 22 with fail
          --<A
          refine wp_region_E [5] (fun x => Rd x (some ⟨B, 0, none⟩) (is L)) (by kernel_rfl) ?_
          refine wpE_take 0 (v := ?_) rfl (by kernel_rfl) (by kernel_rfl) (by kernel_rfl) (fun _ _ _ h => h) hLr.drew (by rfl) ?_ ?_
          rotate_left
          · (intro wq; go_simp; try with_reducible rfl)
          simp only [Act.put, List.setIfInBounds_toArray, List.set_cons_zero, List.set_cons_succ]
          refine wpE_take 2 (v := ?_) rfl (by kernel_rfl) (by kernel_rfl) (by kernel_rfl) (fun _ _ _ h => h) hLr.drew (by rfl) ?_ ?_
          rotate_left
          · (intro wq; go_simp; try with_reducible rfl)
          simp only [Act.put, List.setIfInBounds_toArray, List.set_cons_zero, List.set_cons_succ]
          refine wpE_take 3 (v := ?_) rfl (by kernel_rfl) (by kernel_rfl) (by kernel_rfl) (fun _ _ _ h => h) hLr.drew (by rfl) ?_ ?_
          rotate_left
          · (intro wq; go_simp; try with_reducible rfl)
          simp only [Act.put, List.setIfInBounds_toArray, List.set_cons_zero, List.set_cons_succ]
          refine wpE_take 4 (v := ?_) rfl (by kernel_rfl) (by kernel_rfl) (by kernel_rfl) (fun _ _ _ h => h) hLr.drew (by rfl) ?_ ?_
          rotate_left
          · (intro wq; go_simp; try with_reducible rfl)
          simp only [Act.put, List.setIfInBounds_toArray, List.set_cons_zero, List.set_cons_succ]
          refine wpE_look 5 (v := .int .i64 L[k]) rfl rfl (by kernel_rfl) (by kernel_rfl) (by kernel_rfl) (by kernel_rfl) (fun _ _ _ h => h) hLr.drew (by rfl) (fun w hS => by have hc := hS.cell k (by simpa using hkl); rw [show (is L)[k]'(by simpa using hkl) = .int .i64 L[k] from by simp [is, I64], Addr.add_lit, Nat.zero_add] at hc; go_simp) ?_
          simp only [Act.put, List.setIfInBounds_toArray, List.set_cons_zero, List.set_cons_succ]
          refine wpE_exec 1 rfl (by kernel_rfl) (by rfl) ?_
          intro K hK
          go_simp
          refine (rdInt_any _ g ⟨encI L[k] ++ (L.drop (k + 1)).flatMap encI, 0⟩ (hr.no (Ext.drew no _))).mono ?_
          rintro e w6 ⟨rfl, hr6, hx6⟩
          rw [HI.out] at hr6 ⊢
          have hx6' := (Ext.drew (just g) wr).comp hx6
          have hL6 := hLd2.ext (hxr.comp hx6') hBg
          have hS1 := hL6
          refine hK _ _ (fun x => Rd x (some ⟨B, 0, none⟩) (is L)) (.inr (fun x h => h)) hS1 ?_
          clear hK K
          refine wpE_take 6 (v := ?_) rfl (by kernel_rfl) (by kernel_rfl) (by kernel_rfl) (fun _ _ _ h => h) hS1 (by rfl) ?_ ?_
          rotate_left
          · (intro wq; go_simp; try with_reducible rfl)
          simp only [Act.put, List.setIfInBounds_toArray, List.set_cons_zero, List.set_cons_succ]
          refine wpE_done (by kernel_rfl) ?_ _
          go_wp2_with fail
          go_roundw
          case rel => exact ⟨k + 1, by omega, by go_num, hr6, hxr.comp hx6'⟩
          case measure => simp [intOf]; omega
          -->A
        · obtain rfl : k = 4 := by omega
          rw [List.drop_of_length_le (by have := HL4.out; omega)] at hr
          go_wp2_with fail
          refine (end_any wr g ⟨[], 0⟩ hr).mono ?_
          rintro e w6 ⟨rfl, rfl⟩
          rw [show rEnd ⟨[], 0⟩ = 0 from rfl]
          go_wp2_with fail
          go_ret
          exact ⟨rfl, hxr.no1 (by have := hxa.size; omega) (hxa.comp hxr2)⟩
end Go.Proofs.Ytnplelcnigpemaa
