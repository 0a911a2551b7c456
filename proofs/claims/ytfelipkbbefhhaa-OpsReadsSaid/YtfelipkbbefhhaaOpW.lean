/- Walks of escrowref9: Parse. -/
import Derived.Test.YtfelipkbbefhhaaOpR
import Derived.Laws.ResultCell
namespace Go.Esc
open Go.RowKit
theorem rText_len (s : RS) : (rText s).1.length ≤ 65535 := by
  unfold rText
  split
  · simp
  · split
    · simp
    · rename_i n r h
      have := rLen_le _ _ _ h
      split
      · simp only [List.length_take]
        omega
      · simp
theorem pRead_fine (s : RS) : (pRead s).1.ok ∧ (pRead s).1.key.length ≤ 65535 ∧ (pRead s).1.text.length ≤ 65535 ∧ (pRead s).1.dots.length ≤ 8 := by
  have hd : (pRead s).1.dots.length ≤ 8 := by
    unfold pRead
    simp only
    split
    · exact Nat.le_trans (pDots_len _ _) (by omega)
    · rename_i h
      refine Nat.le_trans (pDots_len _ _) ?_
      unfold pBad at h
      omega
  have hk : (pRead s).1.key.length ≤ 65535 := by unfold pRead pHead; exact rText_len _
  have ht : (pRead s).1.text.length ≤ 65535 := by unfold pRead pHead; exact rText_len _
  refine ⟨⟨?_, ?_, ?_, ?_, ?_, ?_, ?_, ?_, ?_⟩, hk, ht, hd⟩
  · unfold pRead pHead; exact pDot_ok _
  · unfold pRead pHead; exact rInt_okn _
  · unfold pRead pHead; exact rInt_okn _
  · unfold pRead pHead; exact rInt_okn _
  · unfold pRead pHead; exact rInt_okn _
  · unfold pRead pHead; exact rInt_okn _
  · exact Nat.le_trans hk (by unfold maxLen; omega)
  · exact Nat.le_trans ht (by unfold maxLen; omega)
  · unfold pRead; exact pDots_ok _ _
end Go.Esc
namespace Go.Proofs.Ytfelipkbbefhhaa
open Go.RowKit Go.Esc
set_option linter.unusedVariables false
set_option linter.unusedSimpArgs false

set_option maxRecDepth 100000 in
set_option maxHeartbeats 8000000 in
theorem xparse_any (w : World) (a : Option Addr) (c : Nat) (b : List UInt8) (hrd : Rd w a (bs b)) (hbc : b.length ≤ c) (hcm : c ≤ maxLen) :
    Calls Try.prog 21 #[.slice a b.length c] w fun e w' => ∃ a' c', e = .returned (.tuple #[(pOp b).1.v a' c', .int .i64 (pOp b).2]) ∧ Rd w' a' (ds (pOp b).1.dots) ∧ (pOp b).1.dots.length ≤ c' ∧ Ext no w w' ∧ ∀ ad, a' = some ad → w.heap.size ≤ ad.block := by
  go_enter Try.func21, Try.ntmps21
  go_upto_region 1 with fail
  have hz := Blk.lit w #[.int .i64 0, .int .i64 0, .int .i64 0, .int .i64 0, .int .i64 0, .int .i64 0, .string { data := #[] }, .string { data := #[] }, .int .i64 0, .int .i64 0, .slice none 0 0] 26
  have hx := Ext.alloc no w (.cells #[.int .i64 0, .int .i64 0, .int .i64 0, .int .i64 0, .int .i64 0, .int .i64 0, .string { data := #[] }, .string { data := #[] }, .int .i64 0, .int .i64 0, .slice none 0 0] 26)
  have hr1 := hrd.ext hx (fun _ _ h => h)
  generalize w.alloc (.cells #[.int .i64 0, .int .i64 0, .int .i64 0, .int .i64 0, .int .i64 0, .int .i64 0, .string { data := #[] }, .string { data := #[] }, .int .i64 0, .int .i64 0, .slice none 0 0] 26) = w1 at *
  obtain ⟨q, hq⟩ : ∃ q, q = w.heap.size := ⟨_, rfl⟩
  have hwq : w.heap.size ≤ q := by omega
  rw [← hq] at hz ⊢
  clear hq
  have hq1 := hz.lt (by simp)
  go_wp2_with fail
  refine (xnew_any w1 a c b hr1 hbc hcm).mono ?_
  rintro e w2 ⟨rfl, h, hx2⟩
  obtain ⟨g, hg⟩ : ∃ g, g = w1.heap.size := ⟨_, rfl⟩
  have hqg : q < g := by omega
  have hwg : w.heap.size ≤ g := by omega
  rw [← hg] at h ⊢
  clear hg
  have hz2 := hz.ext (by simp) hx2 (fun h => h)
  replace hx := hx.comp hx2
  clear hz hx2 hr1
  go_wp2_with fail
  refine (xread_any w2 g ⟨b, 0⟩ h).mono ?_
  rintro e w3 ⟨a1, c1, rfl, hr3, hlc, hfz, h3, hx3⟩
  have hq2 := hz2.lt (by simp)
  have hfq : ∀ ad, a1 = some ad → ad.block ≠ q := fun ad h => by have := hfz ad h; omega
  have hfw : ∀ ad, a1 = some ad → w.heap.size ≤ ad.block := fun ad h => by have := hfz ad h; omega
  clear hfz hq2
  obtain ⟨hok, hkl, htl, hdl⟩ := pRead_fine ⟨b, 0⟩
  obtain ⟨O, hO⟩ : ∃ O, O = (pRead ⟨b, 0⟩).1 := ⟨_, rfl⟩
  obtain ⟨s1, hs1⟩ : ∃ s, s = (pRead ⟨b, 0⟩).2 := ⟨_, rfl⟩
  have HP := Lib.hid (show pOp b = if rEnd s1 ≠ 0 then (zeroOp, rEnd s1) else if checkOp O ≠ 0 then (zeroOp, (checkOp O : Int)) else (O, 0) by unfold pOp; rw [hO, hs1])
  rw [← hs1] at h3
  rw [← hO] at hr3 hlc hok hkl htl hdl ⊢
  clear hO hs1
  unfold OpR.v
  have hz3 := hz2.ext (by simp) hx3 (by simp only [Esc.just]; omega)
  replace hx : Ext no w w3 := hx.trans hx3 (fun i hi h => by simp only [Esc.just] at h; omega)
  clear hz2 hx3 h
  go_upto_region 3 with fail
  have hb4 : Blk (w3.alloc (.cells #[.int .i64 O.dot.dev, .int .i64 O.dot.ep, .int .i64 O.dot.seq, .int .i64 O.coll, .int .i64 O.ver, .int .i64 O.kind, .string (str O.key), .string (str O.text), .int .i64 O.n, .int .i64 O.time, .slice a1 O.dots.length c1] 26)) w3.heap.size (O.cells a1 c1) := Blk.lit w3 #[.int .i64 O.dot.dev, .int .i64 O.dot.ep, .int .i64 O.dot.seq, .int .i64 O.coll, .int .i64 O.ver, .int .i64 O.kind, .string (str O.key), .string (str O.text), .int .i64 O.n, .int .i64 O.time, .slice a1 O.dots.length c1] 26
  have hx4 := Ext.alloc no w3 (.cells #[.int .i64 O.dot.dev, .int .i64 O.dot.ep, .int .i64 O.dot.seq, .int .i64 O.coll, .int .i64 O.ver, .int .i64 O.kind, .string (str O.key), .string (str O.text), .int .i64 O.n, .int .i64 O.time, .slice a1 O.dots.length c1] 26)
  have h4 := h3.no hx4
  have hz4 := hz3.ext (by simp) hx4 (fun h => h)
  have hr4 := hr3.ext hx4 (fun _ _ h => h)
  replace hx := hx.comp hx4
  have hq3 := hz3.lt (by simp)
  generalize w3.alloc (.cells #[.int .i64 O.dot.dev, .int .i64 O.dot.ep, .int .i64 O.dot.seq, .int .i64 O.coll, .int .i64 O.ver, .int .i64 O.kind, .string (str O.key), .string (str O.text), .int .i64 O.n, .int .i64 O.time, .slice a1 O.dots.length c1] 26) = w4 at *
  clear h3 hz3 hr3 hx4
  obtain ⟨r, hr⟩ : ∃ r, r = w3.heap.size := ⟨_, rfl⟩
  have hqr : q < r := by omega
  rw [← hr] at hb4 ⊢
  clear hr hq3 hq1
  go_wp2_with fail
  refine (xend_any w4 g s1 h4).mono ?_
  rintro e w5 ⟨rfl, hx5⟩
  have hb5 := hb4.ext (by simp [OpR.cells]) hx5 (fun h => h)
  have hz5 := hz4.ext (by simp) hx5 (fun h => h)
  have hr5 := hr4.ext hx5 (fun _ _ h => h)
  replace hx := hx.comp hx5
  clear h4 hb4 hz4 hr4 hx5
  obtain ⟨E, hE⟩ : ∃ E, E = rEnd s1 := ⟨_, rfl⟩
  rw [← hE]
  have HE := Lib.hid hE
  clear hE
  have b0 := hb5.cell 0 _ rfl
  have b1 := hb5.cell 1 _ rfl
  have b2 := hb5.cell 2 _ rfl
  have b3 := hb5.cell 3 _ rfl
  have b4 := hb5.cell 4 _ rfl
  have b5 := hb5.cell 5 _ rfl
  have b6 := hb5.cell 6 _ rfl
  have b7 := hb5.cell 7 _ rfl
  have b8 := hb5.cell 8 _ rfl
  have b9 := hb5.cell 9 _ rfl
  have b10 := hb5.cell 10 _ rfl
  by_cases h0 : E = 0
  rotate_left
  · have e1 : (E == (0 : Int)) = false := by rw [beq_eq_false_iff_ne]; exact h0
    have e2 : (E != (0 : Int)) = true := by rw [bne_iff_ne]; exact h0
    have HR := Lib.hid (show pOp b = (zeroOp, E) by rw [HP.out, ← HE.out, if_pos h0])
    clear h0
    have z0 := hz5.cell 0 _ rfl
    have z1 := hz5.cell 1 _ rfl
    have z2 := hz5.cell 2 _ rfl
    have z3 := hz5.cell 3 _ rfl
    have z4 := hz5.cell 4 _ rfl
    have z5 := hz5.cell 5 _ rfl
    have z6 := hz5.cell 6 _ rfl
    have z7 := hz5.cell 7 _ rfl
    have z8 := hz5.cell 8 _ rfl
    have z9 := hz5.cell 9 _ rfl
    have z10 := hz5.cell 10 _ rfl
    have f0 := hz5.fr 0
    have f1 := hz5.fr 1
    have f2 := hz5.fr 2
    have f3 := hz5.fr 3
    have f4 := hz5.fr 4
    have f5 := hz5.fr 5
    have f6 := hz5.fr 6
    have f7 := hz5.fr 7
    have f8 := hz5.fr 8
    have f9 := hz5.fr 9
    have f10 := hz5.fr 10
    have xs : Ext (just q) w5 (((((((((((w5.setCell ⟨q, 0, none⟩ (.int .i64 0)).setCell ⟨q, 1, none⟩ (.int .i64 0)).setCell ⟨q, 2, none⟩ (.int .i64 0)).setCell ⟨q, 3, none⟩ (.int .i64 0)).setCell ⟨q, 4, none⟩ (.int .i64 0)).setCell ⟨q, 5, none⟩ (.int .i64 0)).setCell ⟨q, 6, none⟩ (.string { data := #[] })).setCell ⟨q, 7, none⟩ (.string { data := #[] })).setCell ⟨q, 8, none⟩ (.int .i64 0)).setCell ⟨q, 9, none⟩ (.int .i64 0)).setCell ⟨q, 10, none⟩ (.slice none 0 0)) := ((((((((((((Ext.refl (just q) w5).comp (Ext.setCell _ ⟨q, 0, none⟩ (.int .i64 0) rfl)).comp (Ext.setCell _ ⟨q, 1, none⟩ (.int .i64 0) rfl)).comp (Ext.setCell _ ⟨q, 2, none⟩ (.int .i64 0) rfl)).comp (Ext.setCell _ ⟨q, 3, none⟩ (.int .i64 0) rfl)).comp (Ext.setCell _ ⟨q, 4, none⟩ (.int .i64 0) rfl)).comp (Ext.setCell _ ⟨q, 5, none⟩ (.int .i64 0) rfl)).comp (Ext.setCell _ ⟨q, 6, none⟩ (.string { data := #[] }) rfl)).comp (Ext.setCell _ ⟨q, 7, none⟩ (.string { data := #[] }) rfl)).comp (Ext.setCell _ ⟨q, 8, none⟩ (.int .i64 0) rfl)).comp (Ext.setCell _ ⟨q, 9, none⟩ (.int .i64 0) rfl)).comp (Ext.setCell _ ⟨q, 10, none⟩ (.slice none 0 0) rfl))
    have hze : Blk (((((((((((w5.setCell ⟨q, 0, none⟩ (.int .i64 0)).setCell ⟨q, 1, none⟩ (.int .i64 0)).setCell ⟨q, 2, none⟩ (.int .i64 0)).setCell ⟨q, 3, none⟩ (.int .i64 0)).setCell ⟨q, 4, none⟩ (.int .i64 0)).setCell ⟨q, 5, none⟩ (.int .i64 0)).setCell ⟨q, 6, none⟩ (.string { data := #[] })).setCell ⟨q, 7, none⟩ (.string { data := #[] })).setCell ⟨q, 8, none⟩ (.int .i64 0)).setCell ⟨q, 9, none⟩ (.int .i64 0)).setCell ⟨q, 10, none⟩ (.slice none 0 0)) q [.int .i64 0, .int .i64 0, .int .i64 0, .int .i64 0, .int .i64 0, .int .i64 0, .string { data := #[] }, .string { data := #[] }, .int .i64 0, .int .i64 0, .slice none 0 0] := (((((((((((hz5.set 0 (.int .i64 0) (by simp)).set 1 (.int .i64 0) (by simp)).set 2 (.int .i64 0) (by simp)).set 3 (.int .i64 0) (by simp)).set 4 (.int .i64 0) (by simp)).set 5 (.int .i64 0) (by simp)).set 6 (.string { data := #[] }) (by simp)).set 7 (.string { data := #[] }) (by simp)).set 8 (.int .i64 0) (by simp)).set 9 (.int .i64 0) (by simp)).set 10 (.slice none 0 0) (by simp))
    have hxe := hx.trans xs (fun i hi h => by simp only [Esc.just] at h; omega)
    have hre : Rd (((((((((((w5.setCell ⟨q, 0, none⟩ (.int .i64 0)).setCell ⟨q, 1, none⟩ (.int .i64 0)).setCell ⟨q, 2, none⟩ (.int .i64 0)).setCell ⟨q, 3, none⟩ (.int .i64 0)).setCell ⟨q, 4, none⟩ (.int .i64 0)).setCell ⟨q, 5, none⟩ (.int .i64 0)).setCell ⟨q, 6, none⟩ (.string { data := #[] })).setCell ⟨q, 7, none⟩ (.string { data := #[] })).setCell ⟨q, 8, none⟩ (.int .i64 0)).setCell ⟨q, 9, none⟩ (.int .i64 0)).setCell ⟨q, 10, none⟩ (.slice none 0 0)) none (ds []) := Rd.nil _ _
    go_wp2_with fail
    generalize (((((((((((w5.setCell ⟨q, 0, none⟩ (.int .i64 0)).setCell ⟨q, 1, none⟩ (.int .i64 0)).setCell ⟨q, 2, none⟩ (.int .i64 0)).setCell ⟨q, 3, none⟩ (.int .i64 0)).setCell ⟨q, 4, none⟩ (.int .i64 0)).setCell ⟨q, 5, none⟩ (.int .i64 0)).setCell ⟨q, 6, none⟩ (.string { data := #[] })).setCell ⟨q, 7, none⟩ (.string { data := #[] })).setCell ⟨q, 8, none⟩ (.int .i64 0)).setCell ⟨q, 9, none⟩ (.int .i64 0)).setCell ⟨q, 10, none⟩ (.slice none 0 0)) = wz at *
    clear b0 z0 f0 b1 z1 f1 b2 z2 f2 b3 z3 f3 b4 z4 f4 b5 z5 f5 b6 z6 f6 b7 z7 f7 b8 z8 f8 b9 z9 f9 b10 z10 f10
    have yc0 := hze.cell 0 _ rfl
    have yc1 := hze.cell 1 _ rfl
    have yc2 := hze.cell 2 _ rfl
    have yc3 := hze.cell 3 _ rfl
    have yc4 := hze.cell 4 _ rfl
    have yc5 := hze.cell 5 _ rfl
    have yc6 := hze.cell 6 _ rfl
    have yc7 := hze.cell 7 _ rfl
    have yc8 := hze.cell 8 _ rfl
    have yc9 := hze.cell 9 _ rfl
    have yc10 := hze.cell 10 _ rfl
    refine bodyPost_ret (v := .tuple #[.agg #[.int .i64 0, .int .i64 0, .int .i64 0, .int .i64 0, .int .i64 0, .int .i64 0, .string { data := #[] }, .string { data := #[] }, .int .i64 0, .int .i64 0, .slice none 0 0], .int .i64 E]) ?_ rfl ⟨none, 0, ?_, ?_, ?_, hxe, fun ad h => by cases h⟩
    · rw [results_cell_tmp rfl]
      go_simp
    · rw [HR.out]; rfl
    · rw [HR.out]; exact hre
    · rw [HR.out]; exact Nat.le_refl _
  · have e1 : (E == (0 : Int)) = true := by rw [beq_iff_eq]; exact h0
    have HQ := Lib.hid (show pOp b = if checkOp O ≠ 0 then (zeroOp, (checkOp O : Int)) else (O, 0) by rw [HP.out, ← HE.out, if_neg (by simp [h0])])
    clear h0
    go_wp2_with fail
    refine (refcheck_any w5 O a1 c1 hr5 (by omega) (by unfold maxLen; omega) (by unfold maxLen; omega)).mono ?_
    rintro e w6 ⟨rfl, hx6⟩
    have hb6 := hb5.ext (by simp [OpR.cells]) hx6 (fun h => h)
    have hz6 := hz5.ext (by simp) hx6 (fun h => h)
    have hr6 := hr5.ext hx6 (fun _ _ h => h)
    replace hx := hx.comp hx6
    clear hb5 hz5 hr5 hx6 b0 b1 b2 b3 b4 b5 b6 b7 b8 b9 b10
    have b0 := hb6.cell 0 _ rfl
    have b1 := hb6.cell 1 _ rfl
    have b2 := hb6.cell 2 _ rfl
    have b3 := hb6.cell 3 _ rfl
    have b4 := hb6.cell 4 _ rfl
    have b5 := hb6.cell 5 _ rfl
    have b6 := hb6.cell 6 _ rfl
    have b7 := hb6.cell 7 _ rfl
    have b8 := hb6.cell 8 _ rfl
    have b9 := hb6.cell 9 _ rfl
    have b10 := hb6.cell 10 _ rfl
    obtain ⟨K, hK⟩ : ∃ K, K = checkOp O := ⟨_, rfl⟩
    rw [← hK]
    have HK := Lib.hid hK
    clear hK
    by_cases h1 : K = 0
    rotate_left
    · have e3 : ((K : Int) != 0) = true := by rw [bne_iff_ne]; omega
      have HR := Lib.hid (show pOp b = (zeroOp, (K : Int)) by rw [HQ.out, ← HK.out, if_pos h1])
      clear h1
      have z0 := hz6.cell 0 _ rfl
      have z1 := hz6.cell 1 _ rfl
      have z2 := hz6.cell 2 _ rfl
      have z3 := hz6.cell 3 _ rfl
      have z4 := hz6.cell 4 _ rfl
      have z5 := hz6.cell 5 _ rfl
      have z6 := hz6.cell 6 _ rfl
      have z7 := hz6.cell 7 _ rfl
      have z8 := hz6.cell 8 _ rfl
      have z9 := hz6.cell 9 _ rfl
      have z10 := hz6.cell 10 _ rfl
      have f0 := hz6.fr 0
      have f1 := hz6.fr 1
      have f2 := hz6.fr 2
      have f3 := hz6.fr 3
      have f4 := hz6.fr 4
      have f5 := hz6.fr 5
      have f6 := hz6.fr 6
      have f7 := hz6.fr 7
      have f8 := hz6.fr 8
      have f9 := hz6.fr 9
      have f10 := hz6.fr 10
      have xs : Ext (just q) w6 (((((((((((w6.setCell ⟨q, 0, none⟩ (.int .i64 0)).setCell ⟨q, 1, none⟩ (.int .i64 0)).setCell ⟨q, 2, none⟩ (.int .i64 0)).setCell ⟨q, 3, none⟩ (.int .i64 0)).setCell ⟨q, 4, none⟩ (.int .i64 0)).setCell ⟨q, 5, none⟩ (.int .i64 0)).setCell ⟨q, 6, none⟩ (.string { data := #[] })).setCell ⟨q, 7, none⟩ (.string { data := #[] })).setCell ⟨q, 8, none⟩ (.int .i64 0)).setCell ⟨q, 9, none⟩ (.int .i64 0)).setCell ⟨q, 10, none⟩ (.slice none 0 0)) := ((((((((((((Ext.refl (just q) w6).comp (Ext.setCell _ ⟨q, 0, none⟩ (.int .i64 0) rfl)).comp (Ext.setCell _ ⟨q, 1, none⟩ (.int .i64 0) rfl)).comp (Ext.setCell _ ⟨q, 2, none⟩ (.int .i64 0) rfl)).comp (Ext.setCell _ ⟨q, 3, none⟩ (.int .i64 0) rfl)).comp (Ext.setCell _ ⟨q, 4, none⟩ (.int .i64 0) rfl)).comp (Ext.setCell _ ⟨q, 5, none⟩ (.int .i64 0) rfl)).comp (Ext.setCell _ ⟨q, 6, none⟩ (.string { data := #[] }) rfl)).comp (Ext.setCell _ ⟨q, 7, none⟩ (.string { data := #[] }) rfl)).comp (Ext.setCell _ ⟨q, 8, none⟩ (.int .i64 0) rfl)).comp (Ext.setCell _ ⟨q, 9, none⟩ (.int .i64 0) rfl)).comp (Ext.setCell _ ⟨q, 10, none⟩ (.slice none 0 0) rfl))
      have hze : Blk (((((((((((w6.setCell ⟨q, 0, none⟩ (.int .i64 0)).setCell ⟨q, 1, none⟩ (.int .i64 0)).setCell ⟨q, 2, none⟩ (.int .i64 0)).setCell ⟨q, 3, none⟩ (.int .i64 0)).setCell ⟨q, 4, none⟩ (.int .i64 0)).setCell ⟨q, 5, none⟩ (.int .i64 0)).setCell ⟨q, 6, none⟩ (.string { data := #[] })).setCell ⟨q, 7, none⟩ (.string { data := #[] })).setCell ⟨q, 8, none⟩ (.int .i64 0)).setCell ⟨q, 9, none⟩ (.int .i64 0)).setCell ⟨q, 10, none⟩ (.slice none 0 0)) q [.int .i64 0, .int .i64 0, .int .i64 0, .int .i64 0, .int .i64 0, .int .i64 0, .string { data := #[] }, .string { data := #[] }, .int .i64 0, .int .i64 0, .slice none 0 0] := (((((((((((hz6.set 0 (.int .i64 0) (by simp)).set 1 (.int .i64 0) (by simp)).set 2 (.int .i64 0) (by simp)).set 3 (.int .i64 0) (by simp)).set 4 (.int .i64 0) (by simp)).set 5 (.int .i64 0) (by simp)).set 6 (.string { data := #[] }) (by simp)).set 7 (.string { data := #[] }) (by simp)).set 8 (.int .i64 0) (by simp)).set 9 (.int .i64 0) (by simp)).set 10 (.slice none 0 0) (by simp))
      have hxe := hx.trans xs (fun i hi h => by simp only [Esc.just] at h; omega)
      have hre : Rd (((((((((((w6.setCell ⟨q, 0, none⟩ (.int .i64 0)).setCell ⟨q, 1, none⟩ (.int .i64 0)).setCell ⟨q, 2, none⟩ (.int .i64 0)).setCell ⟨q, 3, none⟩ (.int .i64 0)).setCell ⟨q, 4, none⟩ (.int .i64 0)).setCell ⟨q, 5, none⟩ (.int .i64 0)).setCell ⟨q, 6, none⟩ (.string { data := #[] })).setCell ⟨q, 7, none⟩ (.string { data := #[] })).setCell ⟨q, 8, none⟩ (.int .i64 0)).setCell ⟨q, 9, none⟩ (.int .i64 0)).setCell ⟨q, 10, none⟩ (.slice none 0 0)) none (ds []) := Rd.nil _ _
      go_wp2_with fail
      generalize (((((((((((w6.setCell ⟨q, 0, none⟩ (.int .i64 0)).setCell ⟨q, 1, none⟩ (.int .i64 0)).setCell ⟨q, 2, none⟩ (.int .i64 0)).setCell ⟨q, 3, none⟩ (.int .i64 0)).setCell ⟨q, 4, none⟩ (.int .i64 0)).setCell ⟨q, 5, none⟩ (.int .i64 0)).setCell ⟨q, 6, none⟩ (.string { data := #[] })).setCell ⟨q, 7, none⟩ (.string { data := #[] })).setCell ⟨q, 8, none⟩ (.int .i64 0)).setCell ⟨q, 9, none⟩ (.int .i64 0)).setCell ⟨q, 10, none⟩ (.slice none 0 0)) = wz at *
      clear b0 z0 f0 b1 z1 f1 b2 z2 f2 b3 z3 f3 b4 z4 f4 b5 z5 f5 b6 z6 f6 b7 z7 f7 b8 z8 f8 b9 z9 f9 b10 z10 f10
      have yc0 := hze.cell 0 _ rfl
      have yc1 := hze.cell 1 _ rfl
      have yc2 := hze.cell 2 _ rfl
      have yc3 := hze.cell 3 _ rfl
      have yc4 := hze.cell 4 _ rfl
      have yc5 := hze.cell 5 _ rfl
      have yc6 := hze.cell 6 _ rfl
      have yc7 := hze.cell 7 _ rfl
      have yc8 := hze.cell 8 _ rfl
      have yc9 := hze.cell 9 _ rfl
      have yc10 := hze.cell 10 _ rfl
      refine bodyPost_ret (v := .tuple #[.agg #[.int .i64 0, .int .i64 0, .int .i64 0, .int .i64 0, .int .i64 0, .int .i64 0, .string { data := #[] }, .string { data := #[] }, .int .i64 0, .int .i64 0, .slice none 0 0], .int .i64 K]) ?_ rfl ⟨none, 0, ?_, ?_, ?_, hxe, fun ad h => by cases h⟩
      · rw [results_cell_tmp rfl]
        go_simp
      · rw [HR.out]; rfl
      · rw [HR.out]; exact hre
      · rw [HR.out]; exact Nat.le_refl _
    · have HR := Lib.hid (show pOp b = (O, 0) by rw [HQ.out, ← HK.out, if_neg (by simp [h1])])
      subst h1
      have z0 := hz6.cell 0 _ rfl
      have z1 := hz6.cell 1 _ rfl
      have z2 := hz6.cell 2 _ rfl
      have z3 := hz6.cell 3 _ rfl
      have z4 := hz6.cell 4 _ rfl
      have z5 := hz6.cell 5 _ rfl
      have z6 := hz6.cell 6 _ rfl
      have z7 := hz6.cell 7 _ rfl
      have z8 := hz6.cell 8 _ rfl
      have z9 := hz6.cell 9 _ rfl
      have z10 := hz6.cell 10 _ rfl
      have f0 := hz6.fr 0
      have f1 := hz6.fr 1
      have f2 := hz6.fr 2
      have f3 := hz6.fr 3
      have f4 := hz6.fr 4
      have f5 := hz6.fr 5
      have f6 := hz6.fr 6
      have f7 := hz6.fr 7
      have f8 := hz6.fr 8
      have f9 := hz6.fr 9
      have f10 := hz6.fr 10
      have xs : Ext (just q) w6 (((((((((((w6.setCell ⟨q, 0, none⟩ (.int .i64 O.dot.dev)).setCell ⟨q, 1, none⟩ (.int .i64 O.dot.ep)).setCell ⟨q, 2, none⟩ (.int .i64 O.dot.seq)).setCell ⟨q, 3, none⟩ (.int .i64 O.coll)).setCell ⟨q, 4, none⟩ (.int .i64 O.ver)).setCell ⟨q, 5, none⟩ (.int .i64 O.kind)).setCell ⟨q, 6, none⟩ (.string (str O.key))).setCell ⟨q, 7, none⟩ (.string (str O.text))).setCell ⟨q, 8, none⟩ (.int .i64 O.n)).setCell ⟨q, 9, none⟩ (.int .i64 O.time)).setCell ⟨q, 10, none⟩ (.slice a1 O.dots.length c1)) := ((((((((((((Ext.refl (just q) w6).comp (Ext.setCell _ ⟨q, 0, none⟩ (.int .i64 O.dot.dev) rfl)).comp (Ext.setCell _ ⟨q, 1, none⟩ (.int .i64 O.dot.ep) rfl)).comp (Ext.setCell _ ⟨q, 2, none⟩ (.int .i64 O.dot.seq) rfl)).comp (Ext.setCell _ ⟨q, 3, none⟩ (.int .i64 O.coll) rfl)).comp (Ext.setCell _ ⟨q, 4, none⟩ (.int .i64 O.ver) rfl)).comp (Ext.setCell _ ⟨q, 5, none⟩ (.int .i64 O.kind) rfl)).comp (Ext.setCell _ ⟨q, 6, none⟩ (.string (str O.key)) rfl)).comp (Ext.setCell _ ⟨q, 7, none⟩ (.string (str O.text)) rfl)).comp (Ext.setCell _ ⟨q, 8, none⟩ (.int .i64 O.n) rfl)).comp (Ext.setCell _ ⟨q, 9, none⟩ (.int .i64 O.time) rfl)).comp (Ext.setCell _ ⟨q, 10, none⟩ (.slice a1 O.dots.length c1) rfl))
      have hze : Blk (((((((((((w6.setCell ⟨q, 0, none⟩ (.int .i64 O.dot.dev)).setCell ⟨q, 1, none⟩ (.int .i64 O.dot.ep)).setCell ⟨q, 2, none⟩ (.int .i64 O.dot.seq)).setCell ⟨q, 3, none⟩ (.int .i64 O.coll)).setCell ⟨q, 4, none⟩ (.int .i64 O.ver)).setCell ⟨q, 5, none⟩ (.int .i64 O.kind)).setCell ⟨q, 6, none⟩ (.string (str O.key))).setCell ⟨q, 7, none⟩ (.string (str O.text))).setCell ⟨q, 8, none⟩ (.int .i64 O.n)).setCell ⟨q, 9, none⟩ (.int .i64 O.time)).setCell ⟨q, 10, none⟩ (.slice a1 O.dots.length c1)) q [.int .i64 O.dot.dev, .int .i64 O.dot.ep, .int .i64 O.dot.seq, .int .i64 O.coll, .int .i64 O.ver, .int .i64 O.kind, .string (str O.key), .string (str O.text), .int .i64 O.n, .int .i64 O.time, .slice a1 O.dots.length c1] := (((((((((((hz6.set 0 (.int .i64 O.dot.dev) (by simp)).set 1 (.int .i64 O.dot.ep) (by simp)).set 2 (.int .i64 O.dot.seq) (by simp)).set 3 (.int .i64 O.coll) (by simp)).set 4 (.int .i64 O.ver) (by simp)).set 5 (.int .i64 O.kind) (by simp)).set 6 (.string (str O.key)) (by simp)).set 7 (.string (str O.text)) (by simp)).set 8 (.int .i64 O.n) (by simp)).set 9 (.int .i64 O.time) (by simp)).set 10 (.slice a1 O.dots.length c1) (by simp))
      have hxe := hx.trans xs (fun i hi h => by simp only [Esc.just] at h; omega)
      have hre : Rd (((((((((((w6.setCell ⟨q, 0, none⟩ (.int .i64 O.dot.dev)).setCell ⟨q, 1, none⟩ (.int .i64 O.dot.ep)).setCell ⟨q, 2, none⟩ (.int .i64 O.dot.seq)).setCell ⟨q, 3, none⟩ (.int .i64 O.coll)).setCell ⟨q, 4, none⟩ (.int .i64 O.ver)).setCell ⟨q, 5, none⟩ (.int .i64 O.kind)).setCell ⟨q, 6, none⟩ (.string (str O.key))).setCell ⟨q, 7, none⟩ (.string (str O.text))).setCell ⟨q, 8, none⟩ (.int .i64 O.n)).setCell ⟨q, 9, none⟩ (.int .i64 O.time)).setCell ⟨q, 10, none⟩ (.slice a1 O.dots.length c1)) a1 (ds O.dots) := hr6.ext xs (fun ad h e => hfq ad h (by simpa only [Esc.just] using e))
      go_wp2_with fail
      generalize (((((((((((w6.setCell ⟨q, 0, none⟩ (.int .i64 O.dot.dev)).setCell ⟨q, 1, none⟩ (.int .i64 O.dot.ep)).setCell ⟨q, 2, none⟩ (.int .i64 O.dot.seq)).setCell ⟨q, 3, none⟩ (.int .i64 O.coll)).setCell ⟨q, 4, none⟩ (.int .i64 O.ver)).setCell ⟨q, 5, none⟩ (.int .i64 O.kind)).setCell ⟨q, 6, none⟩ (.string (str O.key))).setCell ⟨q, 7, none⟩ (.string (str O.text))).setCell ⟨q, 8, none⟩ (.int .i64 O.n)).setCell ⟨q, 9, none⟩ (.int .i64 O.time)).setCell ⟨q, 10, none⟩ (.slice a1 O.dots.length c1)) = wz at *
      clear b0 z0 f0 b1 z1 f1 b2 z2 f2 b3 z3 f3 b4 z4 f4 b5 z5 f5 b6 z6 f6 b7 z7 f7 b8 z8 f8 b9 z9 f9 b10 z10 f10
      have yc0 := hze.cell 0 _ rfl
      have yc1 := hze.cell 1 _ rfl
      have yc2 := hze.cell 2 _ rfl
      have yc3 := hze.cell 3 _ rfl
      have yc4 := hze.cell 4 _ rfl
      have yc5 := hze.cell 5 _ rfl
      have yc6 := hze.cell 6 _ rfl
      have yc7 := hze.cell 7 _ rfl
      have yc8 := hze.cell 8 _ rfl
      have yc9 := hze.cell 9 _ rfl
      have yc10 := hze.cell 10 _ rfl
      refine bodyPost_ret (v := .tuple #[.agg #[.int .i64 O.dot.dev, .int .i64 O.dot.ep, .int .i64 O.dot.seq, .int .i64 O.coll, .int .i64 O.ver, .int .i64 O.kind, .string (str O.key), .string (str O.text), .int .i64 O.n, .int .i64 O.time, .slice a1 O.dots.length c1], .int .i64 0]) ?_ rfl ⟨a1, c1, ?_, ?_, ?_, hxe, hfw⟩
      · rw [results_cell_tmp rfl]
        go_simp
      · rw [HR.out]; rfl
      · rw [HR.out]; exact hre
      · rw [HR.out]; exact hlc
end Go.Proofs.Ytfelipkbbefhhaa
