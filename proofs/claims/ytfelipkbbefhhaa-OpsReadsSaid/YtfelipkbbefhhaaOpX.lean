/- Walks of ops: Parse. -/
import Derived.Test.YtfelipkbbefhhaaOpW
import Derived.Test.YtfelipkbbefhhaaCodeI
namespace Go.Esc
open Go.RowKit
/-- All dots, an error or none. -/
def pAll : Nat → RS → List DotR × RS
  | 0, s => ([], s)
  | n + 1, s => ((pDot s).1 :: (pAll n (pDot s).2).1, (pAll n (pDot s).2).2)
theorem pAll_err {s : RS} (h : s.e ≠ 0) : ∀ n, (pAll n s).2 = s
  | 0 => rfl
  | n + 1 => by unfold pAll; simp only; rw [pDot_err h]; exact pAll_err h n
theorem pAll_state : ∀ (n : Nat) (s : RS), (pAll n s).2 = (pDots n s).2
  | 0, s => rfl
  | n + 1, s => by
    by_cases h : s.e ≠ 0
    · rw [pAll_err h, pDots_err h]
    · unfold pAll pDots
      rw [if_neg h]
      exact pAll_state n _
theorem pAll_list : ∀ (n : Nat) (s : RS), (pDots n s).2.e = 0 → (pAll n s).1 = (pDots n s).1
  | 0, s, _ => rfl
  | n + 1, s, he => by
    by_cases h : s.e ≠ 0
    · rw [pDots_err h] at he; exact absurd he h
    · unfold pAll
      unfold pDots at he ⊢
      rw [if_neg h] at he ⊢
      simp only at he ⊢
      rw [pAll_list n _ he]
end Go.Esc
namespace Go.Proofs.Ytfelipkbbefhhaa
open Go.RowKit Go.Esc
set_option linter.unusedVariables false
set_option linter.unusedSimpArgs false

theorem rdr_aside {w w' : World} {g r : Nat} {dk : Option Nat} {l : List UInt8} {er : Int} (h : Rdr w g dk l er) (hx : Ext (just r) w w') (hg : g ≠ r) (hd : ∀ i, dk = some i → i ≠ r) : Rdr w' g dk l er :=
  h.ext hx (by simp only [Esc.just]; exact hg) (fun i hi e => hd i hi (by simpa only [Esc.just] using e))

set_option maxRecDepth 100000 in
set_option maxHeartbeats 16000000 in
theorem parse_any (w : World) (a : Option Addr) (c : Nat) (b : List UInt8) (hrd : Rd w a (bs b)) (hbl : b.length ≤ 1000000) :
    Calls Try.prog 20 #[.slice a b.length c] w fun e w' => ∃ a' c', e = .returned (.tuple #[(pOp b).1.v a' c', .int .i64 (pOp b).2]) ∧ Rd w' a' (ds (pOp b).1.dots) ∧ (pOp b).1.dots.length ≤ c' ∧ Ext no w w' ∧ ∀ ad, a' = some ad → w.heap.size ≤ ad.block := by
  go_enter Try.func20, Try.ntmps20
  have mk := mkFunc
  go_upto_region 1 with fail
  have hz := Blk.lit w #[.int .i64 0, .int .i64 0, .int .i64 0, .int .i64 0, .int .i64 0, .int .i64 0, .string { data := #[] }, .string { data := #[] }, .int .i64 0, .int .i64 0, .slice none 0 0] 26
  have hx := Ext.alloc no w (.cells #[.int .i64 0, .int .i64 0, .int .i64 0, .int .i64 0, .int .i64 0, .int .i64 0, .string { data := #[] }, .string { data := #[] }, .int .i64 0, .int .i64 0, .slice none 0 0] 26)
  have hr1 := hrd.ext hx (fun _ _ h => h)
  generalize w.alloc (.cells #[.int .i64 0, .int .i64 0, .int .i64 0, .int .i64 0, .int .i64 0, .int .i64 0, .string { data := #[] }, .string { data := #[] }, .int .i64 0, .int .i64 0, .slice none 0 0] 26) = w1 at *
  obtain ⟨q, hq⟩ : ∃ q, q = w.heap.size := ⟨_, rfl⟩
  have hwq : w.heap.size ≤ q := by omega
  rw [← hq] at hz ⊢
  clear hq
  have hq1 := hz.lt (by simp)
  go_wp2_with fail
  refine (new_any w1 a c b hr1 (by omega)).mono ?_
  rintro e v0 ⟨g, dk, rfl, h, hgg, hdk, hx2⟩
  have hqg : q < g := by omega
  have hwg : w.heap.size ≤ g := by omega
  have hdq : ∀ i, dk = some i → q < i := fun i hi => by have := hdk i hi; omega
  have hz := hz.ext (by simp) hx2 (fun h => h)
  replace hx : Ext no w v0 := hx.comp hx2
  clear hx2 hr1 hgg hdk hq1
  obtain ⟨s0, hs0⟩ : ∃ s : RS, s = ⟨b, 0⟩ := ⟨_, rfl⟩
  have h : Rdr v0 g dk s0.l s0.e := by rw [hs0]; exact h
  have HS0 := Lib.hid hs0
  clear hs0
  go_wp2_with fail
  refine (rdInt_any v0 g s0 h).mono ?_
  rintro e v1 ⟨rfl, h', hx'⟩
  have hz := hz.ext (by simp) hx' (by simp only [Esc.just]; omega)
  replace hx : Ext no w v1 := hx.trans hx' (fun i hi h => by simp only [Esc.just] at h; omega)
  obtain ⟨i1, hn⟩ : ∃ n, n = (rInt s0).1 := ⟨_, rfl⟩
  obtain ⟨s1, hs''⟩ : ∃ q, q = (rInt s0).2 := ⟨_, rfl⟩
  rw [← hs''] at h'
  rw [← hn]
  have HNi1 := Lib.hid hn
  have HS1 := Lib.hid hs''
  clear hn hs'' h hx'
  have h := h'
  clear h'
  go_wp2_with fail
  refine (rdInt_any v1 g s1 h).mono ?_
  rintro e v2 ⟨rfl, h', hx'⟩
  have hz := hz.ext (by simp) hx' (by simp only [Esc.just]; omega)
  replace hx : Ext no w v2 := hx.trans hx' (fun i hi h => by simp only [Esc.just] at h; omega)
  obtain ⟨i2, hn⟩ : ∃ n, n = (rInt s1).1 := ⟨_, rfl⟩
  obtain ⟨s2, hs''⟩ : ∃ q, q = (rInt s1).2 := ⟨_, rfl⟩
  rw [← hs''] at h'
  rw [← hn]
  have HNi2 := Lib.hid hn
  have HS2 := Lib.hid hs''
  clear hn hs'' h hx'
  have h := h'
  clear h'
  go_wp2_with fail
  refine (rdInt_any v2 g s2 h).mono ?_
  rintro e v3 ⟨rfl, h', hx'⟩
  have hz := hz.ext (by simp) hx' (by simp only [Esc.just]; omega)
  replace hx : Ext no w v3 := hx.trans hx' (fun i hi h => by simp only [Esc.just] at h; omega)
  obtain ⟨i3, hn⟩ : ∃ n, n = (rInt s2).1 := ⟨_, rfl⟩
  obtain ⟨s3, hs''⟩ : ∃ q, q = (rInt s2).2 := ⟨_, rfl⟩
  rw [← hs''] at h'
  rw [← hn]
  have HNi3 := Lib.hid hn
  have HS3 := Lib.hid hs''
  clear hn hs'' h hx'
  have h := h'
  clear h'
  go_wp2_with fail
  refine (rdInt_any v3 g s3 h).mono ?_
  rintro e v4 ⟨rfl, h', hx'⟩
  have hz := hz.ext (by simp) hx' (by simp only [Esc.just]; omega)
  replace hx : Ext no w v4 := hx.trans hx' (fun i hi h => by simp only [Esc.just] at h; omega)
  obtain ⟨c1, hn⟩ : ∃ n, n = (rInt s3).1 := ⟨_, rfl⟩
  obtain ⟨s4, hs''⟩ : ∃ q, q = (rInt s3).2 := ⟨_, rfl⟩
  rw [← hs''] at h'
  rw [← hn]
  have HNc1 := Lib.hid hn
  have HS4 := Lib.hid hs''
  clear hn hs'' h hx'
  have h := h'
  clear h'
  go_wp2_with fail
  refine (rdInt_any v4 g s4 h).mono ?_
  rintro e v5 ⟨rfl, h', hx'⟩
  have hz := hz.ext (by simp) hx' (by simp only [Esc.just]; omega)
  replace hx : Ext no w v5 := hx.trans hx' (fun i hi h => by simp only [Esc.just] at h; omega)
  obtain ⟨c2, hn⟩ : ∃ n, n = (rInt s4).1 := ⟨_, rfl⟩
  obtain ⟨s5, hs''⟩ : ∃ q, q = (rInt s4).2 := ⟨_, rfl⟩
  rw [← hs''] at h'
  rw [← hn]
  have HNc2 := Lib.hid hn
  have HS5 := Lib.hid hs''
  clear hn hs'' h hx'
  have h := h'
  clear h'
  go_wp2_with fail
  refine (rdInt_any v5 g s5 h).mono ?_
  rintro e v6 ⟨rfl, h', hx'⟩
  have hz := hz.ext (by simp) hx' (by simp only [Esc.just]; omega)
  replace hx : Ext no w v6 := hx.trans hx' (fun i hi h => by simp only [Esc.just] at h; omega)
  obtain ⟨c3, hn⟩ : ∃ n, n = (rInt s5).1 := ⟨_, rfl⟩
  obtain ⟨s6, hs''⟩ : ∃ q, q = (rInt s5).2 := ⟨_, rfl⟩
  rw [← hs''] at h'
  rw [← hn]
  have HNc3 := Lib.hid hn
  have HS6 := Lib.hid hs''
  clear hn hs'' h hx'
  have h := h'
  clear h'
  go_wp2_with fail
  refine (rdInt_any v6 g s6 h).mono ?_
  rintro e v7 ⟨rfl, h', hx'⟩
  have hz := hz.ext (by simp) hx' (by simp only [Esc.just]; omega)
  replace hx : Ext no w v7 := hx.trans hx' (fun i hi h => by simp only [Esc.just] at h; omega)
  obtain ⟨c4, hn⟩ : ∃ n, n = (rInt s6).1 := ⟨_, rfl⟩
  obtain ⟨s7, hs''⟩ : ∃ q, q = (rInt s6).2 := ⟨_, rfl⟩
  rw [← hs''] at h'
  rw [← hn]
  have HNc4 := Lib.hid hn
  have HS7 := Lib.hid hs''
  clear hn hs'' h hx'
  have h := h'
  clear h'
  go_upto_region 4 with fail
  have hb : Blk (v7.alloc (.cells #[.int .i64 i1, .int .i64 i2, .int .i64 i3, .int .i64 c1, .int .i64 c2, .int .i64 c3, .string { data := #[] }, .string { data := #[] }, .int .i64 0, .int .i64 c4, .slice none 0 0] 26)) v7.heap.size [.int .i64 i1, .int .i64 i2, .int .i64 i3, .int .i64 c1, .int .i64 c2, .int .i64 c3, .string { data := #[] }, .string { data := #[] }, .int .i64 0, .int .i64 c4, .slice none 0 0] := Blk.lit v7 #[.int .i64 i1, .int .i64 i2, .int .i64 i3, .int .i64 c1, .int .i64 c2, .int .i64 c3, .string { data := #[] }, .string { data := #[] }, .int .i64 0, .int .i64 c4, .slice none 0 0] 26
  have hx3 := Ext.alloc no v7 (.cells #[.int .i64 i1, .int .i64 i2, .int .i64 i3, .int .i64 c1, .int .i64 c2, .int .i64 c3, .string { data := #[] }, .string { data := #[] }, .int .i64 0, .int .i64 c4, .slice none 0 0] 26)
  have hgl := h.lt
  have hdl := h.sep
  have h := h.no hx3
  have hz := hz.ext (by simp) hx3 (fun h => h)
  replace hx := hx.comp hx3
  generalize v7.alloc (.cells #[.int .i64 i1, .int .i64 i2, .int .i64 i3, .int .i64 c1, .int .i64 c2, .int .i64 c3, .string { data := #[] }, .string { data := #[] }, .int .i64 0, .int .i64 c4, .slice none 0 0] 26) = v at *
  clear hx3
  obtain ⟨r, hr⟩ : ∃ r, r = v7.heap.size := ⟨_, rfl⟩
  rw [← hr] at hb hgl hdl ⊢
  clear hr
  have hdr : ∀ i, dk = some i → i ≠ r := fun i hi => by have := (hdl i hi).2; omega
  have hdi : ∀ i, dk = some i → i < r := fun i hi => (hdl i hi).2
  have hgr : g < r := hgl
  clear hdl hgl
  go_wp2_with fail
  refine (rdText_any v g s7 h).mono ?_
  rintro e v8 ⟨rfl, h', hx'⟩
  have hz := hz.ext (by simp) hx' (by simp only [Esc.just]; omega)
  replace hx : Ext no w v8 := hx.trans hx' (fun i hi h => by simp only [Esc.just] at h; omega)
  have hb := hb.ext (by simp) hx' (by simp only [Esc.just]; omega)
  obtain ⟨y1, hn⟩ : ∃ n, n = (rText s7).1 := ⟨_, rfl⟩
  obtain ⟨s8, hs''⟩ : ∃ q, q = (rText s7).2 := ⟨_, rfl⟩
  rw [← hs''] at h'
  rw [← hn]
  have HNy1 := Lib.hid hn
  have HS8 := Lib.hid hs''
  clear hn hs'' h hx'
  have h := h'
  clear h'
  go_wp2_with fail
  refine (rdText_any v8 g s8 h).mono ?_
  rintro e v9 ⟨rfl, h', hx'⟩
  have hz := hz.ext (by simp) hx' (by simp only [Esc.just]; omega)
  replace hx : Ext no w v9 := hx.trans hx' (fun i hi h => by simp only [Esc.just] at h; omega)
  have hb := hb.ext (by simp) hx' (by simp only [Esc.just]; omega)
  obtain ⟨y2, hn⟩ : ∃ n, n = (rText s8).1 := ⟨_, rfl⟩
  obtain ⟨s9, hs''⟩ : ∃ q, q = (rText s8).2 := ⟨_, rfl⟩
  rw [← hs''] at h'
  rw [← hn]
  have HNy2 := Lib.hid hn
  have HS9 := Lib.hid hs''
  clear hn hs'' h hx'
  have h := h'
  clear h'
  have hwr : w.heap.size ≤ r := by omega
  have e6 := hb.cell 6 _ rfl
  have f6 := hb.fr 6
  have e7 := hb.cell 7 _ rfl
  have f7 := hb.fr 7
  go_upto_region 5 with fail
  have xs : Ext (just r) v9 ((v9.setCell ⟨r, 6, none⟩ (.string (str y1))).setCell ⟨r, 7, none⟩ (.string (str y2))) := (((Ext.refl (just r) v9).comp (Ext.setCell _ ⟨r, 6, none⟩ (.string (str y1)) rfl)).comp (Ext.setCell _ ⟨r, 7, none⟩ (.string (str y2)) rfl))
  have hb' : Blk ((v9.setCell ⟨r, 6, none⟩ (.string (str y1))).setCell ⟨r, 7, none⟩ (.string (str y2))) r [.int .i64 i1, .int .i64 i2, .int .i64 i3, .int .i64 c1, .int .i64 c2, .int .i64 c3, .string (str y1), .string (str y2), .int .i64 0, .int .i64 c4, .slice none 0 0] := ((hb.set 6 (.string (str y1)) (by simp)).set 7 (.string (str y2)) (by simp))
  have hz := hz.ext (by simp) xs (by simp only [Esc.just]; omega)
  have h := rdr_aside h xs (by omega) hdr
  replace hx : Ext no w ((v9.setCell ⟨r, 6, none⟩ (.string (str y1))).setCell ⟨r, 7, none⟩ (.string (str y2))) := hx.trans xs (fun i hi h => by simp only [Esc.just] at h; omega)
  clear xs e6 f6 e7 f7
  clear hb
  have hb := hb'
  clear hb'
  generalize ((v9.setCell ⟨r, 6, none⟩ (.string (str y1))).setCell ⟨r, 7, none⟩ (.string (str y2))) = v10 at *
  go_wp2_with fail
  refine (rdInt_any v10 g s9 h).mono ?_
  rintro e v11 ⟨rfl, h', hx'⟩
  have hz := hz.ext (by simp) hx' (by simp only [Esc.just]; omega)
  replace hx : Ext no w v11 := hx.trans hx' (fun i hi h => by simp only [Esc.just] at h; omega)
  have hb := hb.ext (by simp) hx' (by simp only [Esc.just]; omega)
  obtain ⟨c5, hn⟩ : ∃ n, n = (rInt s9).1 := ⟨_, rfl⟩
  obtain ⟨s10, hs''⟩ : ∃ q, q = (rInt s9).2 := ⟨_, rfl⟩
  rw [← hs''] at h'
  rw [← hn]
  have HNc5 := Lib.hid hn
  have HS10 := Lib.hid hs''
  clear hn hs'' h hx'
  have h := h'
  clear h'
  have e8 := hb.cell 8 _ rfl
  have f8 := hb.fr 8
  go_upto_region 6 with fail
  have xs : Ext (just r) v11 (v11.setCell ⟨r, 8, none⟩ (.int .i64 c5)) := ((Ext.refl (just r) v11).comp (Ext.setCell _ ⟨r, 8, none⟩ (.int .i64 c5) rfl))
  have hb' : Blk (v11.setCell ⟨r, 8, none⟩ (.int .i64 c5)) r [.int .i64 i1, .int .i64 i2, .int .i64 i3, .int .i64 c1, .int .i64 c2, .int .i64 c3, .string (str y1), .string (str y2), .int .i64 c5, .int .i64 c4, .slice none 0 0] := (hb.set 8 (.int .i64 c5) (by simp))
  have hz := hz.ext (by simp) xs (by simp only [Esc.just]; omega)
  have h := rdr_aside h xs (by omega) hdr
  replace hx : Ext no w (v11.setCell ⟨r, 8, none⟩ (.int .i64 c5)) := hx.trans xs (fun i hi h => by simp only [Esc.just] at h; omega)
  clear xs e8 f8
  clear hb
  have hb := hb'
  clear hb'
  generalize (v11.setCell ⟨r, 8, none⟩ (.int .i64 c5)) = v12 at *
  go_wp2_with fail
  refine (rdInt_any v12 g s10 h).mono ?_
  rintro e v13 ⟨rfl, h', hx'⟩
  have hz := hz.ext (by simp) hx' (by simp only [Esc.just]; omega)
  have hb := hb.ext (by simp) hx' (by simp only [Esc.just]; omega)
  replace hx : Ext no w v13 := hx.trans hx' (fun i hi h => by simp only [Esc.just] at h; omega)
  obtain ⟨n, hn⟩ : ∃ n, n = (rInt s10).1 := ⟨_, rfl⟩
  obtain ⟨t, ht⟩ : ∃ q, q = (rInt s10).2 := ⟨_, rfl⟩
  rw [← ht] at h'
  rw [← hn]
  have HP := Lib.hid (show pHead s0 = (⟨⟨i1, i2, i3⟩, c1, c2, c3, y1, y2, c5, c4, []⟩, n, t) by
    unfold pHead pDot
    simp only [← HNi1.out, ← HS1.out, ← HNi2.out, ← HS2.out, ← HNi3.out, ← HS3.out, ← HNc1.out, ← HS4.out, ← HNc2.out, ← HS5.out, ← HNc3.out, ← HS6.out, ← HNc4.out, ← HS7.out, ← HNy1.out, ← HS8.out, ← HNy2.out, ← HS9.out, ← HNc5.out, ← HS10.out, ← hn, ← ht])
  clear hn ht HNi1 HS1 HNi2 HS2 HNi3 HS3 HNc1 HS4 HNc2 HS5 HNc3 HS6 HNc4 HS7 HNy1 HS8 HNy2 HS9 HNc5 HS10 hx' h
  have h := h'
  clear h'
  go_wp2_with fail
  refine (opwithin_any v13 n 0 8).mono ?_
  rintro e u0 ⟨rfl, rfl⟩
  by_cases hin : 0 ≤ n ∧ n ≤ 8
  rotate_left
  · have hF : (rFail t 4).l = t.l ∧ (rFail t 4).e = fails t.e 4 := by
      unfold rFail fails
      split <;> exact ⟨rfl, rfl⟩
    have hte : (rFail t 4).e ≠ 0 := by
      rw [hF.2]; unfold fails; split
      · decide
      · assumption
    have HR0 := Lib.hid (show pRead s0 = ((⟨⟨i1, i2, i3⟩, c1, c2, c3, y1, y2, c5, c4, []⟩ : OpR), rFail t 4) by
      unfold pRead
      rw [HP.out]
      have hb : pBad n := by unfold pBad; omega
      simp only [if_pos hb]
      rfl)
    have HFl := Lib.hid hF.1
    have HFe := Lib.hid hF.2
    clear hF
    have dd : decide (0 ≤ n ∧ n ≤ 8) = false := decF hin
    rw [dd]
    clear dd hin
    go_wp2_with fail
    refine (fail_any v13 g t.l t.e 4 h).mono ?_
    rintro e v14 ⟨rfl, h', hx'⟩
    have h : Rdr v14 g dk (rFail t 4).l (rFail t 4).e := by rw [HFl.out, HFe.out]; exact h'
    have hz := hz.ext (by simp) hx' (by simp only [Esc.just]; omega)
    have hb := hb.ext (by simp) hx' (by simp only [Esc.just]; omega)
    replace hx : Ext no w v14 := hx.trans hx' (fun i hi h => by simp only [Esc.just] at h; omega)
    clear h' hx' HFl HFe
    generalize rFail t 4 = tf at *
    have hE0 : rEnd tf ≠ 0 := by unfold rEnd; rw [if_neg (fun h => hte h.1)]; exact hte
    have HR := Lib.hid (show pOp b = (zeroOp, rEnd tf) by unfold pOp; rw [← HS0.out, HR0.out]; simp only; rw [if_pos hE0])
    obtain ⟨E, hE⟩ : ∃ E, E = rEnd tf := ⟨_, rfl⟩
    go_wp2_with fail
    go_loopw [46] (fun s46 wr => s46 = .int .i64 0 ∧ wr = v14) (fun _ _ => 0)
    case atStart => exact ⟨rfl, rfl⟩
    case round =>
      obtain ⟨rfl, rfl⟩ := hrel
      go_wp2_with fail
      refine (end_any wr g tf h).mono ?_
      rintro e u1 ⟨rfl, rfl⟩
      rw [← hE] at HR hE0 ⊢
      clear hE
      have e1 : (E == (0 : Int)) = false := by rw [beq_eq_false_iff_ne]; exact hE0
      have e2 : (E != (0 : Int)) = true := by rw [bne_iff_ne]; exact hE0
      clear hE0
      have b0 := hb.cell 0 _ rfl
      have b1 := hb.cell 1 _ rfl
      have b2 := hb.cell 2 _ rfl
      have b3 := hb.cell 3 _ rfl
      have b4 := hb.cell 4 _ rfl
      have b5 := hb.cell 5 _ rfl
      have b6 := hb.cell 6 _ rfl
      have b7 := hb.cell 7 _ rfl
      have b8 := hb.cell 8 _ rfl
      have b9 := hb.cell 9 _ rfl
      have b10 := hb.cell 10 _ rfl
      generalize wr = v15 at *
      have z0 := hz.cell 0 _ rfl
      have z1 := hz.cell 1 _ rfl
      have z2 := hz.cell 2 _ rfl
      have z3 := hz.cell 3 _ rfl
      have z4 := hz.cell 4 _ rfl
      have z5 := hz.cell 5 _ rfl
      have z6 := hz.cell 6 _ rfl
      have z7 := hz.cell 7 _ rfl
      have z8 := hz.cell 8 _ rfl
      have z9 := hz.cell 9 _ rfl
      have z10 := hz.cell 10 _ rfl
      have f0 := hz.fr 0
      have f1 := hz.fr 1
      have f2 := hz.fr 2
      have f3 := hz.fr 3
      have f4 := hz.fr 4
      have f5 := hz.fr 5
      have f6 := hz.fr 6
      have f7 := hz.fr 7
      have f8 := hz.fr 8
      have f9 := hz.fr 9
      have f10 := hz.fr 10
      have xs : Ext (just q) v15 (((((((((((v15.setCell ⟨q, 0, none⟩ (.int .i64 0)).setCell ⟨q, 1, none⟩ (.int .i64 0)).setCell ⟨q, 2, none⟩ (.int .i64 0)).setCell ⟨q, 3, none⟩ (.int .i64 0)).setCell ⟨q, 4, none⟩ (.int .i64 0)).setCell ⟨q, 5, none⟩ (.int .i64 0)).setCell ⟨q, 6, none⟩ (.string { data := #[] })).setCell ⟨q, 7, none⟩ (.string { data := #[] })).setCell ⟨q, 8, none⟩ (.int .i64 0)).setCell ⟨q, 9, none⟩ (.int .i64 0)).setCell ⟨q, 10, none⟩ (.slice none 0 0)) := ((((((((((((Ext.refl (just q) v15).comp (Ext.setCell _ ⟨q, 0, none⟩ (.int .i64 0) rfl)).comp (Ext.setCell _ ⟨q, 1, none⟩ (.int .i64 0) rfl)).comp (Ext.setCell _ ⟨q, 2, none⟩ (.int .i64 0) rfl)).comp (Ext.setCell _ ⟨q, 3, none⟩ (.int .i64 0) rfl)).comp (Ext.setCell _ ⟨q, 4, none⟩ (.int .i64 0) rfl)).comp (Ext.setCell _ ⟨q, 5, none⟩ (.int .i64 0) rfl)).comp (Ext.setCell _ ⟨q, 6, none⟩ (.string { data := #[] }) rfl)).comp (Ext.setCell _ ⟨q, 7, none⟩ (.string { data := #[] }) rfl)).comp (Ext.setCell _ ⟨q, 8, none⟩ (.int .i64 0) rfl)).comp (Ext.setCell _ ⟨q, 9, none⟩ (.int .i64 0) rfl)).comp (Ext.setCell _ ⟨q, 10, none⟩ (.slice none 0 0) rfl))
      have hze : Blk (((((((((((v15.setCell ⟨q, 0, none⟩ (.int .i64 0)).setCell ⟨q, 1, none⟩ (.int .i64 0)).setCell ⟨q, 2, none⟩ (.int .i64 0)).setCell ⟨q, 3, none⟩ (.int .i64 0)).setCell ⟨q, 4, none⟩ (.int .i64 0)).setCell ⟨q, 5, none⟩ (.int .i64 0)).setCell ⟨q, 6, none⟩ (.string { data := #[] })).setCell ⟨q, 7, none⟩ (.string { data := #[] })).setCell ⟨q, 8, none⟩ (.int .i64 0)).setCell ⟨q, 9, none⟩ (.int .i64 0)).setCell ⟨q, 10, none⟩ (.slice none 0 0)) q [.int .i64 0, .int .i64 0, .int .i64 0, .int .i64 0, .int .i64 0, .int .i64 0, .string { data := #[] }, .string { data := #[] }, .int .i64 0, .int .i64 0, .slice none 0 0] := (((((((((((hz.set 0 (.int .i64 0) (by simp)).set 1 (.int .i64 0) (by simp)).set 2 (.int .i64 0) (by simp)).set 3 (.int .i64 0) (by simp)).set 4 (.int .i64 0) (by simp)).set 5 (.int .i64 0) (by simp)).set 6 (.string { data := #[] }) (by simp)).set 7 (.string { data := #[] }) (by simp)).set 8 (.int .i64 0) (by simp)).set 9 (.int .i64 0) (by simp)).set 10 (.slice none 0 0) (by simp))
      have hxe : Ext no w (((((((((((v15.setCell ⟨q, 0, none⟩ (.int .i64 0)).setCell ⟨q, 1, none⟩ (.int .i64 0)).setCell ⟨q, 2, none⟩ (.int .i64 0)).setCell ⟨q, 3, none⟩ (.int .i64 0)).setCell ⟨q, 4, none⟩ (.int .i64 0)).setCell ⟨q, 5, none⟩ (.int .i64 0)).setCell ⟨q, 6, none⟩ (.string { data := #[] })).setCell ⟨q, 7, none⟩ (.string { data := #[] })).setCell ⟨q, 8, none⟩ (.int .i64 0)).setCell ⟨q, 9, none⟩ (.int .i64 0)).setCell ⟨q, 10, none⟩ (.slice none 0 0)) := hx.trans xs (fun i hi h => by simp only [Esc.just] at h; omega)
      have hre : Rd (((((((((((v15.setCell ⟨q, 0, none⟩ (.int .i64 0)).setCell ⟨q, 1, none⟩ (.int .i64 0)).setCell ⟨q, 2, none⟩ (.int .i64 0)).setCell ⟨q, 3, none⟩ (.int .i64 0)).setCell ⟨q, 4, none⟩ (.int .i64 0)).setCell ⟨q, 5, none⟩ (.int .i64 0)).setCell ⟨q, 6, none⟩ (.string { data := #[] })).setCell ⟨q, 7, none⟩ (.string { data := #[] })).setCell ⟨q, 8, none⟩ (.int .i64 0)).setCell ⟨q, 9, none⟩ (.int .i64 0)).setCell ⟨q, 10, none⟩ (.slice none 0 0)) none (ds []) := Rd.nil _ _
      go_wp2_with fail
      generalize (((((((((((v15.setCell ⟨q, 0, none⟩ (.int .i64 0)).setCell ⟨q, 1, none⟩ (.int .i64 0)).setCell ⟨q, 2, none⟩ (.int .i64 0)).setCell ⟨q, 3, none⟩ (.int .i64 0)).setCell ⟨q, 4, none⟩ (.int .i64 0)).setCell ⟨q, 5, none⟩ (.int .i64 0)).setCell ⟨q, 6, none⟩ (.string { data := #[] })).setCell ⟨q, 7, none⟩ (.string { data := #[] })).setCell ⟨q, 8, none⟩ (.int .i64 0)).setCell ⟨q, 9, none⟩ (.int .i64 0)).setCell ⟨q, 10, none⟩ (.slice none 0 0)) = wz at *
      clear b0 z0 f0 b1 z1 f1 b2 z2 f2 b3 z3 f3 b4 z4 f4 b5 z5 f5 b6 z6 f6 b7 z7 f7 b8 z8 f8 b9 z9 f9 b10 z10 f10
      have yc0 := hze.cell 0 _ rfl
      have yc1 := hze.cell 1 _ rfl
      have yc2 := hze.cell 2 _ rfl
      have yc3 := hze.cell 3 _ rfl
      have yc4 := hze.cell 4 _ rfl
      have yc5 := hze.cell 5 _ rfl
      have yc6 := hze.cell 6 _ rfl
      have yc7 := hze.cell 7 _ rfl
      have yc8 := hze.cell 8 _ rfl
      have yc9 := hze.cell 9 _ rfl
      have yc10 := hze.cell 10 _ rfl
      refine bodyPost_ret (v := .tuple #[.agg #[.int .i64 0, .int .i64 0, .int .i64 0, .int .i64 0, .int .i64 0, .int .i64 0, .string { data := #[] }, .string { data := #[] }, .int .i64 0, .int .i64 0, .slice none 0 0], .int .i64 E]) ?_ rfl ⟨none, 0, ?_, ?_, ?_, hxe, fun ad h => by cases h⟩
      · rw [results_cell_tmp rfl]
        go_simp
      · rw [HR.out]; rfl
      · rw [HR.out]; exact hre
      · rw [HR.out]; exact Nat.le_refl _
  obtain ⟨M, hM⟩ : ∃ M : Nat, n = (M : Int) := ⟨n.toNat, by omega⟩
  have hM8 : M ≤ 8 := by omega
  have HR0 := Lib.hid (show pRead s0 = ({ (⟨⟨i1, i2, i3⟩, c1, c2, c3, y1, y2, c5, c4, []⟩ : OpR) with dots := (pDots M t).1 }, (pDots M t).2) by
    unfold pRead
    rw [HP.out]
    have hb : ¬ pBad n := by unfold pBad; omega
    simp only [if_neg hb]
    rw [hM, Int.toNat_natCast])
  have dd : decide (0 ≤ n ∧ n ≤ 8) = true := decT hin
  rw [dd]
  clear dd hin
  subst hM
  go_wp2_with fail
  go_loopw [46] (fun s46 wr => ∃ (i : Nat) (D : List DotR) (a' : Option Addr) (c' : Nat) (sr : RS), i ≤ M ∧ s46 = .int .i64 i ∧ D.length = i ∧ pAll M t = (D ++ (pAll (M - i) sr).1, (pAll (M - i) sr).2) ∧ Rdr wr g dk sr.l sr.e ∧ Blk wr r [.int .i64 i1, .int .i64 i2, .int .i64 i3, .int .i64 c1, .int .i64 c2, .int .i64 c3, .string (str y1), .string (str y2), .int .i64 c5, .int .i64 c4, .slice a' D.length c'] ∧ Blk wr q [.int .i64 0, .int .i64 0, .int .i64 0, .int .i64 0, .int .i64 0, .int .i64 0, .string { data := #[] }, .string { data := #[] }, .int .i64 0, .int .i64 0, .slice none 0 0] ∧ Own wr (r + 1) a' 3 D.length c' (ds D) ∧ Ext no w wr) (fun s46 _ => M - (intOf s46).toNat)
  case atStart => exact ⟨0, [], none, 0, t, by omega, rfl, rfl, by simp, h, hb, hz, Own.nil _ _ _, hx⟩
  case round =>
    clear h hb hz hx
    obtain ⟨i, D, a1, c6, sr, hi, rfl, hDl, hpd, h, hb, hz, hown, hx⟩ := hrel
    have HD := Lib.hid hDl
    have HPD := Lib.hid hpd
    clear hDl hpd
    have hs := hb.lt (by simp)
    by_cases hiM : i < M
    · have e1 : decide (i < M) = true := decT hiM
      have HPS := Lib.hid (show pAll (M - i) sr = ((pDot sr).1 :: (pAll (M - (i + 1)) (pDot sr).2).1, (pAll (M - (i + 1)) (pDot sr).2).2) by
        rw [show M - i = (M - (i + 1)) + 1 by omega]; rfl)
      have c10 := hb.cell 10 _ rfl
      go_upto_region 12 with fail
      --<L
      refine wp_region_F [1] (looks [(1, fun z => z.cell? ⟨r, 10, none⟩ = some (.slice a1 D.length c6))]) (by kernel_rfl) ?_
      have hT0 : ∀ k, looks [(1, fun z => z.cell? ⟨r, 10, none⟩ = some (.slice a1 D.length c6))] k (wr.drew) := looks_all ⟨c10, trivial⟩
      refine wpF_take 0 (v := ?_) rfl (by kernel_rfl) (by kernel_rfl) (by kernel_rfl) (fun _ _ _ h => h) hT0 (by rfl) ?_ ?_
      rotate_left
      · (intro wq; go_simp; try with_reducible rfl)
      simp only [Act.put, List.setIfInBounds_toArray, List.set_cons_zero, List.set_cons_succ]
      refine wpF_look 1 (v := .slice a1 D.length c6) rfl rfl (by kernel_rfl) (by kernel_rfl) (by kernel_rfl) (by kernel_rfl) (fun _ _ _ h => h) hT0 (by rfl) (fun w hS => by have hS : w.cell? ⟨r, 10, none⟩ = some (.slice a1 D.length c6) := hS; go_simp) ?_
      simp only [Act.put, List.setIfInBounds_toArray, List.set_cons_zero, List.set_cons_succ]
      refine wpF_take 2 (v := ?_) rfl (by kernel_rfl) (by kernel_rfl) (by kernel_rfl) (fun _ _ _ h => h) hT0 (by rfl) ?_ ?_
      rotate_left
      · (intro wq; go_simp; try with_reducible rfl)
      simp only [Act.put, List.setIfInBounds_toArray, List.set_cons_zero, List.set_cons_succ]
      refine wpF_take 4 (v := ?_) rfl (by kernel_rfl) (by kernel_rfl) (by kernel_rfl) (fun _ _ _ h => h) hT0 (by rfl) ?_ ?_
      rotate_left
      · (intro wq; go_simp; try with_reducible rfl)
      simp only [Act.put, List.setIfInBounds_toArray, List.set_cons_zero, List.set_cons_succ]
      refine wpF_take 6 (v := ?_) rfl (by kernel_rfl) (by kernel_rfl) (by kernel_rfl) (fun _ _ _ h => h) hT0 (by rfl) ?_ ?_
      rotate_left
      · (intro wq; go_simp; try with_reducible rfl)
      simp only [Act.put, List.setIfInBounds_toArray, List.set_cons_zero, List.set_cons_succ]
      refine wpF_exec 3 rfl (by kernel_rfl) (by rfl) ?_
      intro K hK
      go_simp
      refine (rdInt_any wr.drew g sr (h.no (Ext.drew no wr))).mono ?_
      rintro e x1 ⟨rfl, h1, hy⟩
      obtain ⟨m1, hm⟩ : ∃ x, x = (rInt sr).1 := ⟨_, rfl⟩
      obtain ⟨sq1, hsq⟩ : ∃ x, x = (rInt sr).2 := ⟨_, rfl⟩
      rw [← hsq] at h1
      rw [← hm]
      have HM1 := Lib.hid hm
      have HSQ1 := Lib.hid hsq
      clear hm hsq
      have hy := (Ext.drew (just g) wr).comp hy
      have hb := hb.ext (by simp) hy (by simp only [Esc.just]; omega)
      have hz := hz.ext (by simp) hy (by simp only [Esc.just]; omega)
      have hown := hown.ext hy (fun ad h e => by have := (hown.base ad h).1; simp only [Esc.just] at e; omega)
      have hx : Ext no w x1 := hx.trans hy (fun i hi h => by simp only [Esc.just] at h; omega)
      have c10 := hb.cell 10 _ rfl
      have hT1 : ∀ k, looks [(1, fun z => z.cell? ⟨r, 10, none⟩ = some (.slice a1 D.length c6))] k (x1) := looks_all ⟨c10, trivial⟩
      refine hK _ _ (looks [(1, fun z => z.cell? ⟨r, 10, none⟩ = some (.slice a1 D.length c6))]) ⟨.inr (.inr (fun x h => h)), trivial⟩ hT1 ?_
      clear hK K
      try simp only [Act.put, List.setIfInBounds_toArray, List.set_cons_zero, List.set_cons_succ]
      refine wpF_exec 5 rfl (by kernel_rfl) (by rfl) ?_
      intro K hK
      go_simp
      refine (rdInt_any x1 g sq1 h1).mono ?_
      rintro e x2 ⟨rfl, h2, hy⟩
      obtain ⟨m2, hm⟩ : ∃ x, x = (rInt sq1).1 := ⟨_, rfl⟩
      obtain ⟨sq2, hsq⟩ : ∃ x, x = (rInt sq1).2 := ⟨_, rfl⟩
      rw [← hsq] at h2
      rw [← hm]
      have HM2 := Lib.hid hm
      have HSQ2 := Lib.hid hsq
      clear hm hsq
      have hb := hb.ext (by simp) hy (by simp only [Esc.just]; omega)
      have hz := hz.ext (by simp) hy (by simp only [Esc.just]; omega)
      have hown := hown.ext hy (fun ad h e => by have := (hown.base ad h).1; simp only [Esc.just] at e; omega)
      have hx : Ext no w x2 := hx.trans hy (fun i hi h => by simp only [Esc.just] at h; omega)
      have c10 := hb.cell 10 _ rfl
      have hT2 : ∀ k, looks [(1, fun z => z.cell? ⟨r, 10, none⟩ = some (.slice a1 D.length c6))] k (x2) := looks_all ⟨c10, trivial⟩
      refine hK _ _ (looks [(1, fun z => z.cell? ⟨r, 10, none⟩ = some (.slice a1 D.length c6))]) ⟨.inr (.inr (fun x h => h)), trivial⟩ hT2 ?_
      clear hK K
      try simp only [Act.put, List.setIfInBounds_toArray, List.set_cons_zero, List.set_cons_succ]
      refine wpF_exec 7 rfl (by kernel_rfl) (by rfl) ?_
      intro K hK
      go_simp
      refine (rdInt_any x2 g sq2 h2).mono ?_
      rintro e x3 ⟨rfl, h3, hy⟩
      obtain ⟨m3, hm⟩ : ∃ x, x = (rInt sq2).1 := ⟨_, rfl⟩
      obtain ⟨sq3, hsq⟩ : ∃ x, x = (rInt sq2).2 := ⟨_, rfl⟩
      rw [← hsq] at h3
      rw [← hm]
      have HM3 := Lib.hid hm
      have HSQ3 := Lib.hid hsq
      clear hm hsq
      have hb := hb.ext (by simp) hy (by simp only [Esc.just]; omega)
      have hz := hz.ext (by simp) hy (by simp only [Esc.just]; omega)
      have hown := hown.ext hy (fun ad h e => by have := (hown.base ad h).1; simp only [Esc.just] at e; omega)
      have hx : Ext no w x3 := hx.trans hy (fun i hi h => by simp only [Esc.just] at h; omega)
      have c10 := hb.cell 10 _ rfl
      have hT3 : ∀ k, looks [(1, fun z => z.cell? ⟨r, 10, none⟩ = some (.slice a1 D.length c6))] k (x3) := looks_all ⟨c10, trivial⟩
      refine hK _ _ (looks [(1, fun z => z.cell? ⟨r, 10, none⟩ = some (.slice a1 D.length c6))]) ⟨.inr (.inr (fun x h => h)), trivial⟩ hT3 ?_
      clear hK K
      try simp only [Act.put, List.setIfInBounds_toArray, List.set_cons_zero, List.set_cons_succ]
      refine wpF_take 8 (v := ?_) rfl (by kernel_rfl) (by kernel_rfl) (by kernel_rfl) (fun _ _ _ h => h) hT3 (by rfl) ?_ ?_
      rotate_left
      · (intro wq; go_simp; try with_reducible rfl)
      simp only [Act.put, List.setIfInBounds_toArray, List.set_cons_zero, List.set_cons_succ]
      refine wpF_exec 9 rfl (by kernel_rfl) (by rfl) ?_
      intro K hK
      go_simp
      have hT4 : ∀ k, looks [(1, fun z => z.cell? ⟨r, 10, none⟩ = some (.slice a1 D.length c6))] k ((x3.alloc (.cells #[.int .i64 m1, .int .i64 m2, .int .i64 m3] 23))) := looks_all ⟨((Ext.alloc no x3 (.cells #[.int .i64 m1, .int .i64 m2, .int .i64 m3] 23)).keeps c10 (fun h => h)), trivial⟩
      refine hK _ _ (looks [(1, fun z => z.cell? ⟨r, 10, none⟩ = some (.slice a1 D.length c6))]) ⟨.inr (.inr (fun x h => h)), trivial⟩ hT4 ?_
      clear hK K
      try simp only [Act.put, List.setIfInBounds_toArray, List.set_cons_zero, List.set_cons_succ]
      refine wpF_exec 10 rfl (by kernel_rfl) (by rfl) ?_
      intro K hK
      refine op_append TDots rfl rfl (hown.ext (Ext.alloc no x3 (.cells #[.int .i64 m1, .int .i64 m2, .int .i64 m3] 23)) (fun _ _ h => h)) rfl (Rd.lit x3 _ _ _) (by simp) (by intro u hu; simp at hu; rcases hu with rfl | rfl | rfl <;> rfl) (by unfold maxLen; have := HD.out; omega) (by have := HD.out; omega) (by have := hb.lt (by simp); simp; omega) ?_
      intro a8 c8 w8 hA
      have hb8 := (hb.alloc (by simp) (.cells #[.int .i64 m1, .int .i64 m2, .int .i64 m3] 23)).ext (by simp) hA.ext (hown.notBlk (by omega))
      have hz8 := (hz.alloc (by simp) (.cells #[.int .i64 m1, .int .i64 m2, .int .i64 m3] 23)).ext (by simp) hA.ext (hown.notBlk (by omega))
      have h8 := (h3.no (Ext.alloc no x3 (.cells #[.int .i64 m1, .int .i64 m2, .int .i64 m3] 23))).ext hA.ext (hown.notBlk (by omega)) (fun i hi => hown.notBlk (by have := hdi i hi; omega))
      have hx8 : Ext no w w8 := (hx.comp (Ext.alloc no x3 (.cells #[.int .i64 m1, .int .i64 m2, .int .i64 m3] 23))).trans hA.ext (fun i hi h => (hown.notBlk (by omega) h).elim)
      have ho8 := hA.own
      have hs8 := hA.ext.size
      have c8' := hb8.cell 10 _ rfl
      have f8 := hb8.fr 10
      have hT5 : ∀ k, looks [(1, fun z => z.cell? ⟨r, 10, none⟩ = some (.slice a1 D.length c6))] k (w8) := looks_all ⟨c8', trivial⟩
      refine hK _ _ (looks [(1, fun z => z.cell? ⟨r, 10, none⟩ = some (.slice a1 D.length c6))]) ⟨.inr (.inl (by kernel_rfl)), trivial⟩ hT5 ?_
      clear hK K
      try simp only [Act.put, List.setIfInBounds_toArray, List.set_cons_zero, List.set_cons_succ]
      refine wpF_take 11 (v := ?_) rfl (by kernel_rfl) (by kernel_rfl) (by kernel_rfl) (fun _ _ _ h => h) hT5 (by rfl) ?_ ?_
      rotate_left
      · (intro wq; go_simp; try with_reducible rfl)
      simp only [Act.put, List.setIfInBounds_toArray, List.set_cons_zero, List.set_cons_succ]
      refine wpF_exec 12 rfl (by kernel_rfl) (by rfl) ?_
      intro K hK
      go_simp
      have hT6 : ∀ k, looks [(1, fun z => True)] k ((w8.setCell ⟨r, 10, none⟩ (.slice a8 (D.length + 1) c8))) := looks_all ⟨trivial, trivial⟩
      refine hK _ _ (looks [(1, fun z => True)]) ⟨.inr (.inl (by kernel_rfl)), trivial⟩ hT6 ?_
      clear hK K
      try simp only [Act.put, List.setIfInBounds_toArray, List.set_cons_zero, List.set_cons_succ]
      refine wpF_done (by kernel_rfl) ?_ _
      obtain ⟨dd, hdd⟩ : ∃ dd : DotR, dd = ⟨m1, m2, m3⟩ := ⟨_, rfl⟩
      have HDD := Lib.hid (show dd = (pDot sr).1 by rw [hdd]; unfold pDot; rw [← HSQ1.out, ← HSQ2.out, ← HM1.out, ← HM2.out, ← HM3.out])
      have HSQ := Lib.hid (show sq3 = (pDot sr).2 by unfold pDot; rw [← HSQ1.out, ← HSQ2.out, ← HSQ3.out])
      have hb9 : Blk (w8.setCell ⟨r, 10, none⟩ (.slice a8 (D.length + 1) c8)) r [.int .i64 i1, .int .i64 i2, .int .i64 i3, .int .i64 c1, .int .i64 c2, .int .i64 c3, .string (str y1), .string (str y2), .int .i64 c5, .int .i64 c4, .slice a8 (D ++ [dd]).length c8] := by rw [List.length_append]; exact hb8.set 10 (.slice a8 (D.length + 1) c8) (by simp)
      have hz9 := hz8.other (g := r) (by omega) 10 (.slice a8 (D.length + 1) c8)
      have h9 := rdr_aside h8 (Ext.setCell w8 ⟨r, 10, none⟩ (.slice a8 (D.length + 1) c8) (S := just r) rfl) (by omega) hdr
      have ho9 : Own (w8.setCell ⟨r, 10, none⟩ (.slice a8 (D.length + 1) c8)) (r + 1) a8 3 (D ++ [dd]).length c8 (ds (D ++ [dd])) := by
        rw [ds_append, List.length_append, hdd]
        exact ho8.ext (Ext.setCell w8 ⟨r, 10, none⟩ (.slice a8 (D.length + 1) c8) (S := just r) rfl) (fun ad h e => by have := (ho8.base ad h).1; simp only [Esc.just] at e; omega)
      have hx9 : Ext no w (w8.setCell ⟨r, 10, none⟩ (.slice a8 (D.length + 1) c8)) := hx8.set1 hwr 10 (.slice a8 (D.length + 1) c8)
      have HL := Lib.hid (show (D ++ [dd]).length = i + 1 by rw [List.length_append, HD.out]; rfl)
      have HN := Lib.hid (show pAll M t = ((D ++ [dd]) ++ (pAll (M - (i + 1)) sq3).1, (pAll (M - (i + 1)) sq3).2) by rw [HPD.out, HPS.out, ← HDD.out, ← HSQ.out]; simp)
      clear hb8 hz8 h8 ho8 hx8 hA hdd
      go_wp2_with fail
      go_roundw
      case rel => exact ⟨i + 1, D ++ [dd], a8, c8, sq3, by omega, by go_num, HL.out, HN.out, h9, hb9, hz9, ho9, hx9⟩
      case measure => simp [intOf]; omega
      -->L
    · have e1 : decide (i < M) = false := decF hiM
      have hst : (pDots M t).2 = sr := by rw [← pAll_state, HPD.out, show M - i = 0 by omega]; rfl
      have hli : sr.e = 0 → (pDots M t).1 = D := fun h0 => by rw [← pAll_list M t (by rw [hst]; exact h0), HPD.out, show M - i = 0 by omega]; simp [pAll]
      have HST := Lib.hid hst
      have HLI := Lib.hid hli
      clear hst hli
      obtain ⟨E, hE⟩ : ∃ E, E = rEnd sr := ⟨_, rfl⟩
      go_wp2_with fail
      refine (end_any wr g sr h).mono ?_
      rintro e u1 ⟨rfl, rfl⟩
      rw [← hE]
      have HE := Lib.hid hE
      clear hE
      by_cases h0 : E = 0
      rotate_left
      · have e1 : (E == (0 : Int)) = false := by rw [beq_eq_false_iff_ne]; exact h0
        have e2 : (E != (0 : Int)) = true := by rw [bne_iff_ne]; exact h0
        have HR := Lib.hid (show pOp b = (zeroOp, E) by unfold pOp; rw [← HS0.out, HR0.out]; simp only; rw [HST.out, ← HE.out, if_pos h0])
        clear h0
        have b0 := hb.cell 0 _ rfl
        have b1 := hb.cell 1 _ rfl
        have b2 := hb.cell 2 _ rfl
        have b3 := hb.cell 3 _ rfl
        have b4 := hb.cell 4 _ rfl
        have b5 := hb.cell 5 _ rfl
        have b6 := hb.cell 6 _ rfl
        have b7 := hb.cell 7 _ rfl
        have b8 := hb.cell 8 _ rfl
        have b9 := hb.cell 9 _ rfl
        have b10 := hb.cell 10 _ rfl
        generalize wr = v15 at *
        have z0 := hz.cell 0 _ rfl
        have z1 := hz.cell 1 _ rfl
        have z2 := hz.cell 2 _ rfl
        have z3 := hz.cell 3 _ rfl
        have z4 := hz.cell 4 _ rfl
        have z5 := hz.cell 5 _ rfl
        have z6 := hz.cell 6 _ rfl
        have z7 := hz.cell 7 _ rfl
        have z8 := hz.cell 8 _ rfl
        have z9 := hz.cell 9 _ rfl
        have z10 := hz.cell 10 _ rfl
        have f0 := hz.fr 0
        have f1 := hz.fr 1
        have f2 := hz.fr 2
        have f3 := hz.fr 3
        have f4 := hz.fr 4
        have f5 := hz.fr 5
        have f6 := hz.fr 6
        have f7 := hz.fr 7
        have f8 := hz.fr 8
        have f9 := hz.fr 9
        have f10 := hz.fr 10
        have xs : Ext (just q) v15 (((((((((((v15.setCell ⟨q, 0, none⟩ (.int .i64 0)).setCell ⟨q, 1, none⟩ (.int .i64 0)).setCell ⟨q, 2, none⟩ (.int .i64 0)).setCell ⟨q, 3, none⟩ (.int .i64 0)).setCell ⟨q, 4, none⟩ (.int .i64 0)).setCell ⟨q, 5, none⟩ (.int .i64 0)).setCell ⟨q, 6, none⟩ (.string { data := #[] })).setCell ⟨q, 7, none⟩ (.string { data := #[] })).setCell ⟨q, 8, none⟩ (.int .i64 0)).setCell ⟨q, 9, none⟩ (.int .i64 0)).setCell ⟨q, 10, none⟩ (.slice none 0 0)) := ((((((((((((Ext.refl (just q) v15).comp (Ext.setCell _ ⟨q, 0, none⟩ (.int .i64 0) rfl)).comp (Ext.setCell _ ⟨q, 1, none⟩ (.int .i64 0) rfl)).comp (Ext.setCell _ ⟨q, 2, none⟩ (.int .i64 0) rfl)).comp (Ext.setCell _ ⟨q, 3, none⟩ (.int .i64 0) rfl)).comp (Ext.setCell _ ⟨q, 4, none⟩ (.int .i64 0) rfl)).comp (Ext.setCell _ ⟨q, 5, none⟩ (.int .i64 0) rfl)).comp (Ext.setCell _ ⟨q, 6, none⟩ (.string { data := #[] }) rfl)).comp (Ext.setCell _ ⟨q, 7, none⟩ (.string { data := #[] }) rfl)).comp (Ext.setCell _ ⟨q, 8, none⟩ (.int .i64 0) rfl)).comp (Ext.setCell _ ⟨q, 9, none⟩ (.int .i64 0) rfl)).comp (Ext.setCell _ ⟨q, 10, none⟩ (.slice none 0 0) rfl))
        have hze : Blk (((((((((((v15.setCell ⟨q, 0, none⟩ (.int .i64 0)).setCell ⟨q, 1, none⟩ (.int .i64 0)).setCell ⟨q, 2, none⟩ (.int .i64 0)).setCell ⟨q, 3, none⟩ (.int .i64 0)).setCell ⟨q, 4, none⟩ (.int .i64 0)).setCell ⟨q, 5, none⟩ (.int .i64 0)).setCell ⟨q, 6, none⟩ (.string { data := #[] })).setCell ⟨q, 7, none⟩ (.string { data := #[] })).setCell ⟨q, 8, none⟩ (.int .i64 0)).setCell ⟨q, 9, none⟩ (.int .i64 0)).setCell ⟨q, 10, none⟩ (.slice none 0 0)) q [.int .i64 0, .int .i64 0, .int .i64 0, .int .i64 0, .int .i64 0, .int .i64 0, .string { data := #[] }, .string { data := #[] }, .int .i64 0, .int .i64 0, .slice none 0 0] := (((((((((((hz.set 0 (.int .i64 0) (by simp)).set 1 (.int .i64 0) (by simp)).set 2 (.int .i64 0) (by simp)).set 3 (.int .i64 0) (by simp)).set 4 (.int .i64 0) (by simp)).set 5 (.int .i64 0) (by simp)).set 6 (.string { data := #[] }) (by simp)).set 7 (.string { data := #[] }) (by simp)).set 8 (.int .i64 0) (by simp)).set 9 (.int .i64 0) (by simp)).set 10 (.slice none 0 0) (by simp))
        have hxe : Ext no w (((((((((((v15.setCell ⟨q, 0, none⟩ (.int .i64 0)).setCell ⟨q, 1, none⟩ (.int .i64 0)).setCell ⟨q, 2, none⟩ (.int .i64 0)).setCell ⟨q, 3, none⟩ (.int .i64 0)).setCell ⟨q, 4, none⟩ (.int .i64 0)).setCell ⟨q, 5, none⟩ (.int .i64 0)).setCell ⟨q, 6, none⟩ (.string { data := #[] })).setCell ⟨q, 7, none⟩ (.string { data := #[] })).setCell ⟨q, 8, none⟩ (.int .i64 0)).setCell ⟨q, 9, none⟩ (.int .i64 0)).setCell ⟨q, 10, none⟩ (.slice none 0 0)) := hx.trans xs (fun i hi h => by simp only [Esc.just] at h; omega)
        have hre : Rd (((((((((((v15.setCell ⟨q, 0, none⟩ (.int .i64 0)).setCell ⟨q, 1, none⟩ (.int .i64 0)).setCell ⟨q, 2, none⟩ (.int .i64 0)).setCell ⟨q, 3, none⟩ (.int .i64 0)).setCell ⟨q, 4, none⟩ (.int .i64 0)).setCell ⟨q, 5, none⟩ (.int .i64 0)).setCell ⟨q, 6, none⟩ (.string { data := #[] })).setCell ⟨q, 7, none⟩ (.string { data := #[] })).setCell ⟨q, 8, none⟩ (.int .i64 0)).setCell ⟨q, 9, none⟩ (.int .i64 0)).setCell ⟨q, 10, none⟩ (.slice none 0 0)) none (ds []) := Rd.nil _ _
        go_wp2_with fail
        generalize (((((((((((v15.setCell ⟨q, 0, none⟩ (.int .i64 0)).setCell ⟨q, 1, none⟩ (.int .i64 0)).setCell ⟨q, 2, none⟩ (.int .i64 0)).setCell ⟨q, 3, none⟩ (.int .i64 0)).setCell ⟨q, 4, none⟩ (.int .i64 0)).setCell ⟨q, 5, none⟩ (.int .i64 0)).setCell ⟨q, 6, none⟩ (.string { data := #[] })).setCell ⟨q, 7, none⟩ (.string { data := #[] })).setCell ⟨q, 8, none⟩ (.int .i64 0)).setCell ⟨q, 9, none⟩ (.int .i64 0)).setCell ⟨q, 10, none⟩ (.slice none 0 0)) = wz at *
        clear b0 z0 f0 b1 z1 f1 b2 z2 f2 b3 z3 f3 b4 z4 f4 b5 z5 f5 b6 z6 f6 b7 z7 f7 b8 z8 f8 b9 z9 f9 b10 z10 f10
        have yc0 := hze.cell 0 _ rfl
        have yc1 := hze.cell 1 _ rfl
        have yc2 := hze.cell 2 _ rfl
        have yc3 := hze.cell 3 _ rfl
        have yc4 := hze.cell 4 _ rfl
        have yc5 := hze.cell 5 _ rfl
        have yc6 := hze.cell 6 _ rfl
        have yc7 := hze.cell 7 _ rfl
        have yc8 := hze.cell 8 _ rfl
        have yc9 := hze.cell 9 _ rfl
        have yc10 := hze.cell 10 _ rfl
        refine bodyPost_ret (v := .tuple #[.agg #[.int .i64 0, .int .i64 0, .int .i64 0, .int .i64 0, .int .i64 0, .int .i64 0, .string { data := #[] }, .string { data := #[] }, .int .i64 0, .int .i64 0, .slice none 0 0], .int .i64 E]) ?_ rfl ⟨none, 0, ?_, ?_, ?_, hxe, fun ad h => by cases h⟩
        · rw [results_cell_tmp rfl]
          go_simp
        · rw [HR.out]; rfl
        · rw [HR.out]; exact hre
        · rw [HR.out]; exact Nat.le_refl _
      · have e1 : (E == (0 : Int)) = true := by rw [beq_iff_eq]; exact h0
        have hse : sr.e = 0 := by
          have := HE.out
          unfold rEnd at this
          split at this
          · omega
          · omega
        obtain ⟨hok, hkl, htl, hdl⟩ := pRead_fine s0
        obtain ⟨O, hO⟩ : ∃ O : OpR, O = { (⟨⟨i1, i2, i3⟩, c1, c2, c3, y1, y2, c5, c4, []⟩ : OpR) with dots := D } := ⟨_, rfl⟩
        have hO2 : (pRead s0).1 = O := by rw [HR0.out, HLI.out hse, hO]
        rw [hO2] at hok hkl htl hdl
        have HQ := Lib.hid (show pOp b = if checkOp O ≠ 0 then (zeroOp, (checkOp O : Int)) else (O, 0) by
          unfold pOp
          rw [← HS0.out]
          show (if rEnd (pRead s0).2 ≠ 0 then (zeroOp, rEnd (pRead s0).2) else if checkOp (pRead s0).1 ≠ 0 then (zeroOp, (checkOp (pRead s0).1 : Int)) else ((pRead s0).1, 0)) = _
          rw [hO2, show (pRead s0).2 = sr by rw [HR0.out]; exact HST.out, ← HE.out, if_neg (by simp [h0])])
        have hb : Blk wr r (O.cells a1 c6) := by rw [hO]; exact hb
        have hownO : Own wr (r + 1) a1 3 O.dots.length c6 (ds O.dots) := by rw [hO]; exact hown
        clear h0 hse hO2 hown
        have HO := Lib.hid hO
        clear hO
        have b0 : wr.cell? ⟨r, 0, none⟩ = some (.int .i64 O.dot.dev) := hb.cell 0 _ rfl
        have b1 : wr.cell? ⟨r, 1, none⟩ = some (.int .i64 O.dot.ep) := hb.cell 1 _ rfl
        have b2 : wr.cell? ⟨r, 2, none⟩ = some (.int .i64 O.dot.seq) := hb.cell 2 _ rfl
        have b3 : wr.cell? ⟨r, 3, none⟩ = some (.int .i64 O.coll) := hb.cell 3 _ rfl
        have b4 : wr.cell? ⟨r, 4, none⟩ = some (.int .i64 O.ver) := hb.cell 4 _ rfl
        have b5 : wr.cell? ⟨r, 5, none⟩ = some (.int .i64 O.kind) := hb.cell 5 _ rfl
        have b6 : wr.cell? ⟨r, 6, none⟩ = some (.string (str O.key)) := hb.cell 6 _ rfl
        have b7 : wr.cell? ⟨r, 7, none⟩ = some (.string (str O.text)) := hb.cell 7 _ rfl
        have b8 : wr.cell? ⟨r, 8, none⟩ = some (.int .i64 O.n) := hb.cell 8 _ rfl
        have b9 : wr.cell? ⟨r, 9, none⟩ = some (.int .i64 O.time) := hb.cell 9 _ rfl
        have b10 : wr.cell? ⟨r, 10, none⟩ = some (.slice a1 O.dots.length c6) := hb.cell 10 _ rfl
        go_wp2_with fail
        refine (check_any wr O a1 c6 hownO.rd (by omega) (by unfold maxLen; omega) (by unfold maxLen; omega)).mono ?_
        rintro e w6 ⟨rfl, hx6⟩
        have hz6 := hz.ext (by simp) hx6 (fun h => h)
        have hb6 := hb.ext (by simp [OpR.cells]) hx6 (fun h => h)
        have hr6 := hownO.ext hx6 (fun _ _ h => h)
        replace hx := hx.comp hx6
        clear hb hz hownO hx6 b0 b1 b2 b3 b4 b5 b6 b7 b8 b9 b10
        have b0 : w6.cell? ⟨r, 0, none⟩ = some (.int .i64 O.dot.dev) := hb6.cell 0 _ rfl
        have b1 : w6.cell? ⟨r, 1, none⟩ = some (.int .i64 O.dot.ep) := hb6.cell 1 _ rfl
        have b2 : w6.cell? ⟨r, 2, none⟩ = some (.int .i64 O.dot.seq) := hb6.cell 2 _ rfl
        have b3 : w6.cell? ⟨r, 3, none⟩ = some (.int .i64 O.coll) := hb6.cell 3 _ rfl
        have b4 : w6.cell? ⟨r, 4, none⟩ = some (.int .i64 O.ver) := hb6.cell 4 _ rfl
        have b5 : w6.cell? ⟨r, 5, none⟩ = some (.int .i64 O.kind) := hb6.cell 5 _ rfl
        have b6 : w6.cell? ⟨r, 6, none⟩ = some (.string (str O.key)) := hb6.cell 6 _ rfl
        have b7 : w6.cell? ⟨r, 7, none⟩ = some (.string (str O.text)) := hb6.cell 7 _ rfl
        have b8 : w6.cell? ⟨r, 8, none⟩ = some (.int .i64 O.n) := hb6.cell 8 _ rfl
        have b9 : w6.cell? ⟨r, 9, none⟩ = some (.int .i64 O.time) := hb6.cell 9 _ rfl
        have b10 : w6.cell? ⟨r, 10, none⟩ = some (.slice a1 O.dots.length c6) := hb6.cell 10 _ rfl
        obtain ⟨K, hK⟩ : ∃ K, K = checkOp O := ⟨_, rfl⟩
        rw [← hK]
        have HK := Lib.hid hK
        clear hK
        by_cases h1 : K = 0
        rotate_left
        · have e3 : ((K : Int) != 0) = true := by rw [bne_iff_ne]; omega
          have HR := Lib.hid (show pOp b = (zeroOp, (K : Int)) by rw [HQ.out, ← HK.out, if_pos h1])
          clear h1
          have z0 := hz6.cell 0 _ rfl
          have z1 := hz6.cell 1 _ rfl
          have z2 := hz6.cell 2 _ rfl
          have z3 := hz6.cell 3 _ rfl
          have z4 := hz6.cell 4 _ rfl
          have z5 := hz6.cell 5 _ rfl
          have z6 := hz6.cell 6 _ rfl
          have z7 := hz6.cell 7 _ rfl
          have z8 := hz6.cell 8 _ rfl
          have z9 := hz6.cell 9 _ rfl
          have z10 := hz6.cell 10 _ rfl
          have f0 := hz6.fr 0
          have f1 := hz6.fr 1
          have f2 := hz6.fr 2
          have f3 := hz6.fr 3
          have f4 := hz6.fr 4
          have f5 := hz6.fr 5
          have f6 := hz6.fr 6
          have f7 := hz6.fr 7
          have f8 := hz6.fr 8
          have f9 := hz6.fr 9
          have f10 := hz6.fr 10
          have xs : Ext (just q) w6 (((((((((((w6.setCell ⟨q, 0, none⟩ (.int .i64 0)).setCell ⟨q, 1, none⟩ (.int .i64 0)).setCell ⟨q, 2, none⟩ (.int .i64 0)).setCell ⟨q, 3, none⟩ (.int .i64 0)).setCell ⟨q, 4, none⟩ (.int .i64 0)).setCell ⟨q, 5, none⟩ (.int .i64 0)).setCell ⟨q, 6, none⟩ (.string { data := #[] })).setCell ⟨q, 7, none⟩ (.string { data := #[] })).setCell ⟨q, 8, none⟩ (.int .i64 0)).setCell ⟨q, 9, none⟩ (.int .i64 0)).setCell ⟨q, 10, none⟩ (.slice none 0 0)) := ((((((((((((Ext.refl (just q) w6).comp (Ext.setCell _ ⟨q, 0, none⟩ (.int .i64 0) rfl)).comp (Ext.setCell _ ⟨q, 1, none⟩ (.int .i64 0) rfl)).comp (Ext.setCell _ ⟨q, 2, none⟩ (.int .i64 0) rfl)).comp (Ext.setCell _ ⟨q, 3, none⟩ (.int .i64 0) rfl)).comp (Ext.setCell _ ⟨q, 4, none⟩ (.int .i64 0) rfl)).comp (Ext.setCell _ ⟨q, 5, none⟩ (.int .i64 0) rfl)).comp (Ext.setCell _ ⟨q, 6, none⟩ (.string { data := #[] }) rfl)).comp (Ext.setCell _ ⟨q, 7, none⟩ (.string { data := #[] }) rfl)).comp (Ext.setCell _ ⟨q, 8, none⟩ (.int .i64 0) rfl)).comp (Ext.setCell _ ⟨q, 9, none⟩ (.int .i64 0) rfl)).comp (Ext.setCell _ ⟨q, 10, none⟩ (.slice none 0 0) rfl))
          have hze : Blk (((((((((((w6.setCell ⟨q, 0, none⟩ (.int .i64 0)).setCell ⟨q, 1, none⟩ (.int .i64 0)).setCell ⟨q, 2, none⟩ (.int .i64 0)).setCell ⟨q, 3, none⟩ (.int .i64 0)).setCell ⟨q, 4, none⟩ (.int .i64 0)).setCell ⟨q, 5, none⟩ (.int .i64 0)).setCell ⟨q, 6, none⟩ (.string { data := #[] })).setCell ⟨q, 7, none⟩ (.string { data := #[] })).setCell ⟨q, 8, none⟩ (.int .i64 0)).setCell ⟨q, 9, none⟩ (.int .i64 0)).setCell ⟨q, 10, none⟩ (.slice none 0 0)) q [.int .i64 0, .int .i64 0, .int .i64 0, .int .i64 0, .int .i64 0, .int .i64 0, .string { data := #[] }, .string { data := #[] }, .int .i64 0, .int .i64 0, .slice none 0 0] := (((((((((((hz6.set 0 (.int .i64 0) (by simp)).set 1 (.int .i64 0) (by simp)).set 2 (.int .i64 0) (by simp)).set 3 (.int .i64 0) (by simp)).set 4 (.int .i64 0) (by simp)).set 5 (.int .i64 0) (by simp)).set 6 (.string { data := #[] }) (by simp)).set 7 (.string { data := #[] }) (by simp)).set 8 (.int .i64 0) (by simp)).set 9 (.int .i64 0) (by simp)).set 10 (.slice none 0 0) (by simp))
          have hxe : Ext no w (((((((((((w6.setCell ⟨q, 0, none⟩ (.int .i64 0)).setCell ⟨q, 1, none⟩ (.int .i64 0)).setCell ⟨q, 2, none⟩ (.int .i64 0)).setCell ⟨q, 3, none⟩ (.int .i64 0)).setCell ⟨q, 4, none⟩ (.int .i64 0)).setCell ⟨q, 5, none⟩ (.int .i64 0)).setCell ⟨q, 6, none⟩ (.string { data := #[] })).setCell ⟨q, 7, none⟩ (.string { data := #[] })).setCell ⟨q, 8, none⟩ (.int .i64 0)).setCell ⟨q, 9, none⟩ (.int .i64 0)).setCell ⟨q, 10, none⟩ (.slice none 0 0)) := hx.trans xs (fun i hi h => by simp only [Esc.just] at h; omega)
          have hre : Rd (((((((((((w6.setCell ⟨q, 0, none⟩ (.int .i64 0)).setCell ⟨q, 1, none⟩ (.int .i64 0)).setCell ⟨q, 2, none⟩ (.int .i64 0)).setCell ⟨q, 3, none⟩ (.int .i64 0)).setCell ⟨q, 4, none⟩ (.int .i64 0)).setCell ⟨q, 5, none⟩ (.int .i64 0)).setCell ⟨q, 6, none⟩ (.string { data := #[] })).setCell ⟨q, 7, none⟩ (.string { data := #[] })).setCell ⟨q, 8, none⟩ (.int .i64 0)).setCell ⟨q, 9, none⟩ (.int .i64 0)).setCell ⟨q, 10, none⟩ (.slice none 0 0)) none (ds []) := Rd.nil _ _
          go_wp2_with fail
          generalize (((((((((((w6.setCell ⟨q, 0, none⟩ (.int .i64 0)).setCell ⟨q, 1, none⟩ (.int .i64 0)).setCell ⟨q, 2, none⟩ (.int .i64 0)).setCell ⟨q, 3, none⟩ (.int .i64 0)).setCell ⟨q, 4, none⟩ (.int .i64 0)).setCell ⟨q, 5, none⟩ (.int .i64 0)).setCell ⟨q, 6, none⟩ (.string { data := #[] })).setCell ⟨q, 7, none⟩ (.string { data := #[] })).setCell ⟨q, 8, none⟩ (.int .i64 0)).setCell ⟨q, 9, none⟩ (.int .i64 0)).setCell ⟨q, 10, none⟩ (.slice none 0 0)) = wz at *
          clear b0 z0 f0 b1 z1 f1 b2 z2 f2 b3 z3 f3 b4 z4 f4 b5 z5 f5 b6 z6 f6 b7 z7 f7 b8 z8 f8 b9 z9 f9 b10 z10 f10
          have yc0 := hze.cell 0 _ rfl
          have yc1 := hze.cell 1 _ rfl
          have yc2 := hze.cell 2 _ rfl
          have yc3 := hze.cell 3 _ rfl
          have yc4 := hze.cell 4 _ rfl
          have yc5 := hze.cell 5 _ rfl
          have yc6 := hze.cell 6 _ rfl
          have yc7 := hze.cell 7 _ rfl
          have yc8 := hze.cell 8 _ rfl
          have yc9 := hze.cell 9 _ rfl
          have yc10 := hze.cell 10 _ rfl
          refine bodyPost_ret (v := .tuple #[.agg #[.int .i64 0, .int .i64 0, .int .i64 0, .int .i64 0, .int .i64 0, .int .i64 0, .string { data := #[] }, .string { data := #[] }, .int .i64 0, .int .i64 0, .slice none 0 0], .int .i64 K]) ?_ rfl ⟨none, 0, ?_, ?_, ?_, hxe, fun ad h => by cases h⟩
          · rw [results_cell_tmp rfl]
            go_simp
          · rw [HR.out]; rfl
          · rw [HR.out]; exact hre
          · rw [HR.out]; exact Nat.le_refl _
        · have HR := Lib.hid (show pOp b = (O, 0) by rw [HQ.out, ← HK.out, if_neg (by simp [h1])])
          subst h1
          have hfw : ∀ ad, a1 = some ad → w.heap.size ≤ ad.block := fun ad h => by have := (hr6.base ad h).1; omega
          have z0 := hz6.cell 0 _ rfl
          have z1 := hz6.cell 1 _ rfl
          have z2 := hz6.cell 2 _ rfl
          have z3 := hz6.cell 3 _ rfl
          have z4 := hz6.cell 4 _ rfl
          have z5 := hz6.cell 5 _ rfl
          have z6 := hz6.cell 6 _ rfl
          have z7 := hz6.cell 7 _ rfl
          have z8 := hz6.cell 8 _ rfl
          have z9 := hz6.cell 9 _ rfl
          have z10 := hz6.cell 10 _ rfl
          have f0 := hz6.fr 0
          have f1 := hz6.fr 1
          have f2 := hz6.fr 2
          have f3 := hz6.fr 3
          have f4 := hz6.fr 4
          have f5 := hz6.fr 5
          have f6 := hz6.fr 6
          have f7 := hz6.fr 7
          have f8 := hz6.fr 8
          have f9 := hz6.fr 9
          have f10 := hz6.fr 10
          have xs : Ext (just q) w6 (((((((((((w6.setCell ⟨q, 0, none⟩ (.int .i64 O.dot.dev)).setCell ⟨q, 1, none⟩ (.int .i64 O.dot.ep)).setCell ⟨q, 2, none⟩ (.int .i64 O.dot.seq)).setCell ⟨q, 3, none⟩ (.int .i64 O.coll)).setCell ⟨q, 4, none⟩ (.int .i64 O.ver)).setCell ⟨q, 5, none⟩ (.int .i64 O.kind)).setCell ⟨q, 6, none⟩ (.string (str O.key))).setCell ⟨q, 7, none⟩ (.string (str O.text))).setCell ⟨q, 8, none⟩ (.int .i64 O.n)).setCell ⟨q, 9, none⟩ (.int .i64 O.time)).setCell ⟨q, 10, none⟩ (.slice a1 O.dots.length c6)) := ((((((((((((Ext.refl (just q) w6).comp (Ext.setCell _ ⟨q, 0, none⟩ (.int .i64 O.dot.dev) rfl)).comp (Ext.setCell _ ⟨q, 1, none⟩ (.int .i64 O.dot.ep) rfl)).comp (Ext.setCell _ ⟨q, 2, none⟩ (.int .i64 O.dot.seq) rfl)).comp (Ext.setCell _ ⟨q, 3, none⟩ (.int .i64 O.coll) rfl)).comp (Ext.setCell _ ⟨q, 4, none⟩ (.int .i64 O.ver) rfl)).comp (Ext.setCell _ ⟨q, 5, none⟩ (.int .i64 O.kind) rfl)).comp (Ext.setCell _ ⟨q, 6, none⟩ (.string (str O.key)) rfl)).comp (Ext.setCell _ ⟨q, 7, none⟩ (.string (str O.text)) rfl)).comp (Ext.setCell _ ⟨q, 8, none⟩ (.int .i64 O.n) rfl)).comp (Ext.setCell _ ⟨q, 9, none⟩ (.int .i64 O.time) rfl)).comp (Ext.setCell _ ⟨q, 10, none⟩ (.slice a1 O.dots.length c6) rfl))
          have hze : Blk (((((((((((w6.setCell ⟨q, 0, none⟩ (.int .i64 O.dot.dev)).setCell ⟨q, 1, none⟩ (.int .i64 O.dot.ep)).setCell ⟨q, 2, none⟩ (.int .i64 O.dot.seq)).setCell ⟨q, 3, none⟩ (.int .i64 O.coll)).setCell ⟨q, 4, none⟩ (.int .i64 O.ver)).setCell ⟨q, 5, none⟩ (.int .i64 O.kind)).setCell ⟨q, 6, none⟩ (.string (str O.key))).setCell ⟨q, 7, none⟩ (.string (str O.text))).setCell ⟨q, 8, none⟩ (.int .i64 O.n)).setCell ⟨q, 9, none⟩ (.int .i64 O.time)).setCell ⟨q, 10, none⟩ (.slice a1 O.dots.length c6)) q [.int .i64 O.dot.dev, .int .i64 O.dot.ep, .int .i64 O.dot.seq, .int .i64 O.coll, .int .i64 O.ver, .int .i64 O.kind, .string (str O.key), .string (str O.text), .int .i64 O.n, .int .i64 O.time, .slice a1 O.dots.length c6] := (((((((((((hz6.set 0 (.int .i64 O.dot.dev) (by simp)).set 1 (.int .i64 O.dot.ep) (by simp)).set 2 (.int .i64 O.dot.seq) (by simp)).set 3 (.int .i64 O.coll) (by simp)).set 4 (.int .i64 O.ver) (by simp)).set 5 (.int .i64 O.kind) (by simp)).set 6 (.string (str O.key)) (by simp)).set 7 (.string (str O.text)) (by simp)).set 8 (.int .i64 O.n) (by simp)).set 9 (.int .i64 O.time) (by simp)).set 10 (.slice a1 O.dots.length c6) (by simp))
          have hxe : Ext no w (((((((((((w6.setCell ⟨q, 0, none⟩ (.int .i64 O.dot.dev)).setCell ⟨q, 1, none⟩ (.int .i64 O.dot.ep)).setCell ⟨q, 2, none⟩ (.int .i64 O.dot.seq)).setCell ⟨q, 3, none⟩ (.int .i64 O.coll)).setCell ⟨q, 4, none⟩ (.int .i64 O.ver)).setCell ⟨q, 5, none⟩ (.int .i64 O.kind)).setCell ⟨q, 6, none⟩ (.string (str O.key))).setCell ⟨q, 7, none⟩ (.string (str O.text))).setCell ⟨q, 8, none⟩ (.int .i64 O.n)).setCell ⟨q, 9, none⟩ (.int .i64 O.time)).setCell ⟨q, 10, none⟩ (.slice a1 O.dots.length c6)) := hx.trans xs (fun i hi h => by simp only [Esc.just] at h; omega)
          have hre : Rd (((((((((((w6.setCell ⟨q, 0, none⟩ (.int .i64 O.dot.dev)).setCell ⟨q, 1, none⟩ (.int .i64 O.dot.ep)).setCell ⟨q, 2, none⟩ (.int .i64 O.dot.seq)).setCell ⟨q, 3, none⟩ (.int .i64 O.coll)).setCell ⟨q, 4, none⟩ (.int .i64 O.ver)).setCell ⟨q, 5, none⟩ (.int .i64 O.kind)).setCell ⟨q, 6, none⟩ (.string (str O.key))).setCell ⟨q, 7, none⟩ (.string (str O.text))).setCell ⟨q, 8, none⟩ (.int .i64 O.n)).setCell ⟨q, 9, none⟩ (.int .i64 O.time)).setCell ⟨q, 10, none⟩ (.slice a1 O.dots.length c6)) a1 (ds O.dots) := hr6.rd.ext xs (fun ad h e => by have := (hr6.base ad h).1; simp only [Esc.just] at e; omega)
          go_wp2_with fail
          generalize (((((((((((w6.setCell ⟨q, 0, none⟩ (.int .i64 O.dot.dev)).setCell ⟨q, 1, none⟩ (.int .i64 O.dot.ep)).setCell ⟨q, 2, none⟩ (.int .i64 O.dot.seq)).setCell ⟨q, 3, none⟩ (.int .i64 O.coll)).setCell ⟨q, 4, none⟩ (.int .i64 O.ver)).setCell ⟨q, 5, none⟩ (.int .i64 O.kind)).setCell ⟨q, 6, none⟩ (.string (str O.key))).setCell ⟨q, 7, none⟩ (.string (str O.text))).setCell ⟨q, 8, none⟩ (.int .i64 O.n)).setCell ⟨q, 9, none⟩ (.int .i64 O.time)).setCell ⟨q, 10, none⟩ (.slice a1 O.dots.length c6)) = wz at *
          clear b0 z0 f0 b1 z1 f1 b2 z2 f2 b3 z3 f3 b4 z4 f4 b5 z5 f5 b6 z6 f6 b7 z7 f7 b8 z8 f8 b9 z9 f9 b10 z10 f10
          have yc0 := hze.cell 0 _ rfl
          have yc1 := hze.cell 1 _ rfl
          have yc2 := hze.cell 2 _ rfl
          have yc3 := hze.cell 3 _ rfl
          have yc4 := hze.cell 4 _ rfl
          have yc5 := hze.cell 5 _ rfl
          have yc6 := hze.cell 6 _ rfl
          have yc7 := hze.cell 7 _ rfl
          have yc8 := hze.cell 8 _ rfl
          have yc9 := hze.cell 9 _ rfl
          have yc10 := hze.cell 10 _ rfl
          refine bodyPost_ret (v := .tuple #[.agg #[.int .i64 O.dot.dev, .int .i64 O.dot.ep, .int .i64 O.dot.seq, .int .i64 O.coll, .int .i64 O.ver, .int .i64 O.kind, .string (str O.key), .string (str O.text), .int .i64 O.n, .int .i64 O.time, .slice a1 O.dots.length c6], .int .i64 0]) ?_ rfl ⟨a1, c6, ?_, ?_, ?_, hxe, hfw⟩
          · rw [results_cell_tmp rfl]
            go_simp
          · rw [HR.out]; rfl
          · rw [HR.out]; exact hre
          · rw [HR.out]; exact hr6.nc
end Go.Proofs.Ytfelipkbbefhhaa
