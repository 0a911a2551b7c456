/- Walks of escrowref9: Read. -/
import Derived.Test.YtddobhihjljcgaaGreatOpQ
namespace Go.Proofs.YtddobhihjljcgaaGreat
open Go.RowKit Go.Esc
set_option linter.unusedVariables false
set_option linter.unusedSimpArgs false
theorem rd_nil_of (w : World) (a : Option Addr) : Rd w a (ds []) := Rd.nil _ _
theorem rFail_l (s : RS) (k : Int) : (rFail s k).l = s.l ∧ (rFail s k).e = fails s.e k := by
 unfold rFail fails
 split <;> exact ⟨rfl, rfl⟩
theorem pDots_succ {n : Nat} {s : RS} (h : s.e = 0) : pDots (n + 1) s = ((pDot s).1 :: (pDots n (pDot s).2).1, (pDots n (pDot s).2).2) := by
 rw [pDots, if_neg (by rw [h]; simp)]
set_option maxRecDepth 100000 in
set_option maxHeartbeats 8000000 in
theorem xread_any (w : World) (g : Nat) {a : Option Addr} {c : Nat} {b : List UInt8} (s : RS) (h : XRdr w g a c b s.l s.e) :
  Calls Tryz.prog 87 #[.pointer (some ⟨g, 0, none⟩)] w fun e w' => ∃ a' c', e = .returned ((pRead s).1.v a' c') ∧ Rd w' a' (ds (pRead s).1.dots) ∧ (pRead s).1.dots.length ≤ c' ∧ c' ≤ maxLen ∧ (∀ ad, a' = some ad → w.heap.size ≤ ad.block) ∧ XRdr w' g a c b (pRead s).2.l (pRead s).2.e ∧ Ext (just g) w w' := by
 have hlow : b ≠ [] → ∀ ad, a = some ad → ad.block < w.heap.size := fun hb ad ha => h.rd.low hb ad ha
 have hgl := h.lt
 go_enter Tryz.func87, Tryz.ntmps87
 go_upto_region 1 with fail
 have hz := Blk.lit w #[.int .i64 0, .int .i64 0, .int .i64 0, .int .i64 0, .int .i64 0, .int .i64 0, .string { data := #[] }, .string { data := #[] }, .int .i64 0, .int .i64 0, .slice none 0 0] 62
 have hx1 := Ext.alloc no w (.cells #[.int .i64 0, .int .i64 0, .int .i64 0, .int .i64 0, .int .i64 0, .int .i64 0, .string { data := #[] }, .string { data := #[] }, .int .i64 0, .int .i64 0, .slice none 0 0] 62)
 have h1 := h.no hx1
 have hx := Ext.mono hx1 (S' := just g) (fun _ _ h => h.elim)
 have hs1 : w.heap.size < (w.alloc (.cells #[.int .i64 0, .int .i64 0, .int .i64 0, .int .i64 0, .int .i64 0, .int .i64 0, .string { data := #[] }, .string { data := #[] }, .int .i64 0, .int .i64 0, .slice none 0 0] 62)).heap.size := by simp
 generalize w.alloc (.cells #[.int .i64 0, .int .i64 0, .int .i64 0, .int .i64 0, .int .i64 0, .int .i64 0, .string { data := #[] }, .string { data := #[] }, .int .i64 0, .int .i64 0, .slice none 0 0] 62) = w1 at *
 clear h hx1
 go_wp2_with fail
 refine (xdot_any w1 g s h1).mono ?_
 rintro e w2 ⟨rfl, h2, hx2⟩
 have hz2 := hz.ext (by simp) hx2 (by simp only [Esc.just]; omega)
 replace hx := hx.comp hx2
 have hs2 := hx2.size
 obtain ⟨d, hd⟩ : ∃ n, n = (pDot s).1 := ⟨_, rfl⟩
 obtain ⟨s1, hs1'⟩ : ∃ q, q = (pDot s).2 := ⟨_, rfl⟩
 rw [← hs1'] at h2
 rw [← hd]
 have HND := Lib.hid hd
 have HS1 := Lib.hid hs1'
 clear hd hs1' h1 hz hx2
 unfold DotR.v
 go_upto_region 2 with fail
 have hb2 := Blk.lit w2 #[.int .i64 d.dev, .int .i64 d.ep, .int .i64 d.seq, .int .i64 0, .int .i64 0, .int .i64 0, .string { data := #[] }, .string { data := #[] }, .int .i64 0, .int .i64 0, .slice none 0 0] 62
 have hx3 := Ext.alloc no w2 (.cells #[.int .i64 d.dev, .int .i64 d.ep, .int .i64 d.seq, .int .i64 0, .int .i64 0, .int .i64 0, .string { data := #[] }, .string { data := #[] }, .int .i64 0, .int .i64 0, .slice none 0 0] 62)
 replace h2 := h2.no hx3
 replace hz2 := hz2.ext (by simp) hx3 (fun h => h)
 replace hx := hx.comp (hx3.mono (fun _ _ h => h.elim))
 have hs3 : w2.heap.size < (w2.alloc (.cells #[.int .i64 d.dev, .int .i64 d.ep, .int .i64 d.seq, .int .i64 0, .int .i64 0, .int .i64 0, .string { data := #[] }, .string { data := #[] }, .int .i64 0, .int .i64 0, .slice none 0 0] 62)).heap.size := by simp
 generalize w2.alloc (.cells #[.int .i64 d.dev, .int .i64 d.ep, .int .i64 d.seq, .int .i64 0, .int .i64 0, .int .i64 0, .string { data := #[] }, .string { data := #[] }, .int .i64 0, .int .i64 0, .slice none 0 0] 62) = v1 at *
 clear hx3
 obtain ⟨r, hr⟩ : ∃ r, r = w2.heap.size := ⟨_, rfl⟩
 rw [← hr] at hb2 hs3 hs2 ⊢
 clear hr
 obtain ⟨q, hq⟩ : ∃ q, q = w.heap.size := ⟨_, rfl⟩
 have hlr : b ≠ [] → ∀ ad, a = some ad → ad.block < r := fun hb ad ha => by have := hlow hb ad ha; omega
 have hlq : b ≠ [] → ∀ ad, a = some ad → ad.block < q := fun hb ad ha => by have := hlow hb ad ha; omega
 have hgq : g < q := by omega
 have hqr : q < r := by omega
 have hwq : w.heap.size ≤ q := by omega
 rw [← hq] at hz2 ⊢
 clear hq hlow hs1 hs2
 have hb : Blk v1 r [.int .i64 d.dev, .int .i64 d.ep, .int .i64 d.seq, .int .i64 0, .int .i64 0, .int .i64 0, .string { data := #[] }, .string { data := #[] }, .int .i64 0, .int .i64 0, .slice none 0 0] := hb2
 have hz : Blk v1 q [.int .i64 0, .int .i64 0, .int .i64 0, .int .i64 0, .int .i64 0, .int .i64 0, .string { data := #[] }, .string { data := #[] }, .int .i64 0, .int .i64 0, .slice none 0 0] := hz2
 have h := h2
 clear hb2 hz2 h2
 go_wp2_with fail
 refine (xint_any v1 g s1 h).mono ?_
 rintro e u2 ⟨rfl, h', hx'⟩
 have hb' := hb.ext (by simp) hx' (by simp only [Esc.just]; omega)
 have hz' := hz.ext (by simp) hx' (by simp only [Esc.just]; omega)
 replace hx := hx.comp hx'
 have hs' := hx'.size
 obtain ⟨c1, hn⟩ : ∃ n, n = (rInt s1).1 := ⟨_, rfl⟩
 obtain ⟨s2, hs''⟩ : ∃ q, q = (rInt s1).2 := ⟨_, rfl⟩
 rw [← hs''] at h'
 rw [← hn]
 have HNc1 := Lib.hid hn
 have HS2 := Lib.hid hs''
 clear hn hs'' h hb hz hx'
 have e1 := hb'.cell 3 _ rfl
 have f1 := hb'.fr 3
 go_upto_region 3 with fail
 have hb : Blk (u2.setCell ⟨r, 3, none⟩ (.int .i64 c1)) r [.int .i64 d.dev, .int .i64 d.ep, .int .i64 d.seq, .int .i64 c1, .int .i64 0, .int .i64 0, .string { data := #[] }, .string { data := #[] }, .int .i64 0, .int .i64 0, .slice none 0 0] := hb'.set 3 (.int .i64 c1) (by simp)
 have hz := hz'.other (g := r) (by omega) 3 (.int .i64 c1)
 have h := XRdr.aside h' (Ext.setCell u2 ⟨r, 3, none⟩ (.int .i64 c1) (S := just r) rfl) (by omega) hlr
 replace hx : Ext (just g) w (u2.setCell ⟨r, 3, none⟩ (.int .i64 c1)) := hx.trans (Ext.setCell u2 ⟨r, 3, none⟩ (.int .i64 c1) (S := just r) rfl) (fun i hi h => by simp only [Esc.just] at h; omega)
 have hsv : r < (u2.setCell ⟨r, 3, none⟩ (.int .i64 c1)).heap.size := hb.lt (by simp)
 clear h' hb' hz' e1 f1 hs' hs3
 have hs3 := hsv
 clear hsv
 generalize u2.setCell ⟨r, 3, none⟩ (.int .i64 c1) = v2 at *
 go_wp2_with fail
 refine (xint_any v2 g s2 h).mono ?_
 rintro e u3 ⟨rfl, h', hx'⟩
 have hb' := hb.ext (by simp) hx' (by simp only [Esc.just]; omega)
 have hz' := hz.ext (by simp) hx' (by simp only [Esc.just]; omega)
 replace hx := hx.comp hx'
 have hs' := hx'.size
 obtain ⟨c2, hn⟩ : ∃ n, n = (rInt s2).1 := ⟨_, rfl⟩
 obtain ⟨s3, hs''⟩ : ∃ q, q = (rInt s2).2 := ⟨_, rfl⟩
 rw [← hs''] at h'
 rw [← hn]
 have HNc2 := Lib.hid hn
 have HS3 := Lib.hid hs''
 clear hn hs'' h hb hz hx'
 have e1 := hb'.cell 4 _ rfl
 have f1 := hb'.fr 4
 go_upto_region 4 with fail
 have hb : Blk (u3.setCell ⟨r, 4, none⟩ (.int .i64 c2)) r [.int .i64 d.dev, .int .i64 d.ep, .int .i64 d.seq, .int .i64 c1, .int .i64 c2, .int .i64 0, .string { data := #[] }, .string { data := #[] }, .int .i64 0, .int .i64 0, .slice none 0 0] := hb'.set 4 (.int .i64 c2) (by simp)
 have hz := hz'.other (g := r) (by omega) 4 (.int .i64 c2)
 have h := XRdr.aside h' (Ext.setCell u3 ⟨r, 4, none⟩ (.int .i64 c2) (S := just r) rfl) (by omega) hlr
 replace hx : Ext (just g) w (u3.setCell ⟨r, 4, none⟩ (.int .i64 c2)) := hx.trans (Ext.setCell u3 ⟨r, 4, none⟩ (.int .i64 c2) (S := just r) rfl) (fun i hi h => by simp only [Esc.just] at h; omega)
 have hsv : r < (u3.setCell ⟨r, 4, none⟩ (.int .i64 c2)).heap.size := hb.lt (by simp)
 clear h' hb' hz' e1 f1 hs' hs3
 have hs3 := hsv
 clear hsv
 generalize u3.setCell ⟨r, 4, none⟩ (.int .i64 c2) = v3 at *
 go_wp2_with fail
 refine (xint_any v3 g s3 h).mono ?_
 rintro e u4 ⟨rfl, h', hx'⟩
 have hb' := hb.ext (by simp) hx' (by simp only [Esc.just]; omega)
 have hz' := hz.ext (by simp) hx' (by simp only [Esc.just]; omega)
 replace hx := hx.comp hx'
 have hs' := hx'.size
 obtain ⟨c3, hn⟩ : ∃ n, n = (rInt s3).1 := ⟨_, rfl⟩
 obtain ⟨s4, hs''⟩ : ∃ q, q = (rInt s3).2 := ⟨_, rfl⟩
 rw [← hs''] at h'
 rw [← hn]
 have HNc3 := Lib.hid hn
 have HS4 := Lib.hid hs''
 clear hn hs'' h hb hz hx'
 have e1 := hb'.cell 5 _ rfl
 have f1 := hb'.fr 5
 go_upto_region 5 with fail
 have hb : Blk (u4.setCell ⟨r, 5, none⟩ (.int .i64 c3)) r [.int .i64 d.dev, .int .i64 d.ep, .int .i64 d.seq, .int .i64 c1, .int .i64 c2, .int .i64 c3, .string { data := #[] }, .string { data := #[] }, .int .i64 0, .int .i64 0, .slice none 0 0] := hb'.set 5 (.int .i64 c3) (by simp)
 have hz := hz'.other (g := r) (by omega) 5 (.int .i64 c3)
 have h := XRdr.aside h' (Ext.setCell u4 ⟨r, 5, none⟩ (.int .i64 c3) (S := just r) rfl) (by omega) hlr
 replace hx : Ext (just g) w (u4.setCell ⟨r, 5, none⟩ (.int .i64 c3)) := hx.trans (Ext.setCell u4 ⟨r, 5, none⟩ (.int .i64 c3) (S := just r) rfl) (fun i hi h => by simp only [Esc.just] at h; omega)
 have hsv : r < (u4.setCell ⟨r, 5, none⟩ (.int .i64 c3)).heap.size := hb.lt (by simp)
 clear h' hb' hz' e1 f1 hs' hs3
 have hs3 := hsv
 clear hsv
 generalize u4.setCell ⟨r, 5, none⟩ (.int .i64 c3) = v4 at *
 go_wp2_with fail
 refine (xint_any v4 g s4 h).mono ?_
 rintro e u5 ⟨rfl, h', hx'⟩
 have hb' := hb.ext (by simp) hx' (by simp only [Esc.just]; omega)
 have hz' := hz.ext (by simp) hx' (by simp only [Esc.just]; omega)
 replace hx := hx.comp hx'
 have hs' := hx'.size
 obtain ⟨c4, hn⟩ : ∃ n, n = (rInt s4).1 := ⟨_, rfl⟩
 obtain ⟨s5, hs''⟩ : ∃ q, q = (rInt s4).2 := ⟨_, rfl⟩
 rw [← hs''] at h'
 rw [← hn]
 have HNc4 := Lib.hid hn
 have HS5 := Lib.hid hs''
 clear hn hs'' h hb hz hx'
 have e1 := hb'.cell 9 _ rfl
 have f1 := hb'.fr 9
 go_upto_region 6 with fail
 have hb : Blk (u5.setCell ⟨r, 9, none⟩ (.int .i64 c4)) r [.int .i64 d.dev, .int .i64 d.ep, .int .i64 d.seq, .int .i64 c1, .int .i64 c2, .int .i64 c3, .string { data := #[] }, .string { data := #[] }, .int .i64 0, .int .i64 c4, .slice none 0 0] := hb'.set 9 (.int .i64 c4) (by simp)
 have hz := hz'.other (g := r) (by omega) 9 (.int .i64 c4)
 have h := XRdr.aside h' (Ext.setCell u5 ⟨r, 9, none⟩ (.int .i64 c4) (S := just r) rfl) (by omega) hlr
 replace hx : Ext (just g) w (u5.setCell ⟨r, 9, none⟩ (.int .i64 c4)) := hx.trans (Ext.setCell u5 ⟨r, 9, none⟩ (.int .i64 c4) (S := just r) rfl) (fun i hi h => by simp only [Esc.just] at h; omega)
 have hsv : r < (u5.setCell ⟨r, 9, none⟩ (.int .i64 c4)).heap.size := hb.lt (by simp)
 clear h' hb' hz' e1 f1 hs' hs3
 have hs3 := hsv
 clear hsv
 generalize u5.setCell ⟨r, 9, none⟩ (.int .i64 c4) = v5 at *
 go_wp2_with fail
 refine (xtext_any v5 g s5 h).mono ?_
 rintro e u6 ⟨rfl, h', hx'⟩
 have hb' := hb.ext (by simp) hx' (by simp only [Esc.just]; omega)
 have hz' := hz.ext (by simp) hx' (by simp only [Esc.just]; omega)
 replace hx := hx.comp hx'
 have hs' := hx'.size
 obtain ⟨y1, hn⟩ : ∃ n, n = (rText s5).1 := ⟨_, rfl⟩
 obtain ⟨s6, hs''⟩ : ∃ q, q = (rText s5).2 := ⟨_, rfl⟩
 rw [← hs''] at h'
 rw [← hn]
 have HNy1 := Lib.hid hn
 have HS6 := Lib.hid hs''
 clear hn hs'' h hb hz hx'
 have e1 := hb'.cell 6 _ rfl
 have f1 := hb'.fr 6
 go_upto_region 7 with fail
 have hb : Blk (u6.setCell ⟨r, 6, none⟩ (.string (str y1))) r [.int .i64 d.dev, .int .i64 d.ep, .int .i64 d.seq, .int .i64 c1, .int .i64 c2, .int .i64 c3, .string (str y1), .string { data := #[] }, .int .i64 0, .int .i64 c4, .slice none 0 0] := hb'.set 6 (.string (str y1)) (by simp)
 have hz := hz'.other (g := r) (by omega) 6 (.string (str y1))
 have h := XRdr.aside h' (Ext.setCell u6 ⟨r, 6, none⟩ (.string (str y1)) (S := just r) rfl) (by omega) hlr
 replace hx : Ext (just g) w (u6.setCell ⟨r, 6, none⟩ (.string (str y1))) := hx.trans (Ext.setCell u6 ⟨r, 6, none⟩ (.string (str y1)) (S := just r) rfl) (fun i hi h => by simp only [Esc.just] at h; omega)
 have hsv : r < (u6.setCell ⟨r, 6, none⟩ (.string (str y1))).heap.size := hb.lt (by simp)
 clear h' hb' hz' e1 f1 hs' hs3
 have hs3 := hsv
 clear hsv
 generalize u6.setCell ⟨r, 6, none⟩ (.string (str y1)) = v6 at *
 go_wp2_with fail
 refine (xtext_any v6 g s6 h).mono ?_
 rintro e u7 ⟨rfl, h', hx'⟩
 have hb' := hb.ext (by simp) hx' (by simp only [Esc.just]; omega)
 have hz' := hz.ext (by simp) hx' (by simp only [Esc.just]; omega)
 replace hx := hx.comp hx'
 have hs' := hx'.size
 obtain ⟨y2, hn⟩ : ∃ n, n = (rText s6).1 := ⟨_, rfl⟩
 obtain ⟨s7, hs''⟩ : ∃ q, q = (rText s6).2 := ⟨_, rfl⟩
 rw [← hs''] at h'
 rw [← hn]
 have HNy2 := Lib.hid hn
 have HS7 := Lib.hid hs''
 clear hn hs'' h hb hz hx'
 have e1 := hb'.cell 7 _ rfl
 have f1 := hb'.fr 7
 go_upto_region 8 with fail
 have hb : Blk (u7.setCell ⟨r, 7, none⟩ (.string (str y2))) r [.int .i64 d.dev, .int .i64 d.ep, .int .i64 d.seq, .int .i64 c1, .int .i64 c2, .int .i64 c3, .string (str y1), .string (str y2), .int .i64 0, .int .i64 c4, .slice none 0 0] := hb'.set 7 (.string (str y2)) (by simp)
 have hz := hz'.other (g := r) (by omega) 7 (.string (str y2))
 have h := XRdr.aside h' (Ext.setCell u7 ⟨r, 7, none⟩ (.string (str y2)) (S := just r) rfl) (by omega) hlr
 replace hx : Ext (just g) w (u7.setCell ⟨r, 7, none⟩ (.string (str y2))) := hx.trans (Ext.setCell u7 ⟨r, 7, none⟩ (.string (str y2)) (S := just r) rfl) (fun i hi h => by simp only [Esc.just] at h; omega)
 have hsv : r < (u7.setCell ⟨r, 7, none⟩ (.string (str y2))).heap.size := hb.lt (by simp)
 clear h' hb' hz' e1 f1 hs' hs3
 have hs3 := hsv
 clear hsv
 generalize u7.setCell ⟨r, 7, none⟩ (.string (str y2)) = v7 at *
 go_wp2_with fail
 refine (xint_any v7 g s7 h).mono ?_
 rintro e u8 ⟨rfl, h', hx'⟩
 have hb' := hb.ext (by simp) hx' (by simp only [Esc.just]; omega)
 have hz' := hz.ext (by simp) hx' (by simp only [Esc.just]; omega)
 replace hx := hx.comp hx'
 have hs' := hx'.size
 obtain ⟨c5, hn⟩ : ∃ n, n = (rInt s7).1 := ⟨_, rfl⟩
 obtain ⟨s8, hs''⟩ : ∃ q, q = (rInt s7).2 := ⟨_, rfl⟩
 rw [← hs''] at h'
 rw [← hn]
 have HNc5 := Lib.hid hn
 have HS8 := Lib.hid hs''
 clear hn hs'' h hb hz hx'
 have e1 := hb'.cell 8 _ rfl
 have f1 := hb'.fr 8
 go_upto_region 9 with fail
 have hb : Blk (u8.setCell ⟨r, 8, none⟩ (.int .i64 c5)) r [.int .i64 d.dev, .int .i64 d.ep, .int .i64 d.seq, .int .i64 c1, .int .i64 c2, .int .i64 c3, .string (str y1), .string (str y2), .int .i64 c5, .int .i64 c4, .slice none 0 0] := hb'.set 8 (.int .i64 c5) (by simp)
 have hz := hz'.other (g := r) (by omega) 8 (.int .i64 c5)
 have h := XRdr.aside h' (Ext.setCell u8 ⟨r, 8, none⟩ (.int .i64 c5) (S := just r) rfl) (by omega) hlr
 replace hx : Ext (just g) w (u8.setCell ⟨r, 8, none⟩ (.int .i64 c5)) := hx.trans (Ext.setCell u8 ⟨r, 8, none⟩ (.int .i64 c5) (S := just r) rfl) (fun i hi h => by simp only [Esc.just] at h; omega)
 have hsv : r < (u8.setCell ⟨r, 8, none⟩ (.int .i64 c5)).heap.size := hb.lt (by simp)
 clear h' hb' hz' e1 f1 hs' hs3
 have hs3 := hsv
 clear hsv
 generalize u8.setCell ⟨r, 8, none⟩ (.int .i64 c5) = v8 at *
 go_wp2_with fail
 refine (xint_any v8 g s8 h).mono ?_
 rintro e u ⟨rfl, h', hx'⟩
 have hb' := hb.ext (by simp) hx' (by simp only [Esc.just]; omega)
 have hz' := hz.ext (by simp) hx' (by simp only [Esc.just]; omega)
 replace hx := hx.comp hx'
 obtain ⟨n, hn⟩ : ∃ n, n = (rInt s8).1 := ⟨_, rfl⟩
 obtain ⟨t, ht⟩ : ∃ q, q = (rInt s8).2 := ⟨_, rfl⟩
 rw [← ht] at h'
 rw [← hn]
 have HP := Lib.hid (show pHead s = (⟨d, c1, c2, c3, y1, y2, c5, c4, []⟩, n, t) by
  unfold pHead
  simp only [← HND.out, ← HS1.out, ← HNc1.out, ← HS2.out, ← HNc2.out, ← HS3.out, ← HNc3.out, ← HS4.out, ← HNc4.out, ← HS5.out, ← HNy1.out, ← HS6.out, ← HNy2.out, ← HS7.out, ← HNc5.out, ← HS8.out, ← hn, ← ht])
 clear hn ht HND HS1 HNc1 HS2 HNc2 HS3 HNc3 HS4 HNc4 HS5 HNy1 HS6 HNy2 HS7 HNc5 HS8 hx' h hb hz
 have hs := hb'.lt (by simp)
 go_upto_region 10 with fail
 by_cases hbad : pBad n
 ·have hF := rFail_l t 4
  have hte : (rFail t 4).e ≠ 0 := by
   rw [hF.2]; unfold fails; split
   ·decide
   ·assumption
  have HR := Lib.hid (show pRead s = (⟨d, c1, c2, c3, y1, y2, c5, c4, []⟩, rFail t 4) by
   unfold pRead
   rw [HP.out]
   simp only [if_pos hbad]
   rfl)
  rw [← hF.1] at h'
  clear hF
  by_cases hlo : n < 0
  ·have d1 : decide (n < 0) = true := decT hlo
   have d2 : decide ((0 : Int) < n) = false := decF (by omega)
   clear hlo hbad
   go_wp2_with fail
   --<X
   refine (xfail_any u g (rFail t 4).l t.e 4 h').mono ?_
   rintro e v ⟨rfl, h2, hx2⟩
   have h : XRdr v g a c b (rFail t 4).l (rFail t 4).e := by rw [(rFail_l t 4).2]; exact h2
   have hb := hb'.ext (by simp) hx2 (by simp only [Esc.just]; omega)
   have hz := hz'.ext (by simp) hx2 (by simp only [Esc.just]; omega)
   replace hx := hx.comp hx2
   clear h2 hx2 hb' hz' h'
   generalize rFail t 4 = t4 at *
   go_wp2_with fail
   go_loopw [5] (fun s5 wr => s5 = .int .i64 0 ∧ wr = v) (fun _ _ => 0)
   case atStart => exact ⟨rfl, rfl⟩
   case round =>
    obtain ⟨rfl, rfl⟩ := hrel
    generalize wr = v at *
    have b0 := hb.cell 0 _ rfl
    have b1 := hb.cell 1 _ rfl
    have b2 := hb.cell 2 _ rfl
    have b3 := hb.cell 3 _ rfl
    have b4 := hb.cell 4 _ rfl
    have b5 := hb.cell 5 _ rfl
    have b6 := hb.cell 6 _ rfl
    have b7 := hb.cell 7 _ rfl
    have b8 := hb.cell 8 _ rfl
    have b9 := hb.cell 9 _ rfl
    have b10 := hb.cell 10 _ rfl
    have z0 := hz.cell 0 _ rfl
    have z1 := hz.cell 1 _ rfl
    have z2 := hz.cell 2 _ rfl
    have z3 := hz.cell 3 _ rfl
    have z4 := hz.cell 4 _ rfl
    have z5 := hz.cell 5 _ rfl
    have z6 := hz.cell 6 _ rfl
    have z7 := hz.cell 7 _ rfl
    have z8 := hz.cell 8 _ rfl
    have z9 := hz.cell 9 _ rfl
    have z10 := hz.cell 10 _ rfl
    have f0 := hz.fr 0
    have f1 := hz.fr 1
    have f2 := hz.fr 2
    have f3 := hz.fr 3
    have f4 := hz.fr 4
    have f5 := hz.fr 5
    have f6 := hz.fr 6
    have f7 := hz.fr 7
    have f8 := hz.fr 8
    have f9 := hz.fr 9
    have f10 := hz.fr 10
    have xs : Ext (just q) v (((((((((((v.setCell ⟨q, 0, none⟩ (.int .i64 d.dev)).setCell ⟨q, 1, none⟩ (.int .i64 d.ep)).setCell ⟨q, 2, none⟩ (.int .i64 d.seq)).setCell ⟨q, 3, none⟩ (.int .i64 c1)).setCell ⟨q, 4, none⟩ (.int .i64 c2)).setCell ⟨q, 5, none⟩ (.int .i64 c3)).setCell ⟨q, 6, none⟩ (.string (str y1))).setCell ⟨q, 7, none⟩ (.string (str y2))).setCell ⟨q, 8, none⟩ (.int .i64 c5)).setCell ⟨q, 9, none⟩ (.int .i64 c4)).setCell ⟨q, 10, none⟩ (.slice none 0 0)) := ((((((((((((Ext.refl (just q) v).comp (Ext.setCell _ ⟨q, 0, none⟩ (.int .i64 d.dev) rfl)).comp (Ext.setCell _ ⟨q, 1, none⟩ (.int .i64 d.ep) rfl)).comp (Ext.setCell _ ⟨q, 2, none⟩ (.int .i64 d.seq) rfl)).comp (Ext.setCell _ ⟨q, 3, none⟩ (.int .i64 c1) rfl)).comp (Ext.setCell _ ⟨q, 4, none⟩ (.int .i64 c2) rfl)).comp (Ext.setCell _ ⟨q, 5, none⟩ (.int .i64 c3) rfl)).comp (Ext.setCell _ ⟨q, 6, none⟩ (.string (str y1)) rfl)).comp (Ext.setCell _ ⟨q, 7, none⟩ (.string (str y2)) rfl)).comp (Ext.setCell _ ⟨q, 8, none⟩ (.int .i64 c5) rfl)).comp (Ext.setCell _ ⟨q, 9, none⟩ (.int .i64 c4) rfl)).comp (Ext.setCell _ ⟨q, 10, none⟩ (.slice none 0 0) rfl))
    have hze : Blk (((((((((((v.setCell ⟨q, 0, none⟩ (.int .i64 d.dev)).setCell ⟨q, 1, none⟩ (.int .i64 d.ep)).setCell ⟨q, 2, none⟩ (.int .i64 d.seq)).setCell ⟨q, 3, none⟩ (.int .i64 c1)).setCell ⟨q, 4, none⟩ (.int .i64 c2)).setCell ⟨q, 5, none⟩ (.int .i64 c3)).setCell ⟨q, 6, none⟩ (.string (str y1))).setCell ⟨q, 7, none⟩ (.string (str y2))).setCell ⟨q, 8, none⟩ (.int .i64 c5)).setCell ⟨q, 9, none⟩ (.int .i64 c4)).setCell ⟨q, 10, none⟩ (.slice none 0 0)) q [.int .i64 d.dev, .int .i64 d.ep, .int .i64 d.seq, .int .i64 c1, .int .i64 c2, .int .i64 c3, .string (str y1), .string (str y2), .int .i64 c5, .int .i64 c4, .slice none 0 0] := (((((((((((hz.set 0 (.int .i64 d.dev) (by simp)).set 1 (.int .i64 d.ep) (by simp)).set 2 (.int .i64 d.seq) (by simp)).set 3 (.int .i64 c1) (by simp)).set 4 (.int .i64 c2) (by simp)).set 5 (.int .i64 c3) (by simp)).set 6 (.string (str y1)) (by simp)).set 7 (.string (str y2)) (by simp)).set 8 (.int .i64 c5) (by simp)).set 9 (.int .i64 c4) (by simp)).set 10 (.slice none 0 0) (by simp))
    have hXe := XRdr.aside h xs (by omega) hlq
    have hxe := hx.trans xs (fun i hi h => by simp only [Esc.just] at h; omega)
    have hre : Rd (((((((((((v.setCell ⟨q, 0, none⟩ (.int .i64 d.dev)).setCell ⟨q, 1, none⟩ (.int .i64 d.ep)).setCell ⟨q, 2, none⟩ (.int .i64 d.seq)).setCell ⟨q, 3, none⟩ (.int .i64 c1)).setCell ⟨q, 4, none⟩ (.int .i64 c2)).setCell ⟨q, 5, none⟩ (.int .i64 c3)).setCell ⟨q, 6, none⟩ (.string (str y1))).setCell ⟨q, 7, none⟩ (.string (str y2))).setCell ⟨q, 8, none⟩ (.int .i64 c5)).setCell ⟨q, 9, none⟩ (.int .i64 c4)).setCell ⟨q, 10, none⟩ (.slice none 0 0)) none (ds ([] : List DotR)) := rd_nil_of _ _
    have hfz : ∀ ad, (none : Option Addr) = some ad → w.heap.size ≤ ad.block := fun ad h => by cases h
    go_wp2_with fail
    generalize (((((((((((v.setCell ⟨q, 0, none⟩ (.int .i64 d.dev)).setCell ⟨q, 1, none⟩ (.int .i64 d.ep)).setCell ⟨q, 2, none⟩ (.int .i64 d.seq)).setCell ⟨q, 3, none⟩ (.int .i64 c1)).setCell ⟨q, 4, none⟩ (.int .i64 c2)).setCell ⟨q, 5, none⟩ (.int .i64 c3)).setCell ⟨q, 6, none⟩ (.string (str y1))).setCell ⟨q, 7, none⟩ (.string (str y2))).setCell ⟨q, 8, none⟩ (.int .i64 c5)).setCell ⟨q, 9, none⟩ (.int .i64 c4)).setCell ⟨q, 10, none⟩ (.slice none 0 0)) = wz at *
    clear b0 z0 f0 b1 z1 f1 b2 z2 f2 b3 z3 f3 b4 z4 f4 b5 z5 f5 b6 z6 f6 b7 z7 f7 b8 z8 f8 b9 z9 f9 b10 z10 f10
    have yc0 := hze.cell 0 _ rfl
    have yc1 := hze.cell 1 _ rfl
    have yc2 := hze.cell 2 _ rfl
    have yc3 := hze.cell 3 _ rfl
    have yc4 := hze.cell 4 _ rfl
    have yc5 := hze.cell 5 _ rfl
    have yc6 := hze.cell 6 _ rfl
    have yc7 := hze.cell 7 _ rfl
    have yc8 := hze.cell 8 _ rfl
    have yc9 := hze.cell 9 _ rfl
    have yc10 := hze.cell 10 _ rfl
    refine bodyPost_ret (v := .agg #[.int .i64 d.dev, .int .i64 d.ep, .int .i64 d.seq, .int .i64 c1, .int .i64 c2, .int .i64 c3, .string (str y1), .string (str y2), .int .i64 c5, .int .i64 c4, .slice none 0 0]) ?_ rfl ⟨none, 0, ?_, ?_, ?_, ?_, ?_, ?_, hxe⟩
    ·rw [results_cell1 rfl]
     go_simp
    ·rw [HR.out]; rfl
    ·rw [HR.out]; exact hre
    ·rw [HR.out]; exact Nat.le_refl _
    ·exact Nat.zero_le _
    ·exact hfz
    ·rw [HR.out]; exact hXe
   -->X
  ·have d1 : decide (n < 0) = false := decF hlo
   have d3 : decide ((8 : Int) < n) = true := decT (by unfold pBad at hbad; omega)
   have d2 : decide ((0 : Int) < n) = true := decT (by unfold pBad at hbad; omega)
   clear hlo hbad
   go_wp2_with fail
   --<Y
   refine (xfail_any u g (rFail t 4).l t.e 4 h').mono ?_
   rintro e v ⟨rfl, h2, hx2⟩
   have h : XRdr v g a c b (rFail t 4).l (rFail t 4).e := by rw [(rFail_l t 4).2]; exact h2
   have hb := hb'.ext (by simp) hx2 (by simp only [Esc.just]; omega)
   have hz := hz'.ext (by simp) hx2 (by simp only [Esc.just]; omega)
   replace hx := hx.comp hx2
   clear h2 hx2 hb' hz' h'
   generalize rFail t 4 = t4 at *
   have her := h.err
   have e2 : (t4.e == (0 : Int)) = false := by rw [beq_eq_false_iff_ne]; exact hte
   go_wp2_with fail
   go_loopw [5] (fun s5 wr => s5 = .int .i64 0 ∧ wr = v) (fun _ _ => 0)
   case atStart => exact ⟨rfl, rfl⟩
   case round =>
    obtain ⟨rfl, rfl⟩ := hrel
    generalize wr = v at *
    have b0 := hb.cell 0 _ rfl
    have b1 := hb.cell 1 _ rfl
    have b2 := hb.cell 2 _ rfl
    have b3 := hb.cell 3 _ rfl
    have b4 := hb.cell 4 _ rfl
    have b5 := hb.cell 5 _ rfl
    have b6 := hb.cell 6 _ rfl
    have b7 := hb.cell 7 _ rfl
    have b8 := hb.cell 8 _ rfl
    have b9 := hb.cell 9 _ rfl
    have b10 := hb.cell 10 _ rfl
    have z0 := hz.cell 0 _ rfl
    have z1 := hz.cell 1 _ rfl
    have z2 := hz.cell 2 _ rfl
    have z3 := hz.cell 3 _ rfl
    have z4 := hz.cell 4 _ rfl
    have z5 := hz.cell 5 _ rfl
    have z6 := hz.cell 6 _ rfl
    have z7 := hz.cell 7 _ rfl
    have z8 := hz.cell 8 _ rfl
    have z9 := hz.cell 9 _ rfl
    have z10 := hz.cell 10 _ rfl
    have f0 := hz.fr 0
    have f1 := hz.fr 1
    have f2 := hz.fr 2
    have f3 := hz.fr 3
    have f4 := hz.fr 4
    have f5 := hz.fr 5
    have f6 := hz.fr 6
    have f7 := hz.fr 7
    have f8 := hz.fr 8
    have f9 := hz.fr 9
    have f10 := hz.fr 10
    have xs : Ext (just q) v (((((((((((v.setCell ⟨q, 0, none⟩ (.int .i64 d.dev)).setCell ⟨q, 1, none⟩ (.int .i64 d.ep)).setCell ⟨q, 2, none⟩ (.int .i64 d.seq)).setCell ⟨q, 3, none⟩ (.int .i64 c1)).setCell ⟨q, 4, none⟩ (.int .i64 c2)).setCell ⟨q, 5, none⟩ (.int .i64 c3)).setCell ⟨q, 6, none⟩ (.string (str y1))).setCell ⟨q, 7, none⟩ (.string (str y2))).setCell ⟨q, 8, none⟩ (.int .i64 c5)).setCell ⟨q, 9, none⟩ (.int .i64 c4)).setCell ⟨q, 10, none⟩ (.slice none 0 0)) := ((((((((((((Ext.refl (just q) v).comp (Ext.setCell _ ⟨q, 0, none⟩ (.int .i64 d.dev) rfl)).comp (Ext.setCell _ ⟨q, 1, none⟩ (.int .i64 d.ep) rfl)).comp (Ext.setCell _ ⟨q, 2, none⟩ (.int .i64 d.seq) rfl)).comp (Ext.setCell _ ⟨q, 3, none⟩ (.int .i64 c1) rfl)).comp (Ext.setCell _ ⟨q, 4, none⟩ (.int .i64 c2) rfl)).comp (Ext.setCell _ ⟨q, 5, none⟩ (.int .i64 c3) rfl)).comp (Ext.setCell _ ⟨q, 6, none⟩ (.string (str y1)) rfl)).comp (Ext.setCell _ ⟨q, 7, none⟩ (.string (str y2)) rfl)).comp (Ext.setCell _ ⟨q, 8, none⟩ (.int .i64 c5) rfl)).comp (Ext.setCell _ ⟨q, 9, none⟩ (.int .i64 c4) rfl)).comp (Ext.setCell _ ⟨q, 10, none⟩ (.slice none 0 0) rfl))
    have hze : Blk (((((((((((v.setCell ⟨q, 0, none⟩ (.int .i64 d.dev)).setCell ⟨q, 1, none⟩ (.int .i64 d.ep)).setCell ⟨q, 2, none⟩ (.int .i64 d.seq)).setCell ⟨q, 3, none⟩ (.int .i64 c1)).setCell ⟨q, 4, none⟩ (.int .i64 c2)).setCell ⟨q, 5, none⟩ (.int .i64 c3)).setCell ⟨q, 6, none⟩ (.string (str y1))).setCell ⟨q, 7, none⟩ (.string (str y2))).setCell ⟨q, 8, none⟩ (.int .i64 c5)).setCell ⟨q, 9, none⟩ (.int .i64 c4)).setCell ⟨q, 10, none⟩ (.slice none 0 0)) q [.int .i64 d.dev, .int .i64 d.ep, .int .i64 d.seq, .int .i64 c1, .int .i64 c2, .int .i64 c3, .string (str y1), .string (str y2), .int .i64 c5, .int .i64 c4, .slice none 0 0] := (((((((((((hz.set 0 (.int .i64 d.dev) (by simp)).set 1 (.int .i64 d.ep) (by simp)).set 2 (.int .i64 d.seq) (by simp)).set 3 (.int .i64 c1) (by simp)).set 4 (.int .i64 c2) (by simp)).set 5 (.int .i64 c3) (by simp)).set 6 (.string (str y1)) (by simp)).set 7 (.string (str y2)) (by simp)).set 8 (.int .i64 c5) (by simp)).set 9 (.int .i64 c4) (by simp)).set 10 (.slice none 0 0) (by simp))
    have hXe := XRdr.aside h xs (by omega) hlq
    have hxe := hx.trans xs (fun i hi h => by simp only [Esc.just] at h; omega)
    have hre : Rd (((((((((((v.setCell ⟨q, 0, none⟩ (.int .i64 d.dev)).setCell ⟨q, 1, none⟩ (.int .i64 d.ep)).setCell ⟨q, 2, none⟩ (.int .i64 d.seq)).setCell ⟨q, 3, none⟩ (.int .i64 c1)).setCell ⟨q, 4, none⟩ (.int .i64 c2)).setCell ⟨q, 5, none⟩ (.int .i64 c3)).setCell ⟨q, 6, none⟩ (.string (str y1))).setCell ⟨q, 7, none⟩ (.string (str y2))).setCell ⟨q, 8, none⟩ (.int .i64 c5)).setCell ⟨q, 9, none⟩ (.int .i64 c4)).setCell ⟨q, 10, none⟩ (.slice none 0 0)) none (ds ([] : List DotR)) := rd_nil_of _ _
    have hfz : ∀ ad, (none : Option Addr) = some ad → w.heap.size ≤ ad.block := fun ad h => by cases h
    go_wp2_with fail
    generalize (((((((((((v.setCell ⟨q, 0, none⟩ (.int .i64 d.dev)).setCell ⟨q, 1, none⟩ (.int .i64 d.ep)).setCell ⟨q, 2, none⟩ (.int .i64 d.seq)).setCell ⟨q, 3, none⟩ (.int .i64 c1)).setCell ⟨q, 4, none⟩ (.int .i64 c2)).setCell ⟨q, 5, none⟩ (.int .i64 c3)).setCell ⟨q, 6, none⟩ (.string (str y1))).setCell ⟨q, 7, none⟩ (.string (str y2))).setCell ⟨q, 8, none⟩ (.int .i64 c5)).setCell ⟨q, 9, none⟩ (.int .i64 c4)).setCell ⟨q, 10, none⟩ (.slice none 0 0)) = wz at *
    clear b0 z0 f0 b1 z1 f1 b2 z2 f2 b3 z3 f3 b4 z4 f4 b5 z5 f5 b6 z6 f6 b7 z7 f7 b8 z8 f8 b9 z9 f9 b10 z10 f10
    have yc0 := hze.cell 0 _ rfl
    have yc1 := hze.cell 1 _ rfl
    have yc2 := hze.cell 2 _ rfl
    have yc3 := hze.cell 3 _ rfl
    have yc4 := hze.cell 4 _ rfl
    have yc5 := hze.cell 5 _ rfl
    have yc6 := hze.cell 6 _ rfl
    have yc7 := hze.cell 7 _ rfl
    have yc8 := hze.cell 8 _ rfl
    have yc9 := hze.cell 9 _ rfl
    have yc10 := hze.cell 10 _ rfl
    refine bodyPost_ret (v := .agg #[.int .i64 d.dev, .int .i64 d.ep, .int .i64 d.seq, .int .i64 c1, .int .i64 c2, .int .i64 c3, .string (str y1), .string (str y2), .int .i64 c5, .int .i64 c4, .slice none 0 0]) ?_ rfl ⟨none, 0, ?_, ?_, ?_, ?_, ?_, ?_, hxe⟩
    ·rw [results_cell1 rfl]
     go_simp
    ·rw [HR.out]; rfl
    ·rw [HR.out]; exact hre
    ·rw [HR.out]; exact Nat.le_refl _
    ·exact Nat.zero_le _
    ·exact hfz
    ·rw [HR.out]; exact hXe
   -->Y
 ·obtain ⟨M, hM⟩ : ∃ M : Nat, n = (M : Int) := ⟨n.toNat, by unfold pBad at hbad; omega⟩
  have hM8 : M ≤ 8 := by unfold pBad at hbad; omega
  have HR0 := Lib.hid (show pRead s = ({ (⟨d, c1, c2, c3, y1, y2, c5, c4, []⟩ : OpR) with dots := (pDots M t).1 }, (pDots M t).2) by
   unfold pRead
   rw [HP.out]
   simp only [if_neg hbad]
   rw [hM, Int.toNat_natCast])
  subst hM
  have d1 : decide ((M : Int) < 0) = false := decF (by omega)
  have d3 : decide ((8 : Int) < (M : Int)) = false := decF (by omega)
  clear hbad
  go_wp2_with fail
  go_loopw [5] (fun s5 wr => ∃ (i : Nat) (D : List DotR) (a' : Option Addr) (c' : Nat) (sr : RS), i ≤ M ∧ s5 = .int .i64 i ∧ D.length = i ∧ pDots M t = (D ++ (pDots (M - i) sr).1, (pDots (M - i) sr).2) ∧ XRdr wr g a c b sr.l sr.e ∧ Blk wr r [.int .i64 d.dev, .int .i64 d.ep, .int .i64 d.seq, .int .i64 c1, .int .i64 c2, .int .i64 c3, .string (str y1), .string (str y2), .int .i64 c5, .int .i64 c4, .slice a' D.length c'] ∧ Blk wr q [.int .i64 0, .int .i64 0, .int .i64 0, .int .i64 0, .int .i64 0, .int .i64 0, .string { data := #[] }, .string { data := #[] }, .int .i64 0, .int .i64 0, .slice none 0 0] ∧ Own wr (r + 1) a' 3 D.length c' (ds D) ∧ Ext (just g) w wr) (fun s5 _ => M - (intOf s5).toNat)
  case atStart => exact ⟨0, [], none, 0, t, by omega, rfl, rfl, by simp, h', hb', hz', Own.nil _ _ _, hx⟩
  case round =>
   clear h' hb' hz' hx hs
   obtain ⟨i, D, a1, c6, sr, hi, rfl, hDl, hpd, h, hb, hz, hown, hx⟩ := hrel
   have HD := Lib.hid hDl
   have HPD := Lib.hid hpd
   clear hDl hpd
   have her := h.err
   have hs := hb.lt (by simp)
   by_cases hiM : i < M
   ·have e1 : decide (i < M) = true := decT hiM
    by_cases he0 : sr.e = 0
    ·have e2 : (sr.e == (0 : Int)) = true := by rw [beq_iff_eq]; exact he0
     have HPS := Lib.hid (show pDots (M - i) sr = ((pDot sr).1 :: (pDots (M - (i + 1)) (pDot sr).2).1, (pDots (M - (i + 1)) (pDot sr).2).2) by
      rw [show M - i = (M - (i + 1)) + 1 by omega, pDots_succ he0])
     clear he0
     have c10 := hb.cell 10 _ rfl
     go_upto_region 15 with fail
     --<L
     refine wp_region_F [1] (looks [(1, fun z => z.cell? ⟨r, 10, none⟩ = some (.slice a1 D.length c6))]) (by kernel_rfl) ?_
     have hT0 : ∀ k, looks [(1, fun z => z.cell? ⟨r, 10, none⟩ = some (.slice a1 D.length c6))] k (wr.drew) := looks_all ⟨c10, trivial⟩
     refine wpF_tk 0 (v := ?_) rfl hT0 (by rfl) ?_ ?_
     rotate_left
     ·(intro wq; go_simp; try with_reducible rfl)
     simp only [pz]
     refine wpF_lk 1 (v := .slice a1 D.length c6) rfl hT0 (by rfl) (fun w hS => by have hS : w.cell? ⟨r, 10, none⟩ = some (.slice a1 D.length c6) := hS; go_simp) ?_
     simp only [pz]
     refine wpF_tk 2 (v := ?_) rfl hT0 (by rfl) ?_ ?_
     rotate_left
     ·(intro wq; go_simp; try with_reducible rfl)
     simp only [pz]
     refine wpF_exec 3 rfl (by kernel_rfl) (by rfl) ?_
     intro K hK
     go_simp
     refine (xdot_any wr.drew g sr (h.no (Ext.drew no wr))).mono ?_
     rintro e w5 ⟨rfl, h5, hx5⟩
     obtain ⟨dd, hdd⟩ : ∃ x, x = (pDot sr).1 := ⟨_, rfl⟩
     obtain ⟨sq, hsq⟩ : ∃ x, x = (pDot sr).2 := ⟨_, rfl⟩
     rw [← hsq] at h5
     rw [← hdd]
     have HDD := Lib.hid hdd
     have HSQ := Lib.hid hsq
     clear hdd hsq
     unfold DotR.v
     have hx5' := (Ext.drew (just g) wr).comp hx5
     have hb5 := hb.ext (by simp) hx5' (by simp only [Esc.just]; omega)
     have hz5 := hz.ext (by simp) hx5' (by simp only [Esc.just]; omega)
     have hown5 := hown.ext hx5' (fun ad h e => by have := (hown.base ad h).1; simp only [Esc.just] at e; omega)
     have hxw := hx.comp hx5'
     have cc5 := hb5.cell 10 _ rfl
     have hT1 : ∀ k, looks [(1, fun z => z.cell? ⟨r, 10, none⟩ = some (.slice a1 D.length c6))] k (w5) := looks_all ⟨cc5, trivial⟩
     refine hK _ _ (looks [(1, fun z => z.cell? ⟨r, 10, none⟩ = some (.slice a1 D.length c6))]) ⟨.inr (.inr (fun x h => h)), trivial⟩ hT1 ?_
     clear hK K
     try simp only [pz]
     refine wpF_exec 4 rfl (by kernel_rfl) (by rfl) ?_
     intro K hK
     go_simp
     have hT2 : ∀ k, looks [(1, fun z => z.cell? ⟨r, 10, none⟩ = some (.slice a1 D.length c6))] k ((w5.alloc (.cells #[.int .i64 dd.dev, .int .i64 dd.ep, .int .i64 dd.seq] 59))) := looks_all ⟨((Ext.alloc no w5 (.cells #[.int .i64 dd.dev, .int .i64 dd.ep, .int .i64 dd.seq] 59)).keeps cc5 (fun h => h)), trivial⟩
     refine hK _ _ (looks [(1, fun z => z.cell? ⟨r, 10, none⟩ = some (.slice a1 D.length c6))]) ⟨.inr (.inr (fun x h => h)), trivial⟩ hT2 ?_
     clear hK K
     try simp only [pz]
     refine wpF_exec 5 rfl (by kernel_rfl) (by rfl) ?_
     intro K hK
     refine op_append TDots rfl rfl (hown5.ext (Ext.alloc no w5 (.cells #[.int .i64 dd.dev, .int .i64 dd.ep, .int .i64 dd.seq] 59)) (fun _ _ h => h)) rfl (Rd.lit w5 _ _ _) (by simp) (by intro u hu; simp at hu; rcases hu with rfl | rfl | rfl <;> rfl) (by unfold maxLen; have := HD.out; omega) (by have := HD.out; omega) (by have := hb5.lt (by simp); simp; omega) ?_
     intro a8 c8 w8 hA
     have hb8 := (hb5.alloc (by simp) (.cells #[.int .i64 dd.dev, .int .i64 dd.ep, .int .i64 dd.seq] 59)).ext (by simp) hA.ext (hown5.notBlk (by omega))
     have hz8 := (hz5.alloc (by simp) (.cells #[.int .i64 dd.dev, .int .i64 dd.ep, .int .i64 dd.seq] 59)).ext (by simp) hA.ext (hown5.notBlk (by omega))
     have h8 := (h5.no (Ext.alloc no w5 (.cells #[.int .i64 dd.dev, .int .i64 dd.ep, .int .i64 dd.seq] 59))).ext hA.ext (hown5.notBlk (by omega)) (fun hb ad ha => hown5.notBlk (by have := hlr hb ad ha; omega))
     have hx8 := (hxw.comp (Ext.alloc (just g) w5 (.cells #[.int .i64 dd.dev, .int .i64 dd.ep, .int .i64 dd.seq] 59))).trans hA.ext (fun i hi h => (hown5.notBlk (by omega) h).elim)
     have ho8 := hA.own
     have hs8 := hA.ext.size
     have c8' := hb8.cell 10 _ rfl
     have f8 := hb8.fr 10
     have hT3 : ∀ k, looks [(1, fun z => z.cell? ⟨r, 10, none⟩ = some (.slice a1 D.length c6))] k (w8) := looks_all ⟨c8', trivial⟩
     refine hK _ _ (looks [(1, fun z => z.cell? ⟨r, 10, none⟩ = some (.slice a1 D.length c6))]) ⟨.inr (.inl (by kernel_rfl)), trivial⟩ hT3 ?_
     clear hK K
     try simp only [pz]
     refine wpF_tk 6 (v := ?_) rfl hT3 (by rfl) ?_ ?_
     rotate_left
     ·(intro wq; go_simp; try with_reducible rfl)
     simp only [pz]
     refine wpF_exec 7 rfl (by kernel_rfl) (by rfl) ?_
     intro K hK
     go_simp
     have hT4 : ∀ k, looks [(1, fun z => True)] k ((w8.setCell ⟨r, 10, none⟩ (.slice a8 (D.length + 1) c8))) := looks_all ⟨trivial, trivial⟩
     refine hK _ _ (looks [(1, fun z => True)]) ⟨.inr (.inl (by kernel_rfl)), trivial⟩ hT4 ?_
     clear hK K
     try simp only [pz]
     refine wpF_done (by kernel_rfl) ?_ _
     have hb9 : Blk (w8.setCell ⟨r, 10, none⟩ (.slice a8 (D.length + 1) c8)) r [.int .i64 d.dev, .int .i64 d.ep, .int .i64 d.seq, .int .i64 c1, .int .i64 c2, .int .i64 c3, .string (str y1), .string (str y2), .int .i64 c5, .int .i64 c4, .slice a8 (D ++ [dd]).length c8] := by rw [List.length_append]; exact hb8.set 10 (.slice a8 (D.length + 1) c8) (by simp)
     have hz9 := hz8.other (g := r) (by omega) 10 (.slice a8 (D.length + 1) c8)
     have h9 := XRdr.aside h8 (Ext.setCell w8 ⟨r, 10, none⟩ (.slice a8 (D.length + 1) c8) (S := just r) rfl) (by omega) hlr
     have ho9 : Own (w8.setCell ⟨r, 10, none⟩ (.slice a8 (D.length + 1) c8)) (r + 1) a8 3 (D ++ [dd]).length c8 (ds (D ++ [dd])) := by
      rw [ds_append, List.length_append]
      exact ho8.ext (Ext.setCell w8 ⟨r, 10, none⟩ (.slice a8 (D.length + 1) c8) (S := just r) rfl) (fun ad h e => by have := (ho8.base ad h).1; simp only [Esc.just] at e; omega)
     have hx9 : Ext (just g) w (w8.setCell ⟨r, 10, none⟩ (.slice a8 (D.length + 1) c8)) := hx8.trans (Ext.setCell w8 ⟨r, 10, none⟩ (.slice a8 (D.length + 1) c8) (S := just r) rfl) (fun i hi h => by simp only [Esc.just] at h; omega)
     have HL := Lib.hid (show (D ++ [dd]).length = i + 1 by rw [List.length_append, HD.out]; rfl)
     have HN := Lib.hid (show pDots M t = ((D ++ [dd]) ++ (pDots (M - (i + 1)) sq).1, (pDots (M - (i + 1)) sq).2) by rw [HPD.out, HPS.out, ← HDD.out, ← HSQ.out]; simp)
     clear hb8 hz8 h8 ho8 hx8 hA
     go_wp2_with fail
     go_roundw
     case rel => exact ⟨i + 1, D ++ [dd], a8, c8, sq, by omega, by go_num, HL.out, HN.out, h9, hb9, hz9, ho9, hx9⟩
     case measure => simp [intOf]; omega
     -->L
    ·have e2 : (sr.e == (0 : Int)) = false := by rw [beq_eq_false_iff_ne]; exact he0
     have HR := Lib.hid (show pRead s = ({ (⟨d, c1, c2, c3, y1, y2, c5, c4, []⟩ : OpR) with dots := D }, sr) by
      rw [HR0.out, HPD.out, pDots_err he0, List.append_nil])
     clear he0
     --<P
     generalize wr = v at *
     have b0 := hb.cell 0 _ rfl
     have b1 := hb.cell 1 _ rfl
     have b2 := hb.cell 2 _ rfl
     have b3 := hb.cell 3 _ rfl
     have b4 := hb.cell 4 _ rfl
     have b5 := hb.cell 5 _ rfl
     have b6 := hb.cell 6 _ rfl
     have b7 := hb.cell 7 _ rfl
     have b8 := hb.cell 8 _ rfl
     have b9 := hb.cell 9 _ rfl
     have b10 := hb.cell 10 _ rfl
     have z0 := hz.cell 0 _ rfl
     have z1 := hz.cell 1 _ rfl
     have z2 := hz.cell 2 _ rfl
     have z3 := hz.cell 3 _ rfl
     have z4 := hz.cell 4 _ rfl
     have z5 := hz.cell 5 _ rfl
     have z6 := hz.cell 6 _ rfl
     have z7 := hz.cell 7 _ rfl
     have z8 := hz.cell 8 _ rfl
     have z9 := hz.cell 9 _ rfl
     have z10 := hz.cell 10 _ rfl
     have f0 := hz.fr 0
     have f1 := hz.fr 1
     have f2 := hz.fr 2
     have f3 := hz.fr 3
     have f4 := hz.fr 4
     have f5 := hz.fr 5
     have f6 := hz.fr 6
     have f7 := hz.fr 7
     have f8 := hz.fr 8
     have f9 := hz.fr 9
     have f10 := hz.fr 10
     have xs : Ext (just q) v (((((((((((v.setCell ⟨q, 0, none⟩ (.int .i64 d.dev)).setCell ⟨q, 1, none⟩ (.int .i64 d.ep)).setCell ⟨q, 2, none⟩ (.int .i64 d.seq)).setCell ⟨q, 3, none⟩ (.int .i64 c1)).setCell ⟨q, 4, none⟩ (.int .i64 c2)).setCell ⟨q, 5, none⟩ (.int .i64 c3)).setCell ⟨q, 6, none⟩ (.string (str y1))).setCell ⟨q, 7, none⟩ (.string (str y2))).setCell ⟨q, 8, none⟩ (.int .i64 c5)).setCell ⟨q, 9, none⟩ (.int .i64 c4)).setCell ⟨q, 10, none⟩ (.slice a1 D.length c6)) := ((((((((((((Ext.refl (just q) v).comp (Ext.setCell _ ⟨q, 0, none⟩ (.int .i64 d.dev) rfl)).comp (Ext.setCell _ ⟨q, 1, none⟩ (.int .i64 d.ep) rfl)).comp (Ext.setCell _ ⟨q, 2, none⟩ (.int .i64 d.seq) rfl)).comp (Ext.setCell _ ⟨q, 3, none⟩ (.int .i64 c1) rfl)).comp (Ext.setCell _ ⟨q, 4, none⟩ (.int .i64 c2) rfl)).comp (Ext.setCell _ ⟨q, 5, none⟩ (.int .i64 c3) rfl)).comp (Ext.setCell _ ⟨q, 6, none⟩ (.string (str y1)) rfl)).comp (Ext.setCell _ ⟨q, 7, none⟩ (.string (str y2)) rfl)).comp (Ext.setCell _ ⟨q, 8, none⟩ (.int .i64 c5) rfl)).comp (Ext.setCell _ ⟨q, 9, none⟩ (.int .i64 c4) rfl)).comp (Ext.setCell _ ⟨q, 10, none⟩ (.slice a1 D.length c6) rfl))
     have hze : Blk (((((((((((v.setCell ⟨q, 0, none⟩ (.int .i64 d.dev)).setCell ⟨q, 1, none⟩ (.int .i64 d.ep)).setCell ⟨q, 2, none⟩ (.int .i64 d.seq)).setCell ⟨q, 3, none⟩ (.int .i64 c1)).setCell ⟨q, 4, none⟩ (.int .i64 c2)).setCell ⟨q, 5, none⟩ (.int .i64 c3)).setCell ⟨q, 6, none⟩ (.string (str y1))).setCell ⟨q, 7, none⟩ (.string (str y2))).setCell ⟨q, 8, none⟩ (.int .i64 c5)).setCell ⟨q, 9, none⟩ (.int .i64 c4)).setCell ⟨q, 10, none⟩ (.slice a1 D.length c6)) q [.int .i64 d.dev, .int .i64 d.ep, .int .i64 d.seq, .int .i64 c1, .int .i64 c2, .int .i64 c3, .string (str y1), .string (str y2), .int .i64 c5, .int .i64 c4, .slice a1 D.length c6] := (((((((((((hz.set 0 (.int .i64 d.dev) (by simp)).set 1 (.int .i64 d.ep) (by simp)).set 2 (.int .i64 d.seq) (by simp)).set 3 (.int .i64 c1) (by simp)).set 4 (.int .i64 c2) (by simp)).set 5 (.int .i64 c3) (by simp)).set 6 (.string (str y1)) (by simp)).set 7 (.string (str y2)) (by simp)).set 8 (.int .i64 c5) (by simp)).set 9 (.int .i64 c4) (by simp)).set 10 (.slice a1 D.length c6) (by simp))
     have hXe := XRdr.aside h xs (by omega) hlq
     have hxe := hx.trans xs (fun i hi h => by simp only [Esc.just] at h; omega)
     have hre : Rd (((((((((((v.setCell ⟨q, 0, none⟩ (.int .i64 d.dev)).setCell ⟨q, 1, none⟩ (.int .i64 d.ep)).setCell ⟨q, 2, none⟩ (.int .i64 d.seq)).setCell ⟨q, 3, none⟩ (.int .i64 c1)).setCell ⟨q, 4, none⟩ (.int .i64 c2)).setCell ⟨q, 5, none⟩ (.int .i64 c3)).setCell ⟨q, 6, none⟩ (.string (str y1))).setCell ⟨q, 7, none⟩ (.string (str y2))).setCell ⟨q, 8, none⟩ (.int .i64 c5)).setCell ⟨q, 9, none⟩ (.int .i64 c4)).setCell ⟨q, 10, none⟩ (.slice a1 D.length c6)) a1 (ds D) := hown.rd.ext xs (fun ad h e => by have := (hown.base ad h).1; simp only [Esc.just] at e; omega)
     have hfz : ∀ ad, (a1 : Option Addr) = some ad → w.heap.size ≤ ad.block := fun ad h => by have := (hown.base ad h).1; omega
     go_wp2_with fail
     generalize (((((((((((v.setCell ⟨q, 0, none⟩ (.int .i64 d.dev)).setCell ⟨q, 1, none⟩ (.int .i64 d.ep)).setCell ⟨q, 2, none⟩ (.int .i64 d.seq)).setCell ⟨q, 3, none⟩ (.int .i64 c1)).setCell ⟨q, 4, none⟩ (.int .i64 c2)).setCell ⟨q, 5, none⟩ (.int .i64 c3)).setCell ⟨q, 6, none⟩ (.string (str y1))).setCell ⟨q, 7, none⟩ (.string (str y2))).setCell ⟨q, 8, none⟩ (.int .i64 c5)).setCell ⟨q, 9, none⟩ (.int .i64 c4)).setCell ⟨q, 10, none⟩ (.slice a1 D.length c6)) = wz at *
     clear b0 z0 f0 b1 z1 f1 b2 z2 f2 b3 z3 f3 b4 z4 f4 b5 z5 f5 b6 z6 f6 b7 z7 f7 b8 z8 f8 b9 z9 f9 b10 z10 f10
     have yc0 := hze.cell 0 _ rfl
     have yc1 := hze.cell 1 _ rfl
     have yc2 := hze.cell 2 _ rfl
     have yc3 := hze.cell 3 _ rfl
     have yc4 := hze.cell 4 _ rfl
     have yc5 := hze.cell 5 _ rfl
     have yc6 := hze.cell 6 _ rfl
     have yc7 := hze.cell 7 _ rfl
     have yc8 := hze.cell 8 _ rfl
     have yc9 := hze.cell 9 _ rfl
     have yc10 := hze.cell 10 _ rfl
     refine bodyPost_ret (v := .agg #[.int .i64 d.dev, .int .i64 d.ep, .int .i64 d.seq, .int .i64 c1, .int .i64 c2, .int .i64 c3, .string (str y1), .string (str y2), .int .i64 c5, .int .i64 c4, .slice a1 D.length c6]) ?_ rfl ⟨a1, c6, ?_, ?_, ?_, ?_, ?_, ?_, hxe⟩
     ·rw [results_cell1 rfl]
      go_simp
     ·rw [HR.out]; rfl
     ·rw [HR.out]; exact hre
     ·rw [HR.out]; exact hown.nc
     ·exact hown.cm
     ·exact hfz
     ·rw [HR.out]; exact hXe
     -->P
   ·have e1 : decide (i < M) = false := decF hiM
    have HR := Lib.hid (show pRead s = ({ (⟨d, c1, c2, c3, y1, y2, c5, c4, []⟩ : OpR) with dots := D }, sr) by
     rw [HR0.out, HPD.out, show M - i = 0 by omega]; simp [pDots])
    --<Q
    generalize wr = v at *
    have b0 := hb.cell 0 _ rfl
    have b1 := hb.cell 1 _ rfl
    have b2 := hb.cell 2 _ rfl
    have b3 := hb.cell 3 _ rfl
    have b4 := hb.cell 4 _ rfl
    have b5 := hb.cell 5 _ rfl
    have b6 := hb.cell 6 _ rfl
    have b7 := hb.cell 7 _ rfl
    have b8 := hb.cell 8 _ rfl
    have b9 := hb.cell 9 _ rfl
    have b10 := hb.cell 10 _ rfl
    have z0 := hz.cell 0 _ rfl
    have z1 := hz.cell 1 _ rfl
    have z2 := hz.cell 2 _ rfl
    have z3 := hz.cell 3 _ rfl
    have z4 := hz.cell 4 _ rfl
    have z5 := hz.cell 5 _ rfl
    have z6 := hz.cell 6 _ rfl
    have z7 := hz.cell 7 _ rfl
    have z8 := hz.cell 8 _ rfl
    have z9 := hz.cell 9 _ rfl
    have z10 := hz.cell 10 _ rfl
    have f0 := hz.fr 0
    have f1 := hz.fr 1
    have f2 := hz.fr 2
    have f3 := hz.fr 3
    have f4 := hz.fr 4
    have f5 := hz.fr 5
    have f6 := hz.fr 6
    have f7 := hz.fr 7
    have f8 := hz.fr 8
    have f9 := hz.fr 9
    have f10 := hz.fr 10
    have xs : Ext (just q) v (((((((((((v.setCell ⟨q, 0, none⟩ (.int .i64 d.dev)).setCell ⟨q, 1, none⟩ (.int .i64 d.ep)).setCell ⟨q, 2, none⟩ (.int .i64 d.seq)).setCell ⟨q, 3, none⟩ (.int .i64 c1)).setCell ⟨q, 4, none⟩ (.int .i64 c2)).setCell ⟨q, 5, none⟩ (.int .i64 c3)).setCell ⟨q, 6, none⟩ (.string (str y1))).setCell ⟨q, 7, none⟩ (.string (str y2))).setCell ⟨q, 8, none⟩ (.int .i64 c5)).setCell ⟨q, 9, none⟩ (.int .i64 c4)).setCell ⟨q, 10, none⟩ (.slice a1 D.length c6)) := ((((((((((((Ext.refl (just q) v).comp (Ext.setCell _ ⟨q, 0, none⟩ (.int .i64 d.dev) rfl)).comp (Ext.setCell _ ⟨q, 1, none⟩ (.int .i64 d.ep) rfl)).comp (Ext.setCell _ ⟨q, 2, none⟩ (.int .i64 d.seq) rfl)).comp (Ext.setCell _ ⟨q, 3, none⟩ (.int .i64 c1) rfl)).comp (Ext.setCell _ ⟨q, 4, none⟩ (.int .i64 c2) rfl)).comp (Ext.setCell _ ⟨q, 5, none⟩ (.int .i64 c3) rfl)).comp (Ext.setCell _ ⟨q, 6, none⟩ (.string (str y1)) rfl)).comp (Ext.setCell _ ⟨q, 7, none⟩ (.string (str y2)) rfl)).comp (Ext.setCell _ ⟨q, 8, none⟩ (.int .i64 c5) rfl)).comp (Ext.setCell _ ⟨q, 9, none⟩ (.int .i64 c4) rfl)).comp (Ext.setCell _ ⟨q, 10, none⟩ (.slice a1 D.length c6) rfl))
    have hze : Blk (((((((((((v.setCell ⟨q, 0, none⟩ (.int .i64 d.dev)).setCell ⟨q, 1, none⟩ (.int .i64 d.ep)).setCell ⟨q, 2, none⟩ (.int .i64 d.seq)).setCell ⟨q, 3, none⟩ (.int .i64 c1)).setCell ⟨q, 4, none⟩ (.int .i64 c2)).setCell ⟨q, 5, none⟩ (.int .i64 c3)).setCell ⟨q, 6, none⟩ (.string (str y1))).setCell ⟨q, 7, none⟩ (.string (str y2))).setCell ⟨q, 8, none⟩ (.int .i64 c5)).setCell ⟨q, 9, none⟩ (.int .i64 c4)).setCell ⟨q, 10, none⟩ (.slice a1 D.length c6)) q [.int .i64 d.dev, .int .i64 d.ep, .int .i64 d.seq, .int .i64 c1, .int .i64 c2, .int .i64 c3, .string (str y1), .string (str y2), .int .i64 c5, .int .i64 c4, .slice a1 D.length c6] := (((((((((((hz.set 0 (.int .i64 d.dev) (by simp)).set 1 (.int .i64 d.ep) (by simp)).set 2 (.int .i64 d.seq) (by simp)).set 3 (.int .i64 c1) (by simp)).set 4 (.int .i64 c2) (by simp)).set 5 (.int .i64 c3) (by simp)).set 6 (.string (str y1)) (by simp)).set 7 (.string (str y2)) (by simp)).set 8 (.int .i64 c5) (by simp)).set 9 (.int .i64 c4) (by simp)).set 10 (.slice a1 D.length c6) (by simp))
    have hXe := XRdr.aside h xs (by omega) hlq
    have hxe := hx.trans xs (fun i hi h => by simp only [Esc.just] at h; omega)
    have hre : Rd (((((((((((v.setCell ⟨q, 0, none⟩ (.int .i64 d.dev)).setCell ⟨q, 1, none⟩ (.int .i64 d.ep)).setCell ⟨q, 2, none⟩ (.int .i64 d.seq)).setCell ⟨q, 3, none⟩ (.int .i64 c1)).setCell ⟨q, 4, none⟩ (.int .i64 c2)).setCell ⟨q, 5, none⟩ (.int .i64 c3)).setCell ⟨q, 6, none⟩ (.string (str y1))).setCell ⟨q, 7, none⟩ (.string (str y2))).setCell ⟨q, 8, none⟩ (.int .i64 c5)).setCell ⟨q, 9, none⟩ (.int .i64 c4)).setCell ⟨q, 10, none⟩ (.slice a1 D.length c6)) a1 (ds D) := hown.rd.ext xs (fun ad h e => by have := (hown.base ad h).1; simp only [Esc.just] at e; omega)
    have hfz : ∀ ad, (a1 : Option Addr) = some ad → w.heap.size ≤ ad.block := fun ad h => by have := (hown.base ad h).1; omega
    go_wp2_with fail
    generalize (((((((((((v.setCell ⟨q, 0, none⟩ (.int .i64 d.dev)).setCell ⟨q, 1, none⟩ (.int .i64 d.ep)).setCell ⟨q, 2, none⟩ (.int .i64 d.seq)).setCell ⟨q, 3, none⟩ (.int .i64 c1)).setCell ⟨q, 4, none⟩ (.int .i64 c2)).setCell ⟨q, 5, none⟩ (.int .i64 c3)).setCell ⟨q, 6, none⟩ (.string (str y1))).setCell ⟨q, 7, none⟩ (.string (str y2))).setCell ⟨q, 8, none⟩ (.int .i64 c5)).setCell ⟨q, 9, none⟩ (.int .i64 c4)).setCell ⟨q, 10, none⟩ (.slice a1 D.length c6)) = wz at *
    clear b0 z0 f0 b1 z1 f1 b2 z2 f2 b3 z3 f3 b4 z4 f4 b5 z5 f5 b6 z6 f6 b7 z7 f7 b8 z8 f8 b9 z9 f9 b10 z10 f10
    have yc0 := hze.cell 0 _ rfl
    have yc1 := hze.cell 1 _ rfl
    have yc2 := hze.cell 2 _ rfl
    have yc3 := hze.cell 3 _ rfl
    have yc4 := hze.cell 4 _ rfl
    have yc5 := hze.cell 5 _ rfl
    have yc6 := hze.cell 6 _ rfl
    have yc7 := hze.cell 7 _ rfl
    have yc8 := hze.cell 8 _ rfl
    have yc9 := hze.cell 9 _ rfl
    have yc10 := hze.cell 10 _ rfl
    refine bodyPost_ret (v := .agg #[.int .i64 d.dev, .int .i64 d.ep, .int .i64 d.seq, .int .i64 c1, .int .i64 c2, .int .i64 c3, .string (str y1), .string (str y2), .int .i64 c5, .int .i64 c4, .slice a1 D.length c6]) ?_ rfl ⟨a1, c6, ?_, ?_, ?_, ?_, ?_, ?_, hxe⟩
    ·rw [results_cell1 rfl]
     go_simp
    ·rw [HR.out]; rfl
    ·rw [HR.out]; exact hre
    ·rw [HR.out]; exact hown.nc
    ·exact hown.cm
    ·exact hfz
    ·rw [HR.out]; exact hXe
    -->Q
end Go.Proofs.YtddobhihjljcgaaGreat
