/- Walks of escrowref9: dot. -/
import Derived.Test.YtddobhihjljcgaaGreatOpUX
import Derived.Test.YtddobhihjljcgaaGreatOpG
import Derived.Test.YtddobhihjljcgaaGreatRefAG
namespace Go.Proofs.YtddobhihjljcgaaGreat
open Go.RowKit Go.Esc
set_option linter.unusedVariables false
set_option linter.unusedSimpArgs false
theorem XRdr.aside {w w' : World} {g r : Nat} {a : Option Addr} {c : Nat} {b l : List UInt8} {er : Int} (h : XRdr w g a c b l er) (hx : Ext (just r) w w') (hg : g ≠ r) (hlow : b ≠ [] → ∀ ad, a = some ad → ad.block < r) : XRdr w' g a c b l er :=
 h.ext hx (by simp only [Esc.just]; exact hg) (fun hb ad ha e => by have := hlow hb ad ha; simp only [Esc.just] at e; omega)
set_option maxHeartbeats 4000000 in
theorem xdot_any (w : World) (g : Nat) {a : Option Addr} {c : Nat} {b : List UInt8} (s : RS) (h : XRdr w g a c b s.l s.e) :
  Calls Tryz.prog 102 #[.pointer (some ⟨g, 0, none⟩)] w fun e w' => e = .returned (pDot s).1.v ∧ XRdr w' g a c b (pDot s).2.l (pDot s).2.e ∧ Ext (just g) w w' := by
 have hlow : b ≠ [] → ∀ ad, a = some ad → ad.block < w.heap.size := fun hb ad ha => h.rd.low hb ad ha
 have hgl := h.lt
 go_enter Tryz.func102, Tryz.ntmps102
 go_upto_region 1 with fail
 have hz := Blk.lit w #[.int .i64 0, .int .i64 0, .int .i64 0] 59
 have hx1 := Ext.alloc no w (.cells #[.int .i64 0, .int .i64 0, .int .i64 0] 59)
 have h1 := h.no hx1
 have hx := Ext.mono hx1 (S' := just g) (fun _ _ h => h.elim)
 have hs1 : w.heap.size < (w.alloc (.cells #[.int .i64 0, .int .i64 0, .int .i64 0] 59)).heap.size := by simp
 generalize w.alloc (.cells #[.int .i64 0, .int .i64 0, .int .i64 0] 59) = w1 at *
 clear h hx1
 go_wp2_with fail
 refine (xint_any w1 g s h1).mono ?_
 rintro e w2 ⟨rfl, h2, hx2⟩
 have hz2 := hz.ext (by simp) hx2 (by simp only [Esc.just]; omega)
 replace hx := hx.comp hx2
 have hs2 := hx2.size
 obtain ⟨n1, hn1⟩ : ∃ n, n = (rInt s).1 := ⟨_, rfl⟩
 obtain ⟨s1, hs1'⟩ : ∃ q, q = (rInt s).2 := ⟨_, rfl⟩
 rw [← hs1'] at h2
 rw [← hn1]
 have HN1 := Lib.hid hn1
 have HS1 := Lib.hid hs1'
 clear hn1 hs1'
 clear h1 hz hx2
 go_upto_region 2 with fail
 have hb3 := Blk.lit w2 #[.int .i64 n1, .int .i64 0, .int .i64 0] 59
 have hx3 := Ext.alloc no w2 (.cells #[.int .i64 n1, .int .i64 0, .int .i64 0] 59)
 have h3 := h2.no hx3
 have hz3 := hz2.ext (by simp) hx3 (fun h => h)
 replace hx := hx.comp (hx3.mono (fun _ _ h => h.elim))
 have hs3 : w2.heap.size < (w2.alloc (.cells #[.int .i64 n1, .int .i64 0, .int .i64 0] 59)).heap.size := by simp
 generalize w2.alloc (.cells #[.int .i64 n1, .int .i64 0, .int .i64 0] 59) = w3 at *
 clear h2 hz2 hx3
 obtain ⟨r, hr⟩ : ∃ r, r = w2.heap.size := ⟨_, rfl⟩
 rw [← hr] at hb3 hs3 hs2 ⊢
 clear hr
 have hlr : b ≠ [] → ∀ ad, a = some ad → ad.block < r := fun hb ad ha => by have := hlow hb ad ha; omega
 go_wp2_with fail
 refine (xint_any w3 g s1 h3).mono ?_
 rintro e w4 ⟨rfl, h4, hx4⟩
 have hb4 := hb3.ext (by simp) hx4 (by simp only [Esc.just]; omega)
 have hz4 := hz3.ext (by simp) hx4 (by simp only [Esc.just]; omega)
 replace hx := hx.comp hx4
 have hs4 := hx4.size
 obtain ⟨n2, hn2⟩ : ∃ n, n = (rInt s1).1 := ⟨_, rfl⟩
 obtain ⟨s2, hs2'⟩ : ∃ q, q = (rInt s1).2 := ⟨_, rfl⟩
 rw [← hs2'] at h4
 rw [← hn2]
 have HN2 := Lib.hid hn2
 have HS2 := Lib.hid hs2'
 clear hn2 hs2'
 clear h3 hb3 hz3 hx4
 have e1 := hb4.cell 1 _ rfl
 have f1 := hb4.fr 1
 go_upto_region 3 with fail
 have hb5 : Blk (w4.setCell ⟨r, 1, none⟩ (.int .i64 n2)) r [.int .i64 n1, .int .i64 n2, .int .i64 0] := hb4.set 1 (.int .i64 n2) (by simp)
 have hz5 := hz4.other (g := r) (by omega) 1 (.int .i64 n2)
 have h5 := XRdr.aside h4 (Ext.setCell w4 ⟨r, 1, none⟩ (.int .i64 n2) (S := just r) rfl) (by omega) hlr
 replace hx : Ext (just g) w (w4.setCell ⟨r, 1, none⟩ (.int .i64 n2)) := hx.trans (Ext.setCell w4 ⟨r, 1, none⟩ (.int .i64 n2) (S := just r) rfl) (fun i hi h => by simp only [Esc.just] at h; omega)
 clear h4 hb4 hz4 e1 f1
 generalize w4.setCell ⟨r, 1, none⟩ (.int .i64 n2) = w5 at *
 go_wp2_with fail
 refine (xint_any w5 g s2 h5).mono ?_
 rintro e w6 ⟨rfl, h6, hx6⟩
 have hb6 := hb5.ext (by simp) hx6 (by simp only [Esc.just]; omega)
 have hz6 := hz5.ext (by simp) hx6 (by simp only [Esc.just]; omega)
 replace hx := hx.comp hx6
 obtain ⟨n3, hn3⟩ : ∃ n, n = (rInt s2).1 := ⟨_, rfl⟩
 obtain ⟨s3, hs3'⟩ : ∃ q, q = (rInt s2).2 := ⟨_, rfl⟩
 rw [← hs3'] at h6
 rw [← hn3]
 have HN3 := Lib.hid hn3
 have HS3 := Lib.hid hs3'
 clear hn3 hs3'
 clear h5 hb5 hz5 hx6
 have e1 := hb6.cell 2 _ rfl
 have f1 := hb6.fr 2
 go_upto_region 4 with fail
 have hb7 : Blk (w6.setCell ⟨r, 2, none⟩ (.int .i64 n3)) r [.int .i64 n1, .int .i64 n2, .int .i64 n3] := hb6.set 2 (.int .i64 n3) (by simp)
 have hz7 := hz6.other (g := r) (by omega) 2 (.int .i64 n3)
 have h7 := XRdr.aside h6 (Ext.setCell w6 ⟨r, 2, none⟩ (.int .i64 n3) (S := just r) rfl) (by omega) hlr
 replace hx : Ext (just g) w (w6.setCell ⟨r, 2, none⟩ (.int .i64 n3)) := hx.trans (Ext.setCell w6 ⟨r, 2, none⟩ (.int .i64 n3) (S := just r) rfl) (fun i hi h => by simp only [Esc.just] at h; omega)
 clear h6 hb6 hz6 e1 f1
 generalize w6.setCell ⟨r, 2, none⟩ (.int .i64 n3) = w7 at *
 have b0 := hb7.cell 0 _ rfl
 have b1 := hb7.cell 1 _ rfl
 have b2 := hb7.cell 2 _ rfl
 obtain ⟨q, hq⟩ : ∃ q, q = w.heap.size := ⟨_, rfl⟩
 have hgq : g < q := by omega
 have hlq : b ≠ [] → ∀ ad, a = some ad → ad.block < q := fun hb ad ha => by have := hlow hb ad ha; omega
 have hwq : w.heap.size ≤ q := by omega
 rw [← hq] at hz7 ⊢
 clear hq
 have z0 := hz7.cell 0 _ rfl
 have z1 := hz7.cell 1 _ rfl
 have z2 := hz7.cell 2 _ rfl
 have f0 := hz7.fr 0
 have f1 := hz7.fr 1
 have f2 := hz7.fr 2
 have xs : Ext (just q) w7 (((w7.setCell ⟨q, 0, none⟩ (.int .i64 n1)).setCell ⟨q, 1, none⟩ (.int .i64 n2)).setCell ⟨q, 2, none⟩ (.int .i64 n3)) := ((((Ext.refl (just q) w7).comp (Ext.setCell _ ⟨q, 0, none⟩ (.int .i64 n1) rfl)).comp (Ext.setCell _ ⟨q, 1, none⟩ (.int .i64 n2) rfl)).comp (Ext.setCell _ ⟨q, 2, none⟩ (.int .i64 n3) rfl))
 have hze : Blk (((w7.setCell ⟨q, 0, none⟩ (.int .i64 n1)).setCell ⟨q, 1, none⟩ (.int .i64 n2)).setCell ⟨q, 2, none⟩ (.int .i64 n3)) q [.int .i64 n1, .int .i64 n2, .int .i64 n3] := (((hz7.set 0 (.int .i64 n1) (by simp)).set 1 (.int .i64 n2) (by simp)).set 2 (.int .i64 n3) (by simp))
 have h8 := XRdr.aside h7 xs (by omega) hlq
 have hx8 := hx.trans xs (fun i hi h => by simp only [Esc.just] at h; omega)
 go_wp2_with fail
 generalize (((w7.setCell ⟨q, 0, none⟩ (.int .i64 n1)).setCell ⟨q, 1, none⟩ (.int .i64 n2)).setCell ⟨q, 2, none⟩ (.int .i64 n3)) = wz at *
 clear b0 b1 b2 z0 z1 z2 f0 f1 f2 hz7 hb7 h7
 have y0 := hze.cell 0 _ rfl
 have y1 := hze.cell 1 _ rfl
 have y2 := hze.cell 2 _ rfl
 refine bodyPost_ret (v := .agg #[.int .i64 n1, .int .i64 n2, .int .i64 n3]) ?_ rfl ⟨?_, ?_, hx8⟩
 ·rw [results_cell1 rfl]
  go_simp
 ·unfold pDot; rw [← HS1.out, ← HS2.out, ← HN1.out, ← HN2.out, ← HN3.out]; rfl
 ·unfold pDot; rw [← HS1.out, ← HS2.out, ← HS3.out]; exact h8
end Go.Proofs.YtddobhihjljcgaaGreat
