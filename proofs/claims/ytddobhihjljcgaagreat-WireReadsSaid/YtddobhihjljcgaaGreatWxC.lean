/- The reference's reader of commands. -/
import Derived.Test.YtddobhihjljcgaaGreatWxB
namespace Go.Proofs.YtddobhihjljcgaaGreat
open Go.RowKit Go.Esc
set_option linter.unusedVariables false
set_option linter.unusedSimpArgs false
set_option maxRecDepth 100000 in
set_option maxHeartbeats 16000000 in
theorem xreadCmd_any (w : World) (g : Nat) {a : Option Addr} {c : Nat} {b : List UInt8} (s0 : RS) (h : XRdr w g a c b s0.l s0.e) :
  Calls Tryz.prog 66 #[.pointer (some ⟨g, 0, none⟩)] w fun e w' => ∃ k : CmdA, e = .returned ((xCmd s0).1.val k) ∧ Kept w w' (fun wz => (xCmd s0).1.In wz k) ∧ XRdr w' g a c b (xCmd s0).2.l (xCmd s0).2.e ∧ Ext (just g) w w' := by
 have hgw := h.lt
 have hlow := fun hb ad ha => xrdr_low h hb ad ha
 go_enter Tryz.func66, Tryz.ntmps66
 go_upto_region 1 with fail
 have hz := Blk.lit w #[.int .i64 0, .int .i64 0, .int .i64 0, .int .i64 0, .int .i64 0, .slice none 0 0, .slice none 0 0] 27
 have hx0 := Ext.alloc no w (.cells #[.int .i64 0, .int .i64 0, .int .i64 0, .int .i64 0, .int .i64 0, .slice none 0 0, .slice none 0 0] 27)
 have h := h.no hx0
 have hx : Ext (just g) w (w.alloc (.cells #[.int .i64 0, .int .i64 0, .int .i64 0, .int .i64 0, .int .i64 0, .slice none 0 0, .slice none 0 0] 27)) := hx0.mono (fun _ _ e => e.elim)
 clear hx0
 generalize w.alloc (.cells #[.int .i64 0, .int .i64 0, .int .i64 0, .int .i64 0, .int .i64 0, .slice none 0 0, .slice none 0 0] 27) = v0 at *
 obtain ⟨q, hq⟩ : ∃ q, q = w.heap.size := ⟨_, rfl⟩
 have hwq : w.heap.size ≤ q := by omega
 rw [← hq] at hz ⊢
 clear hq
 go_wp2_with fail
 refine (xint_any v0 g s0 h).mono ?_
 rintro e v1 ⟨rfl, h, hy⟩
 have hz := hz.ext (by simp) hy (by simp only [Esc.just]; omega)
 obtain ⟨i1, hn⟩ : ∃ n, n = (rInt s0).1 := ⟨_, rfl⟩
 obtain ⟨s1, hs⟩ : ∃ q, q = (rInt s0).2 := ⟨_, rfl⟩
 rw [← hs] at h
 rw [← hn]
 have HN1 := Lib.hid hn
 have HS1 := Lib.hid hs
 replace hx := hx.comp hy
 clear hn hs hy
 go_upto_region 2 with fail
 have hb : Blk (v1.alloc (.cells #[.int .i64 i1, .int .i64 0, .int .i64 0, .int .i64 0, .int .i64 0, .slice none 0 0, .slice none 0 0] 27)) v1.heap.size [.int .i64 i1, .int .i64 0, .int .i64 0, .int .i64 0, .int .i64 0, .slice none 0 0, .slice none 0 0] := Blk.lit v1 #[.int .i64 i1, .int .i64 0, .int .i64 0, .int .i64 0, .int .i64 0, .slice none 0 0, .slice none 0 0] 27
 have hx3 := Ext.alloc no v1 (.cells #[.int .i64 i1, .int .i64 0, .int .i64 0, .int .i64 0, .int .i64 0, .slice none 0 0, .slice none 0 0] 27)
 have hqv := hz.lt (by simp)
 have h := h.no hx3
 have hz := hz.ext (by simp) hx3 (fun h => h)
 have hsv := hx.size
 replace hx := hx.comp (hx3.mono (S' := just g) (fun _ _ e => e.elim))
 generalize v1.alloc (.cells #[.int .i64 i1, .int .i64 0, .int .i64 0, .int .i64 0, .int .i64 0, .slice none 0 0, .slice none 0 0] 27) = u1 at *
 clear hx3
 obtain ⟨r, hr⟩ : ∃ r, r = v1.heap.size := ⟨_, rfl⟩
 rw [← hr] at hb ⊢
 have hqr : q < r := by omega
 have hgr : g < r := by omega
 clear hr hqv hsv
 go_wp2_with fail
 refine (xint_any u1 g s1 h).mono ?_
 rintro e v2 ⟨rfl, h, hy⟩
 have hz := hz.ext (by simp) hy (by simp only [Esc.just]; omega)
 have hb := hb.ext (by simp) hy (by simp only [Esc.just]; omega)
 obtain ⟨i2, hn⟩ : ∃ n, n = (rInt s1).1 := ⟨_, rfl⟩
 obtain ⟨s2, hs⟩ : ∃ q, q = (rInt s1).2 := ⟨_, rfl⟩
 rw [← hs] at h
 rw [← hn]
 have HN2 := Lib.hid hn
 have HS2 := Lib.hid hs
 replace hx := hx.comp hy
 clear hn hs hy
 have cK := hb.cell 1 _ rfl
 have fK := hb.fr 1
 go_upto_region 3 with fail
 have xs : Ext (just r) v2 (v2.setCell ⟨r, 1, none⟩ (.int .i64 i2)) := Ext.setCell _ _ _ rfl
 have hb : Blk (v2.setCell ⟨r, 1, none⟩ (.int .i64 i2)) r [.int .i64 i1, .int .i64 i2, .int .i64 0, .int .i64 0, .int .i64 0, .slice none 0 0, .slice none 0 0] := hb.set 1 (.int .i64 i2) (by simp)
 have hz := hz.ext (by simp) xs (by simp only [Esc.just]; omega)
 have h : XRdr (v2.setCell ⟨r, 1, none⟩ (.int .i64 i2)) g a c b s2.l s2.e := h.ext xs (by simp only [Esc.just]; omega) (fun hb ad ha e => by have := hlow hb ad ha; have e : ad.block = r := e; omega)
 replace hx : Ext (just g) w (v2.setCell ⟨r, 1, none⟩ (.int .i64 i2)) := hx.trans xs (fun k hk e => by have e : k = r := e; omega)
 clear xs cK fK
 generalize v2.setCell ⟨r, 1, none⟩ (.int .i64 i2) = u2 at *
 go_wp2_with fail
 refine (xint_any u2 g s2 h).mono ?_
 rintro e v3 ⟨rfl, h, hy⟩
 have hz := hz.ext (by simp) hy (by simp only [Esc.just]; omega)
 have hb := hb.ext (by simp) hy (by simp only [Esc.just]; omega)
 obtain ⟨i3, hn⟩ : ∃ n, n = (rInt s2).1 := ⟨_, rfl⟩
 obtain ⟨s3, hs⟩ : ∃ q, q = (rInt s2).2 := ⟨_, rfl⟩
 rw [← hs] at h
 rw [← hn]
 have HN3 := Lib.hid hn
 have HS3 := Lib.hid hs
 replace hx := hx.comp hy
 clear hn hs hy
 have cK := hb.cell 2 _ rfl
 have fK := hb.fr 2
 go_upto_region 4 with fail
 have xs : Ext (just r) v3 (v3.setCell ⟨r, 2, none⟩ (.int .i64 i3)) := Ext.setCell _ _ _ rfl
 have hb : Blk (v3.setCell ⟨r, 2, none⟩ (.int .i64 i3)) r [.int .i64 i1, .int .i64 i2, .int .i64 i3, .int .i64 0, .int .i64 0, .slice none 0 0, .slice none 0 0] := hb.set 2 (.int .i64 i3) (by simp)
 have hz := hz.ext (by simp) xs (by simp only [Esc.just]; omega)
 have h : XRdr (v3.setCell ⟨r, 2, none⟩ (.int .i64 i3)) g a c b s3.l s3.e := h.ext xs (by simp only [Esc.just]; omega) (fun hb ad ha e => by have := hlow hb ad ha; have e : ad.block = r := e; omega)
 replace hx : Ext (just g) w (v3.setCell ⟨r, 2, none⟩ (.int .i64 i3)) := hx.trans xs (fun k hk e => by have e : k = r := e; omega)
 clear xs cK fK
 generalize v3.setCell ⟨r, 2, none⟩ (.int .i64 i3) = u3 at *
 go_wp2_with fail
 refine (xint_any u3 g s3 h).mono ?_
 rintro e v4 ⟨rfl, h, hy⟩
 have hz := hz.ext (by simp) hy (by simp only [Esc.just]; omega)
 have hb := hb.ext (by simp) hy (by simp only [Esc.just]; omega)
 obtain ⟨i4, hn⟩ : ∃ n, n = (rInt s3).1 := ⟨_, rfl⟩
 obtain ⟨s4, hs⟩ : ∃ q, q = (rInt s3).2 := ⟨_, rfl⟩
 rw [← hs] at h
 rw [← hn]
 have HN4 := Lib.hid hn
 have HS4 := Lib.hid hs
 replace hx := hx.comp hy
 clear hn hs hy
 have cK := hb.cell 3 _ rfl
 have fK := hb.fr 3
 go_upto_region 5 with fail
 have xs : Ext (just r) v4 (v4.setCell ⟨r, 3, none⟩ (.int .i64 i4)) := Ext.setCell _ _ _ rfl
 have hb : Blk (v4.setCell ⟨r, 3, none⟩ (.int .i64 i4)) r [.int .i64 i1, .int .i64 i2, .int .i64 i3, .int .i64 i4, .int .i64 0, .slice none 0 0, .slice none 0 0] := hb.set 3 (.int .i64 i4) (by simp)
 have hz := hz.ext (by simp) xs (by simp only [Esc.just]; omega)
 have h : XRdr (v4.setCell ⟨r, 3, none⟩ (.int .i64 i4)) g a c b s4.l s4.e := h.ext xs (by simp only [Esc.just]; omega) (fun hb ad ha e => by have := hlow hb ad ha; have e : ad.block = r := e; omega)
 replace hx : Ext (just g) w (v4.setCell ⟨r, 3, none⟩ (.int .i64 i4)) := hx.trans xs (fun k hk e => by have e : k = r := e; omega)
 clear xs cK fK
 generalize v4.setCell ⟨r, 3, none⟩ (.int .i64 i4) = u4 at *
 go_wp2_with fail
 refine (xint_any u4 g s4 h).mono ?_
 rintro e v5 ⟨rfl, h, hy⟩
 have hz := hz.ext (by simp) hy (by simp only [Esc.just]; omega)
 have hb := hb.ext (by simp) hy (by simp only [Esc.just]; omega)
 obtain ⟨i5, hn⟩ : ∃ n, n = (rInt s4).1 := ⟨_, rfl⟩
 obtain ⟨s5, hs⟩ : ∃ q, q = (rInt s4).2 := ⟨_, rfl⟩
 rw [← hs] at h
 rw [← hn]
 have HN5 := Lib.hid hn
 have HS5 := Lib.hid hs
 replace hx := hx.comp hy
 clear hn hs hy
 have cK := hb.cell 4 _ rfl
 have fK := hb.fr 4
 go_upto_region 6 with fail
 have xs : Ext (just r) v5 (v5.setCell ⟨r, 4, none⟩ (.int .i64 i5)) := Ext.setCell _ _ _ rfl
 have hb : Blk (v5.setCell ⟨r, 4, none⟩ (.int .i64 i5)) r [.int .i64 i1, .int .i64 i2, .int .i64 i3, .int .i64 i4, .int .i64 i5, .slice none 0 0, .slice none 0 0] := hb.set 4 (.int .i64 i5) (by simp)
 have hz := hz.ext (by simp) xs (by simp only [Esc.just]; omega)
 have h : XRdr (v5.setCell ⟨r, 4, none⟩ (.int .i64 i5)) g a c b s5.l s5.e := h.ext xs (by simp only [Esc.just]; omega) (fun hb ad ha e => by have := hlow hb ad ha; have e : ad.block = r := e; omega)
 replace hx : Ext (just g) w (v5.setCell ⟨r, 4, none⟩ (.int .i64 i5)) := hx.trans xs (fun k hk e => by have e : k = r := e; omega)
 clear xs cK fK
 generalize v5.setCell ⟨r, 4, none⟩ (.int .i64 i5) = u5 at *
 go_wp2_with fail
 refine (xfew_any u5 g s5 20 (by omega) (by omega) h).mono ?_
 rintro e u6 ⟨rfl, h', hy⟩
 have hz := hz.ext (by simp) hy (by simp only [Esc.just]; omega)
 have hb := hb.ext (by simp) hy (by simp only [Esc.just]; omega)
 replace hx := hx.comp hy
 have hM20 := pSize_le (m := 20) (by omega) s5
 obtain ⟨M, hM⟩ : ∃ M, M = (pSize 20 s5).1 := ⟨_, rfl⟩
 obtain ⟨t, ht⟩ : ∃ q, q = (pSize 20 s5).2 := ⟨_, rfl⟩
 have HSZ := Lib.hid (show pSize 20 s5 = (M, t) by rw [hM, ht])
 rw [← hM] at hM20 ⊢
 rw [← ht] at h'
 clear hM ht h hy
 have h := h'
 clear h'
 have hNs : r < u6.heap.size := hb.lt (by simp)
 go_wp2_with fail
 go_loopw [5] (fun s5 wr => ∃ (i : Nat) (D : List WantR) (a1 : Option Addr) (c6 : Nat) (sr : RS), i ≤ M ∧ s5 = .int .i64 i ∧ D.length = i ∧ xRow pWant M t = (D ++ (xRow pWant (M - i) sr).1, (xRow pWant (M - i) sr).2) ∧ XRdr wr g a c b sr.l sr.e ∧ Blk wr r [.int .i64 i1, .int .i64 i2, .int .i64 i3, .int .i64 i4, .int .i64 i5, .slice a1 D.length c6, .slice none 0 0] ∧ Blk wr q [.int .i64 0, .int .i64 0, .int .i64 0, .int .i64 0, .int .i64 0, .slice none 0 0, .slice none 0 0] ∧ r < wr.heap.size ∧ Own wr (r + 1) a1 4 D.length c6 (rows WantR.cells D) ∧ Ext (just g) w wr) (fun s5 _ => M - (intOf s5).toNat)
 case atStart => exact ⟨0, [], none, 0, t, by omega, rfl, rfl, by simp, h, hb, hz, hNs, Own.nil _ _ _, hx⟩
 case round =>
  clear h hb hz hx hNs
  obtain ⟨i, D, a1, c6, sr, hi, rfl, hDl, hpd, h, hb, hz, hNs, hown, hx⟩ := hrel
  have HD := Lib.hid hDl
  have HPD := Lib.hid hpd
  clear hDl hpd
  obtain ⟨tt, htt⟩ : ∃ tt, tt = decide (i < M ∧ sr.e = 0) := ⟨_, rfl⟩
  have Htt := Lib.hid htt
  clear htt
  have hpe := h.err
  go_upto_region 8 with fail
  go_cut [33] (fun st wx => st = .bool tt ∧ wx = wr)
  case first =>
   by_cases k1 : i < M
   ·have d1 : decide (i < M) = true := decT k1
    by_cases k2 : sr.e = 0
    ·have d2 : (sr.e == 0) = true := by rw [beq_iff_eq]; exact k2
     have HT := Lib.hid (show tt = true by rw [Htt.out]; exact decT ⟨k1, k2⟩)
     clear k2
     go_wp2_with fail
     go_meet
     exact ⟨by rw [HT.out], rfl⟩
    ·have d2 : (sr.e == 0) = false := by rw [beq_eq_false_iff_ne]; exact k2
     have HT := Lib.hid (show tt = false by rw [Htt.out]; exact decF (fun h => k2 h.2))
     clear k2
     go_wp2_with fail
     go_meet
     exact ⟨by rw [HT.out], rfl⟩
   ·have d1 : decide (i < M) = false := decF k1
    have HT := Lib.hid (show tt = false by rw [Htt.out]; exact decF (fun h => k1 h.1))
    go_wp2_with fail
    go_meet
    exact ⟨by rw [HT.out], rfl⟩
  case rest =>
   obtain ⟨rfl, rfl⟩ := hcut
   obtain ⟨wr, h0⟩ : ∃ v, v = wc := ⟨_, rfl⟩
   subst h0
   clear hpe
   cases tt with
   | true =>
    have hk := of_decide_eq_true Htt.out.symm
    have hiM : i < M := hk.1
    have HPS := Lib.hid (xRow_step pWant hk.1 hk.2)
    clear hk Htt
    go_wp2_with fail
    refine (xtext_any wr g sr h).mono ?_
    rintro e x1 ⟨rfl, h, hy⟩
    have hz := hz.ext (by simp) hy (by simp only [Esc.just]; omega)
    have hb := hb.ext (by simp) hy (by simp only [Esc.just]; omega)
    have hown := hown.ext hy (fun ad h e => by have := (hown.base ad h).1; have e : ad.block = g := e; omega)
    replace hNs := Nat.lt_of_lt_of_le hNs hy.size
    replace hx := hx.comp hy
    obtain ⟨m0, hm⟩ : ∃ n, n = (rText sr).1 := ⟨_, rfl⟩
    obtain ⟨t0, hs⟩ : ∃ q, q = (rText sr).2 := ⟨_, rfl⟩
    rw [← hs] at h
    rw [← hm]
    have HM0 := Lib.hid hm
    have HT0 := Lib.hid hs
    clear hm hs hy
    go_upto_region 11 with fail
    have hp : Blk (x1.alloc (.cells #[.string (str m0), .int .i64 0, .int .i64 0, .int .i64 0] 105)) x1.heap.size [.string (str m0), .int .i64 0, .int .i64 0, .int .i64 0] := Blk.lit x1 #[.string (str m0), .int .i64 0, .int .i64 0, .int .i64 0] 105
    have hy := Ext.alloc no x1 (.cells #[.string (str m0), .int .i64 0, .int .i64 0, .int .i64 0] 105)
    have h := h.no hy
    have hz := hz.ext (by simp) hy (fun h => h)
    have hb := hb.ext (by simp) hy (fun h => h)
    have hop0 := fun ad ha => (hown.base ad ha).2.1
    have hown := hown.ext hy (fun _ _ h => h)
    obtain ⟨p, hpp⟩ : ∃ p, p = x1.heap.size := ⟨_, rfl⟩
    rw [← hpp] at hp ⊢
    have hrp : r < p := by omega
    have hrp : r < p := by omega
    replace hx := hx.comp (hy.mono (S' := just g) (fun _ _ e => e.elim))
    replace hNs := Nat.lt_of_lt_of_le hNs hy.size
    have hop : ∀ ad, a1 = some ad → ad.block < p := fun ad ha => by have := hop0 ad ha; omega
    clear hpp hop0 hy
    generalize x1.alloc (.cells #[.string (str m0), .int .i64 0, .int .i64 0, .int .i64 0] 105) = y0 at *
    go_wp2_with fail
    refine (xint_any y0 g t0 h).mono ?_
    rintro e z1 ⟨rfl, h, hy⟩
    have hz := hz.ext (by simp) hy (by simp only [Esc.just]; omega)
    have hb := hb.ext (by simp) hy (by simp only [Esc.just]; omega)
    have hown := hown.ext hy (fun ad h e => by have := (hown.base ad h).1; have e : ad.block = g := e; omega)
    have hp := hp.ext (by simp) hy (by simp only [Esc.just]; omega)
    replace hNs := Nat.lt_of_lt_of_le hNs hy.size
    replace hx := hx.comp hy
    obtain ⟨m1, hm⟩ : ∃ n, n = (rInt t0).1 := ⟨_, rfl⟩
    obtain ⟨t1, hs⟩ : ∃ q, q = (rInt t0).2 := ⟨_, rfl⟩
    rw [← hs] at h
    rw [← hm]
    have HM1 := Lib.hid hm
    have HT1 := Lib.hid hs
    clear hm hs hy
    have cK := hp.cell 1 _ rfl
    have fK := hp.fr 1
    go_upto_region 12 with fail
    have hy : Ext (just p) z1 (z1.setCell ⟨p, 1, none⟩ (.int .i64 m1)) := Ext.setCell _ _ _ rfl
    have hp : Blk (z1.setCell ⟨p, 1, none⟩ (.int .i64 m1)) p [.string (str m0), .int .i64 m1, .int .i64 0, .int .i64 0] := hp.set 1 (.int .i64 m1) (by simp)
    have hz := hz.ext (by simp) hy (by simp only [Esc.just]; omega)
    have hb := hb.ext (by simp) hy (by simp only [Esc.just]; omega)
    have hown := hown.ext hy (fun ad h e => by have := hop ad h; have e : ad.block = p := e; omega)
    have h : XRdr (z1.setCell ⟨p, 1, none⟩ (.int .i64 m1)) g a c b t1.l t1.e := h.ext hy (by simp only [Esc.just]; omega) (fun hb ad ha e => by have := hlow hb ad ha; have e : ad.block = p := e; omega)
    replace hx : Ext (just g) w (z1.setCell ⟨p, 1, none⟩ (.int .i64 m1)) := hx.trans hy (fun k hk e => by have e : k = p := e; omega)
    replace hNs := Nat.lt_of_lt_of_le hNs hy.size
    clear hy cK fK
    generalize z1.setCell ⟨p, 1, none⟩ (.int .i64 m1) = y1 at *
    go_wp2_with fail
    refine (xint_any y1 g t1 h).mono ?_
    rintro e z2 ⟨rfl, h, hy⟩
    have hz := hz.ext (by simp) hy (by simp only [Esc.just]; omega)
    have hb := hb.ext (by simp) hy (by simp only [Esc.just]; omega)
    have hown := hown.ext hy (fun ad h e => by have := (hown.base ad h).1; have e : ad.block = g := e; omega)
    have hp := hp.ext (by simp) hy (by simp only [Esc.just]; omega)
    replace hNs := Nat.lt_of_lt_of_le hNs hy.size
    replace hx := hx.comp hy
    obtain ⟨m2, hm⟩ : ∃ n, n = (rInt t1).1 := ⟨_, rfl⟩
    obtain ⟨t2, hs⟩ : ∃ q, q = (rInt t1).2 := ⟨_, rfl⟩
    rw [← hs] at h
    rw [← hm]
    have HM2 := Lib.hid hm
    have HT2 := Lib.hid hs
    clear hm hs hy
    have cK := hp.cell 2 _ rfl
    have fK := hp.fr 2
    go_upto_region 13 with fail
    have hy : Ext (just p) z2 (z2.setCell ⟨p, 2, none⟩ (.int .i64 m2)) := Ext.setCell _ _ _ rfl
    have hp : Blk (z2.setCell ⟨p, 2, none⟩ (.int .i64 m2)) p [.string (str m0), .int .i64 m1, .int .i64 m2, .int .i64 0] := hp.set 2 (.int .i64 m2) (by simp)
    have hz := hz.ext (by simp) hy (by simp only [Esc.just]; omega)
    have hb := hb.ext (by simp) hy (by simp only [Esc.just]; omega)
    have hown := hown.ext hy (fun ad h e => by have := hop ad h; have e : ad.block = p := e; omega)
    have h : XRdr (z2.setCell ⟨p, 2, none⟩ (.int .i64 m2)) g a c b t2.l t2.e := h.ext hy (by simp only [Esc.just]; omega) (fun hb ad ha e => by have := hlow hb ad ha; have e : ad.block = p := e; omega)
    replace hx : Ext (just g) w (z2.setCell ⟨p, 2, none⟩ (.int .i64 m2)) := hx.trans hy (fun k hk e => by have e : k = p := e; omega)
    replace hNs := Nat.lt_of_lt_of_le hNs hy.size
    clear hy cK fK
    generalize z2.setCell ⟨p, 2, none⟩ (.int .i64 m2) = y2 at *
    go_wp2_with fail
    refine (xint_any y2 g t2 h).mono ?_
    rintro e z3 ⟨rfl, h, hy⟩
    have hz := hz.ext (by simp) hy (by simp only [Esc.just]; omega)
    have hb := hb.ext (by simp) hy (by simp only [Esc.just]; omega)
    have hown := hown.ext hy (fun ad h e => by have := (hown.base ad h).1; have e : ad.block = g := e; omega)
    have hp := hp.ext (by simp) hy (by simp only [Esc.just]; omega)
    replace hNs := Nat.lt_of_lt_of_le hNs hy.size
    replace hx := hx.comp hy
    obtain ⟨m3, hm⟩ : ∃ n, n = (rInt t2).1 := ⟨_, rfl⟩
    obtain ⟨t3, hs⟩ : ∃ q, q = (rInt t2).2 := ⟨_, rfl⟩
    rw [← hs] at h
    rw [← hm]
    have HM3 := Lib.hid hm
    have HT3 := Lib.hid hs
    clear hm hs hy
    have cK := hp.cell 3 _ rfl
    have fK := hp.fr 3
    go_upto_region 14 with fail
    have hy : Ext (just p) z3 (z3.setCell ⟨p, 3, none⟩ (.int .i64 m3)) := Ext.setCell _ _ _ rfl
    have hp : Blk (z3.setCell ⟨p, 3, none⟩ (.int .i64 m3)) p [.string (str m0), .int .i64 m1, .int .i64 m2, .int .i64 m3] := hp.set 3 (.int .i64 m3) (by simp)
    have hz := hz.ext (by simp) hy (by simp only [Esc.just]; omega)
    have hb := hb.ext (by simp) hy (by simp only [Esc.just]; omega)
    have hown := hown.ext hy (fun ad h e => by have := hop ad h; have e : ad.block = p := e; omega)
    have h : XRdr (z3.setCell ⟨p, 3, none⟩ (.int .i64 m3)) g a c b t3.l t3.e := h.ext hy (by simp only [Esc.just]; omega) (fun hb ad ha e => by have := hlow hb ad ha; have e : ad.block = p := e; omega)
    replace hx : Ext (just g) w (z3.setCell ⟨p, 3, none⟩ (.int .i64 m3)) := hx.trans hy (fun k hk e => by have e : k = p := e; omega)
    replace hNs := Nat.lt_of_lt_of_le hNs hy.size
    clear hy cK fK
    generalize z3.setCell ⟨p, 3, none⟩ (.int .i64 m3) = y3 at *
    have c0 := hp.cell 0 _ rfl
    have c1 := hp.cell 1 _ rfl
    have c2 := hp.cell 2 _ rfl
    have c3 := hp.cell 3 _ rfl
    have c5 := hb.cell 5 _ rfl
    have hya := Ext.alloc no y3 (.cells #[.string (str m0), .int .i64 m1, .int .i64 m2, .int .i64 m3] 105)
    go_wp2_with (at_builtin; refine wpList_append TyWants rfl rfl rfl (hown.alloc _) rfl (Rd.lit y3 #[.string (str m0), .int .i64 m1, .int .i64 m2, .int .i64 m3] 105 (0, 0)) (m := 1) rfl (by intro u hu; simp at hu; rcases hu with rfl | rfl | rfl | rfl <;> rfl) (by unfold maxLen; have := HD.out; omega) (by have := HD.out; omega) (by simp; omega) ?_)
    intro a8 c8 w8 hA
    have hNb : ∀ k, k ≤ r → ¬ blk a1 k := fun k hk => by rintro ⟨ad, ha, e⟩; have := (hown.base ad ha).1; omega
    have hz := (hz.ext (by simp) hya (fun h => h)).ext (by simp) hA.ext (hNb _ (by omega))
    have hb := (hb.ext (by simp) hya (fun h => h)).ext (by simp) hA.ext (hNb _ (by omega))
    have h := (h.no hya).ext hA.ext (hNb _ (by omega)) (fun hb ad ha => hNb _ (by have := hlow hb ad ha; omega))
    replace hx : Ext (just g) w w8 := (hx.comp (hya.mono (fun _ _ e => e.elim))).trans hA.ext (fun k hk e => (hNb k (by omega) e).elim)
    have hNs := Nat.lt_of_lt_of_le (Nat.lt_of_lt_of_le hNs hya.size) hA.ext.size
    have ho8 := hA.own
    have c5 := hb.cell 5 _ rfl
    have f5 := hb.fr 5
    clear hA hya c0 c1 c2 c3
    obtain ⟨dd, hdd⟩ : ∃ dd : WantR, dd = ⟨m0, m1, m2, m3⟩ := ⟨_, rfl⟩
    have HDD := Lib.hid (show dd = (pWant sr).1 by rw [hdd]; unfold pWant; simp only [← HM0.out, ← HT0.out, ← HM1.out, ← HT1.out, ← HM2.out, ← HT2.out, ← HM3.out, ← HT3.out])
    have HSQ := Lib.hid (show t3 = (pWant sr).2 by unfold pWant; simp only [← HM0.out, ← HT0.out, ← HM1.out, ← HT1.out, ← HM2.out, ← HT2.out, ← HM3.out, ← HT3.out])
    have hy : Ext (just r) w8 (w8.setCell ⟨r, 5, none⟩ (.slice a8 (D.length + 1) c8)) := Ext.setCell _ _ _ rfl
    have hb9 : Blk (w8.setCell ⟨r, 5, none⟩ (.slice a8 (D.length + 1) c8)) r [.int .i64 i1, .int .i64 i2, .int .i64 i3, .int .i64 i4, .int .i64 i5, .slice a8 (D ++ [dd]).length c8, .slice none 0 0] := by rw [List.length_append]; exact hb.set 5 (.slice a8 (D.length + 1) c8) (by simp)
    have hz9 := hz.ext (by simp) hy (by simp only [Esc.just]; omega)
    have h9 : XRdr (w8.setCell ⟨r, 5, none⟩ (.slice a8 (D.length + 1) c8)) g a c b t3.l t3.e := h.ext hy (by simp only [Esc.just]; omega) (fun hb ad ha e => by have := hlow hb ad ha; have e : ad.block = r := e; omega)
    have ho9 : Own (w8.setCell ⟨r, 5, none⟩ (.slice a8 (D.length + 1) c8)) (r + 1) a8 4 (D ++ [dd]).length c8 (rows WantR.cells (D ++ [dd])) := by
     rw [rows_append, rows_one, List.length_append, hdd]
     exact ho8.ext hy (fun ad h e => by have := (ho8.base ad h).1; have e : ad.block = r := e; omega)
    have hx9 : Ext (just g) w (w8.setCell ⟨r, 5, none⟩ (.slice a8 (D.length + 1) c8)) := hx.trans hy (fun k hk e => by have e : k = r := e; omega)
    have hNs9 := Nat.lt_of_lt_of_le hNs hy.size
    have HL := Lib.hid (show (D ++ [dd]).length = i + 1 by rw [List.length_append, HD.out]; rfl)
    have HN := Lib.hid (show xRow pWant M t = ((D ++ [dd]) ++ (xRow pWant (M - (i + 1)) t3).1, (xRow pWant (M - (i + 1)) t3).2) by rw [HPD.out, HPS.out, ← HDD.out, ← HSQ.out]; simp)
    clear hb h ho8 hx hz hdd hy hNs
    go_wp2_with fail
    go_roundw
    case rel => exact ⟨i + 1, D ++ [dd], a8, c8, t3, by omega, by go_num, HL.out, HN.out, h9, hb9, hz9, hNs9, ho9, hx9⟩
    case measure => simp [intOf]; omega
   | false =>
    have HEND := Lib.hid (show xRow pWant M t = (D, sr) by rw [HPD.out, xRow_stop pWant (of_decide_eq_false Htt.out.symm)]; simp)
    clear HPD Htt
    have hNr := hNs
    have hsr := hx.size
    go_wp2_with fail
    refine (xreadOps_any wr g sr h).mono ?_
    rintro e w2 ⟨a2, c2, G, rfl, hGm, hacc, h, hy⟩
    have hz := hz.ext (by simp) hy (by simp only [Esc.just]; omega)
    have hb := hb.ext (by simp) hy (by simp only [Esc.just]; omega)
    have hown := hown.ext hy (fun ad h e => by have := (hown.base ad h).1; have e : ad.block = g := e; omega)
    replace hNs := Nat.lt_of_lt_of_le hNs hy.size
    replace hx := hx.comp hy
    obtain ⟨lo, hlo⟩ : ∃ l, l = (xOps sr).1 := ⟨_, rfl⟩
    obtain ⟨sn, hsn⟩ : ∃ l, l = (xOps sr).2 := ⟨_, rfl⟩
    rw [← hlo] at hGm
    rw [← hsn] at h
    rw [← hlo]
    have HCM := Lib.hid (show xCmd s0 = (⟨i1, i2, i3, i4, i5, D, lo⟩, sn) by
     unfold xCmd
     simp only [← HN1.out, ← HS1.out, ← HN2.out, ← HS2.out, ← HN3.out, ← HS3.out, ← HN4.out, ← HS4.out, ← HN5.out, ← HS5.out, HSZ.out, HEND.out, ← hlo, ← hsn])
    clear hlo hsn hy HN1 HS1 HN2 HS2 HN3 HS3 HN4 HS4 HN5 HS5 HSZ HEND
    have hbr := hb.lt (by simp)
    have hs2 := hx.size
    have cK := hb.cell 6 _ rfl
    have fK := hb.fr 6
    go_upto_region 16 with fail
    have hy : Ext (just r) w2 (w2.setCell ⟨r, 6, none⟩ (.slice a2 lo.length c2)) := Ext.setCell _ _ _ rfl
    have hb : Blk (w2.setCell ⟨r, 6, none⟩ (.slice a2 lo.length c2)) r [.int .i64 i1, .int .i64 i2, .int .i64 i3, .int .i64 i4, .int .i64 i5, .slice a1 D.length c6, .slice a2 lo.length c2] := hb.set 6 (.slice a2 lo.length c2) (by simp)
    have hz := hz.ext (by simp) hy (by simp only [Esc.just]; omega)
    have h : XRdr (w2.setCell ⟨r, 6, none⟩ (.slice a2 lo.length c2)) g a c b sn.l sn.e := h.ext hy (by simp only [Esc.just]; omega) (fun hb ad ha e => by have := hlow hb ad ha; have e : ad.block = r := e; omega)
    have hown := hown.ext hy (fun ad h e => by have := (hown.base ad h).1; have e : ad.block = r := e; omega)
    have hacc := hacc.low hy (fun k e => by have e : k = r := e; omega)
    replace hx : Ext (just g) w _ := hx.trans hy (fun k hk e => by have e : k = r := e; omega)
    clear hy cK fK
    generalize w2.setCell ⟨r, 6, none⟩ (.slice a2 lo.length c2) = w3 at *
    have b0 := hb.cell 0 _ rfl
    have b1 := hb.cell 1 _ rfl
    have b2 := hb.cell 2 _ rfl
    have b3 := hb.cell 3 _ rfl
    have b4 := hb.cell 4 _ rfl
    have b5 := hb.cell 5 _ rfl
    have b6 := hb.cell 6 _ rfl
    have z0 := hz.cell 0 _ rfl
    have z1 := hz.cell 1 _ rfl
    have z2 := hz.cell 2 _ rfl
    have z3 := hz.cell 3 _ rfl
    have z4 := hz.cell 4 _ rfl
    have z5 := hz.cell 5 _ rfl
    have z6 := hz.cell 6 _ rfl
    have f0 := hz.fr 0
    have f1 := hz.fr 1
    have f2 := hz.fr 2
    have f3 := hz.fr 3
    have f4 := hz.fr 4
    have f5 := hz.fr 5
    have f6 := hz.fr 6
    have hy : Ext (just q) w3 (((((((w3.setCell ⟨q, 0, none⟩ (.int .i64 i1)).setCell ⟨q, 1, none⟩ (.int .i64 i2)).setCell ⟨q, 2, none⟩ (.int .i64 i3)).setCell ⟨q, 3, none⟩ (.int .i64 i4)).setCell ⟨q, 4, none⟩ (.int .i64 i5)).setCell ⟨q, 5, none⟩ (.slice a1 D.length c6)).setCell ⟨q, 6, none⟩ (.slice a2 lo.length c2)) := ((((((((Ext.refl (just q) w3).comp (Ext.setCell _ ⟨q, 0, none⟩ (.int .i64 i1) rfl)).comp (Ext.setCell _ ⟨q, 1, none⟩ (.int .i64 i2) rfl)).comp (Ext.setCell _ ⟨q, 2, none⟩ (.int .i64 i3) rfl)).comp (Ext.setCell _ ⟨q, 3, none⟩ (.int .i64 i4) rfl)).comp (Ext.setCell _ ⟨q, 4, none⟩ (.int .i64 i5) rfl)).comp (Ext.setCell _ ⟨q, 5, none⟩ (.slice a1 D.length c6) rfl)).comp (Ext.setCell _ ⟨q, 6, none⟩ (.slice a2 lo.length c2) rfl))
    have hze : Blk (((((((w3.setCell ⟨q, 0, none⟩ (.int .i64 i1)).setCell ⟨q, 1, none⟩ (.int .i64 i2)).setCell ⟨q, 2, none⟩ (.int .i64 i3)).setCell ⟨q, 3, none⟩ (.int .i64 i4)).setCell ⟨q, 4, none⟩ (.int .i64 i5)).setCell ⟨q, 5, none⟩ (.slice a1 D.length c6)).setCell ⟨q, 6, none⟩ (.slice a2 lo.length c2)) q ((⟨i1, i2, i3, i4, i5, D, lo⟩ : CmdR).cells ⟨a1, c6, a2, c2⟩) := (((((((hz.set 0 (.int .i64 i1) (by simp)).set 1 (.int .i64 i2) (by simp)).set 2 (.int .i64 i3) (by simp)).set 3 (.int .i64 i4) (by simp)).set 4 (.int .i64 i5) (by simp)).set 5 (.slice a1 D.length c6) (by simp)).set 6 (.slice a2 lo.length c2) (by simp))
    have hxe : Ext (just g) w (((((((w3.setCell ⟨q, 0, none⟩ (.int .i64 i1)).setCell ⟨q, 1, none⟩ (.int .i64 i2)).setCell ⟨q, 2, none⟩ (.int .i64 i3)).setCell ⟨q, 3, none⟩ (.int .i64 i4)).setCell ⟨q, 4, none⟩ (.int .i64 i5)).setCell ⟨q, 5, none⟩ (.slice a1 D.length c6)).setCell ⟨q, 6, none⟩ (.slice a2 lo.length c2)) := hx.trans hy (fun i hi h => by simp only [Esc.just] at h; omega)
    have h : XRdr (((((((w3.setCell ⟨q, 0, none⟩ (.int .i64 i1)).setCell ⟨q, 1, none⟩ (.int .i64 i2)).setCell ⟨q, 2, none⟩ (.int .i64 i3)).setCell ⟨q, 3, none⟩ (.int .i64 i4)).setCell ⟨q, 4, none⟩ (.int .i64 i5)).setCell ⟨q, 5, none⟩ (.slice a1 D.length c6)).setCell ⟨q, 6, none⟩ (.slice a2 lo.length c2)) g a c b sn.l sn.e := h.ext hy (by simp only [Esc.just]; omega) (fun hb ad ha e => by have := hlow hb ad ha; have e : ad.block = q := e; omega)
    have hown := hown.ext hy (fun ad h e => by have := (hown.base ad h).1; have e : ad.block = q := e; omega)
    have hacc := hacc.low hy (fun k e => by have e : k = q := e; omega)
    go_wp2_with fail
    generalize (((((((w3.setCell ⟨q, 0, none⟩ (.int .i64 i1)).setCell ⟨q, 1, none⟩ (.int .i64 i2)).setCell ⟨q, 2, none⟩ (.int .i64 i3)).setCell ⟨q, 3, none⟩ (.int .i64 i4)).setCell ⟨q, 4, none⟩ (.int .i64 i5)).setCell ⟨q, 5, none⟩ (.slice a1 D.length c6)).setCell ⟨q, 6, none⟩ (.slice a2 lo.length c2)) = wz at *
    refine bodyPost_ret (v := (⟨i1, i2, i3, i4, i5, D, lo⟩ : CmdR).val ⟨a1, c6, a2, c2⟩) ?_ rfl ⟨⟨a1, c6, a2, c2⟩, by rw [HCM.out], ?_, by rw [HCM.out]; exact h, hxe⟩
    ·exact cmd_result rfl _ _ (by rfl) hze
    ·rw [HCM.out]
     intro S wy hy hS
     have hacc2 := hacc.keep hy (fun k hk => by have := hS k hk; omega)
     have hin := hacc2.in
     rw [hGm] at hin
     exact ⟨own_keep hown (by omega) hy hS, hin, hown.nc, by have := hacc2.own.nc; rw [← hGm, List.length_map]; exact this, hown.cm, hacc2.own.cm⟩
end Go.Proofs.YtddobhihjljcgaaGreat
