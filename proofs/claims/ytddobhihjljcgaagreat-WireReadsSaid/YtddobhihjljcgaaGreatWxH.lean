/- The reference's readers of an error's number, of a reply. -/
import Derived.Test.YtddobhihjljcgaaGreatWxC
import Derived.Test.YtddobhihjljcgaaGreatRefAG
namespace Go.Esc
open Go.RowKit
set_option linter.unusedVariables false
set_option linter.unusedSimpArgs false
def xReply (s : RS) : ReplyR × RS :=
 let a := pErr s
 let b := rInt a.2
 let c := rInt b.2
 let d := rInt c.2
 let e := rInt d.2
 let f := rInt e.2
 let n := pSize 20 f.2
 let w := xRow pSlice n.1 n.2
 let m := pSize 100 w.2
 let i := xRow pRange m.1 m.2
 let u := rInts i.2
 (⟨a.1, b.1, c.1, d.1, e.1, f.1, w.1, i.1, u.1⟩, u.2)
theorem xSlices_state (n : Nat) (s : RS) : (xRow pSlice n s).2 = (pRow pSlice n s).2 := xRow_state (fun _ => rfl) (fun s h => pSlice_stuck h) n s
theorem xRanges_state (n : Nat) (s : RS) : (xRow pRange n s).2 = (pRow pRange n s).2 := xRow_state (fun _ => rfl) (fun s h => pRange_stuck h) n s
theorem rInts_e {s : RS} (h : (rInts s).2.e = 0) : s.e = 0 := by
 by_cases h0 : s.e = 0
 ·exact h0
 ·rw [rInts_skip h0] at h; exact h
theorem xReply_state (s : RS) : (xReply s).2 = (wReply s).2 := by
 unfold xReply wReply
 simp only [xSlices_state, xRanges_state]
theorem xReply_val (s : RS) (h : (wReply s).2.e = 0) : (xReply s).1 = (wReply s).1 := by
 unfold wReply at h
 simp only at h
 have h1 := rInts_e h
 have h2 := pSize_e (pRow_e (fun s h => pRange_stuck h) _ _ h1)
 unfold xReply wReply
 simp only [xSlices_state, xRanges_state]
 rw [xRow_list (fun _ _ => rfl) (fun _ => rfl) (fun s h => pSlice_stuck h) _ _ h2, xRow_list (fun _ _ => rfl) (fun _ => rfl) (fun s h => pRange_stuck h) _ _ h1]
end Go.Esc
namespace Go.Proofs.YtddobhihjljcgaaGreat
open Go.RowKit Go.Esc
set_option linter.unusedVariables false
set_option linter.unusedSimpArgs false
theorem reply_result2 {fn : Func} {p : Tmp} (hf : fn.results = #[.cell p 34]) (tmps : Array Value) (w : World) {q : Nat} {c : ReplyR} {k : ReplyA} (h1 : tmps.getD p undef = .pointer (some ⟨q, 0, none⟩)) (hC : Blk w q (c.cells k)) :
  (results fn tmps).run Tryz.prog w = .ok (c.val k) w := by
 rw [results_cell1 hf, h1]
 have := run_loadVar_mid (P := Tryz.prog) w q 0 34 (c.cells k) _ hC.range Tryz.underlying34 rfl (by kernel_rfl)
 simp only [asAddr, Sem.run_pure, Result.andThen_ok, this]
 rfl
set_option maxRecDepth 100000 in
set_option maxHeartbeats 4000000 in
theorem xerrno_any (w : World) (g : Nat) {a : Option Addr} {c : Nat} {b : List UInt8} (s : RS) (h : XRdr w g a c b s.l s.e) :
  Calls Tryz.prog 69 #[.pointer (some ⟨g, 0, none⟩)] w fun e w' => e = .returned (.int .i64 (pErr s).1) ∧ XRdr w' g a c b (pErr s).2.l (pErr s).2.e ∧ Ext (just g) w w' := by
 go_enter Tryz.func69, Tryz.ntmps69
 go_wp2_with fail
 refine (xint_any w g s h).mono ?_
 rintro e w1 ⟨rfl, h, hx⟩
 obtain ⟨n, hn⟩ : ∃ n, n = (rInt s).1 := ⟨_, rfl⟩
 obtain ⟨t, ht⟩ : ∃ t, t = (rInt s).2 := ⟨_, rfl⟩
 rw [← ht] at h
 rw [← hn]
 have HQ := Lib.hid (show pErr s = (n, if n < 0 ∨ 22 < n then rFail t 10 else t) by unfold pErr; rw [← hn, ← ht])
 clear hn ht
 by_cases c0 : n < 0
 ·have d0 : decide (n < 0) = true := decT c0
  have HR := Lib.hid (show pErr s = (n, rFail t 10) by rw [HQ.out, if_pos (by omega)])
  clear c0 HQ
  go_wp2_with fail
  refine (xfail_any w1 g t.l t.e 10 h).mono ?_
  rintro e w2 ⟨rfl, hr', hx'⟩
  have h : XRdr w2 g a c b (rFail t 10).l (rFail t 10).e := by rw [(rFail_l t 10).1, (rFail_l t 10).2]; exact hr'
  replace hx := hx.comp hx'
  clear hr' hx'
  go_wp2_with fail
  go_ret
  exact ⟨by rw [HR.out]; rfl, by rw [HR.out]; exact h, hx⟩
 ·have d0 : decide (n < 0) = false := decF c0
  by_cases c1 : 22 < n
  ·have d1 : decide (22 < n) = true := decT c1
   have HR := Lib.hid (show pErr s = (n, rFail t 10) by rw [HQ.out, if_pos (by omega)])
   clear c0 c1 HQ
   go_wp2_with fail
   refine (xfail_any w1 g t.l t.e 10 h).mono ?_
   rintro e w2 ⟨rfl, hr', hx'⟩
   have h : XRdr w2 g a c b (rFail t 10).l (rFail t 10).e := by rw [(rFail_l t 10).1, (rFail_l t 10).2]; exact hr'
   replace hx := hx.comp hx'
   clear hr' hx'
   go_wp2_with fail
   go_ret
   exact ⟨by rw [HR.out]; rfl, by rw [HR.out]; exact h, hx⟩
  ·have d1 : decide (22 < n) = false := decF c1
   have HR := Lib.hid (show pErr s = (n, t) by rw [HQ.out, if_neg (by omega)])
   clear c0 c1 HQ
   go_wp2_with fail
   go_ret
   exact ⟨by rw [HR.out]; rfl, by rw [HR.out]; exact h, hx⟩
set_option maxRecDepth 100000 in
set_option maxHeartbeats 32000000 in
theorem xreadReply_any (w : World) (g : Nat) {a : Option Addr} {c : Nat} {b : List UInt8} (s0 : RS) (h : XRdr w g a c b s0.l s0.e) :
  Calls Tryz.prog 67 #[.pointer (some ⟨g, 0, none⟩)] w fun e w' => ∃ k : ReplyA, e = .returned ((xReply s0).1.val k) ∧ Kept w w' (fun wz => (xReply s0).1.In wz k) ∧ XRdr w' g a c b (xReply s0).2.l (xReply s0).2.e ∧ Ext (just g) w w' := by
 have hgw := h.lt
 have hlow := fun hb ad ha => xrdr_low h hb ad ha
 go_enter Tryz.func67, Tryz.ntmps67
 go_upto_region 1 with fail
 have hz := Blk.lit w #[.int .i64 0, .int .i64 0, .int .i64 0, .int .i64 0, .int .i64 0, .int .i64 0, .slice none 0 0, .slice none 0 0, .slice none 0 0] 34
 have hy := Ext.alloc no w (.cells #[.int .i64 0, .int .i64 0, .int .i64 0, .int .i64 0, .int .i64 0, .int .i64 0, .slice none 0 0, .slice none 0 0, .slice none 0 0] 34)
 have h := h.no hy
 have hx : Ext (just g) w (w.alloc (.cells #[.int .i64 0, .int .i64 0, .int .i64 0, .int .i64 0, .int .i64 0, .int .i64 0, .slice none 0 0, .slice none 0 0, .slice none 0 0] 34)) := hy.mono (fun _ _ e => e.elim)
 clear hy
 generalize w.alloc (.cells #[.int .i64 0, .int .i64 0, .int .i64 0, .int .i64 0, .int .i64 0, .int .i64 0, .slice none 0 0, .slice none 0 0, .slice none 0 0] 34) = v0 at *
 obtain ⟨q, hq⟩ : ∃ q, q = w.heap.size := ⟨_, rfl⟩
 have hwq : w.heap.size ≤ q := by omega
 rw [← hq] at hz ⊢
 clear hq
 have hz : Blk v0 q [.int .i64 0, .int .i64 0, .int .i64 0, .int .i64 0, .int .i64 0, .int .i64 0, .slice none 0 0, .slice none 0 0, .slice none 0 0] := hz
 go_wp2_with fail
 refine (xerrno_any v0 g s0 h).mono ?_
 rintro e v1 ⟨rfl, h, hy⟩
 have hz := hz.ext (by simp) hy (by simp only [Esc.just]; omega)
 replace hx := hx.comp hy
 clear hy
 obtain ⟨i1, hn⟩ : ∃ n, n = (pErr s0).1 := ⟨_, rfl⟩
 obtain ⟨s1, hs⟩ : ∃ q, q = (pErr s0).2 := ⟨_, rfl⟩
 rw [← hs] at h
 rw [← hn]
 have HN1 := Lib.hid hn
 have HS1 := Lib.hid hs
 clear hn hs
 go_upto_region 2 with fail
 have hb : Blk (v1.alloc (.cells #[.int .i64 i1, .int .i64 0, .int .i64 0, .int .i64 0, .int .i64 0, .int .i64 0, .slice none 0 0, .slice none 0 0, .slice none 0 0] 34)) v1.heap.size [.int .i64 i1, .int .i64 0, .int .i64 0, .int .i64 0, .int .i64 0, .int .i64 0, .slice none 0 0, .slice none 0 0, .slice none 0 0] := Blk.lit v1 #[.int .i64 i1, .int .i64 0, .int .i64 0, .int .i64 0, .int .i64 0, .int .i64 0, .slice none 0 0, .slice none 0 0, .slice none 0 0] 34
 have hy := Ext.alloc no v1 (.cells #[.int .i64 i1, .int .i64 0, .int .i64 0, .int .i64 0, .int .i64 0, .int .i64 0, .slice none 0 0, .slice none 0 0, .slice none 0 0] 34)
 have hqv := hz.lt (by simp)
 have h := h.no hy
 have hz := hz.ext (by simp) hy (fun h => h)
 have hsv := hx.size
 replace hx := hx.comp (hy.mono (S' := just g) (fun _ _ e => e.elim))
 have hNs : v1.heap.size < (v1.alloc (.cells #[.int .i64 i1, .int .i64 0, .int .i64 0, .int .i64 0, .int .i64 0, .int .i64 0, .slice none 0 0, .slice none 0 0, .slice none 0 0] 34)).heap.size := by simp
 clear hy
 generalize v1.alloc (.cells #[.int .i64 i1, .int .i64 0, .int .i64 0, .int .i64 0, .int .i64 0, .int .i64 0, .slice none 0 0, .slice none 0 0, .slice none 0 0] 34) = u1 at *
 obtain ⟨r, hr⟩ : ∃ r, r = v1.heap.size := ⟨_, rfl⟩
 rw [← hr] at hb hNs ⊢
 have hqr : q < r := by omega
 have hgr : g < r := by omega
 clear hr hqv hsv
 go_wp2_with fail
 refine (xint_any u1 g s1 h).mono ?_
 rintro e v2 ⟨rfl, h, hy⟩
 have hz := hz.ext (by simp) hy (by simp only [Esc.just]; omega)
 have hb := hb.ext (by simp) hy (by simp only [Esc.just]; omega)
 replace hx := hx.comp hy
 replace hNs := Nat.lt_of_lt_of_le hNs hy.size
 clear hy
 obtain ⟨i2, hn⟩ : ∃ n, n = (rInt s1).1 := ⟨_, rfl⟩
 obtain ⟨s2, hs⟩ : ∃ q, q = (rInt s1).2 := ⟨_, rfl⟩
 rw [← hs] at h
 rw [← hn]
 have HN2 := Lib.hid hn
 have HS2 := Lib.hid hs
 clear hn hs
 have cK := hb.cell 1 _ rfl
 have fK := hb.fr 1
 go_upto_region 3 with fail
 have hy : Ext (just r) v2 (v2.setCell ⟨r, 1, none⟩ (.int .i64 i2)) := Ext.setCell _ _ _ rfl
 have hb : Blk (v2.setCell ⟨r, 1, none⟩ (.int .i64 i2)) r [.int .i64 i1, .int .i64 i2, .int .i64 0, .int .i64 0, .int .i64 0, .int .i64 0, .slice none 0 0, .slice none 0 0, .slice none 0 0] := hb.set 1 (.int .i64 i2) (by simp)
 have hz := hz.ext (by simp) hy (by simp only [Esc.just]; omega)
 have h : XRdr (v2.setCell ⟨r, 1, none⟩ (.int .i64 i2)) g a c b _ _ := h.ext hy (by simp only [Esc.just]; omega) (fun hb ad ha e => by have := hlow hb ad ha; have e : ad.block = r := e; omega)
 replace hx : Ext (just g) w (v2.setCell ⟨r, 1, none⟩ (.int .i64 i2)) := hx.trans hy (fun k hk e => by have e : k = r := e; omega)
 replace hNs := Nat.lt_of_lt_of_le hNs hy.size
 clear hy cK fK
 generalize (v2.setCell ⟨r, 1, none⟩ (.int .i64 i2)) = u2 at *
 go_wp2_with fail
 refine (xint_any u2 g s2 h).mono ?_
 rintro e v3 ⟨rfl, h, hy⟩
 have hz := hz.ext (by simp) hy (by simp only [Esc.just]; omega)
 have hb := hb.ext (by simp) hy (by simp only [Esc.just]; omega)
 replace hx := hx.comp hy
 replace hNs := Nat.lt_of_lt_of_le hNs hy.size
 clear hy
 obtain ⟨i3, hn⟩ : ∃ n, n = (rInt s2).1 := ⟨_, rfl⟩
 obtain ⟨s3, hs⟩ : ∃ q, q = (rInt s2).2 := ⟨_, rfl⟩
 rw [← hs] at h
 rw [← hn]
 have HN3 := Lib.hid hn
 have HS3 := Lib.hid hs
 clear hn hs
 have cK := hb.cell 2 _ rfl
 have fK := hb.fr 2
 go_upto_region 4 with fail
 have hy : Ext (just r) v3 (v3.setCell ⟨r, 2, none⟩ (.int .i64 i3)) := Ext.setCell _ _ _ rfl
 have hb : Blk (v3.setCell ⟨r, 2, none⟩ (.int .i64 i3)) r [.int .i64 i1, .int .i64 i2, .int .i64 i3, .int .i64 0, .int .i64 0, .int .i64 0, .slice none 0 0, .slice none 0 0, .slice none 0 0] := hb.set 2 (.int .i64 i3) (by simp)
 have hz := hz.ext (by simp) hy (by simp only [Esc.just]; omega)
 have h : XRdr (v3.setCell ⟨r, 2, none⟩ (.int .i64 i3)) g a c b _ _ := h.ext hy (by simp only [Esc.just]; omega) (fun hb ad ha e => by have := hlow hb ad ha; have e : ad.block = r := e; omega)
 replace hx : Ext (just g) w (v3.setCell ⟨r, 2, none⟩ (.int .i64 i3)) := hx.trans hy (fun k hk e => by have e : k = r := e; omega)
 replace hNs := Nat.lt_of_lt_of_le hNs hy.size
 clear hy cK fK
 generalize (v3.setCell ⟨r, 2, none⟩ (.int .i64 i3)) = u3 at *
 go_wp2_with fail
 refine (xint_any u3 g s3 h).mono ?_
 rintro e v4 ⟨rfl, h, hy⟩
 have hz := hz.ext (by simp) hy (by simp only [Esc.just]; omega)
 have hb := hb.ext (by simp) hy (by simp only [Esc.just]; omega)
 replace hx := hx.comp hy
 replace hNs := Nat.lt_of_lt_of_le hNs hy.size
 clear hy
 obtain ⟨i4, hn⟩ : ∃ n, n = (rInt s3).1 := ⟨_, rfl⟩
 obtain ⟨s4, hs⟩ : ∃ q, q = (rInt s3).2 := ⟨_, rfl⟩
 rw [← hs] at h
 rw [← hn]
 have HN4 := Lib.hid hn
 have HS4 := Lib.hid hs
 clear hn hs
 have cK := hb.cell 3 _ rfl
 have fK := hb.fr 3
 go_upto_region 5 with fail
 have hy : Ext (just r) v4 (v4.setCell ⟨r, 3, none⟩ (.int .i64 i4)) := Ext.setCell _ _ _ rfl
 have hb : Blk (v4.setCell ⟨r, 3, none⟩ (.int .i64 i4)) r [.int .i64 i1, .int .i64 i2, .int .i64 i3, .int .i64 i4, .int .i64 0, .int .i64 0, .slice none 0 0, .slice none 0 0, .slice none 0 0] := hb.set 3 (.int .i64 i4) (by simp)
 have hz := hz.ext (by simp) hy (by simp only [Esc.just]; omega)
 have h : XRdr (v4.setCell ⟨r, 3, none⟩ (.int .i64 i4)) g a c b _ _ := h.ext hy (by simp only [Esc.just]; omega) (fun hb ad ha e => by have := hlow hb ad ha; have e : ad.block = r := e; omega)
 replace hx : Ext (just g) w (v4.setCell ⟨r, 3, none⟩ (.int .i64 i4)) := hx.trans hy (fun k hk e => by have e : k = r := e; omega)
 replace hNs := Nat.lt_of_lt_of_le hNs hy.size
 clear hy cK fK
 generalize (v4.setCell ⟨r, 3, none⟩ (.int .i64 i4)) = u4 at *
 go_wp2_with fail
 refine (xint_any u4 g s4 h).mono ?_
 rintro e v5 ⟨rfl, h, hy⟩
 have hz := hz.ext (by simp) hy (by simp only [Esc.just]; omega)
 have hb := hb.ext (by simp) hy (by simp only [Esc.just]; omega)
 replace hx := hx.comp hy
 replace hNs := Nat.lt_of_lt_of_le hNs hy.size
 clear hy
 obtain ⟨i5, hn⟩ : ∃ n, n = (rInt s4).1 := ⟨_, rfl⟩
 obtain ⟨s5, hs⟩ : ∃ q, q = (rInt s4).2 := ⟨_, rfl⟩
 rw [← hs] at h
 rw [← hn]
 have HN5 := Lib.hid hn
 have HS5 := Lib.hid hs
 clear hn hs
 have cK := hb.cell 4 _ rfl
 have fK := hb.fr 4
 go_upto_region 6 with fail
 have hy : Ext (just r) v5 (v5.setCell ⟨r, 4, none⟩ (.int .i64 i5)) := Ext.setCell _ _ _ rfl
 have hb : Blk (v5.setCell ⟨r, 4, none⟩ (.int .i64 i5)) r [.int .i64 i1, .int .i64 i2, .int .i64 i3, .int .i64 i4, .int .i64 i5, .int .i64 0, .slice none 0 0, .slice none 0 0, .slice none 0 0] := hb.set 4 (.int .i64 i5) (by simp)
 have hz := hz.ext (by simp) hy (by simp only [Esc.just]; omega)
 have h : XRdr (v5.setCell ⟨r, 4, none⟩ (.int .i64 i5)) g a c b _ _ := h.ext hy (by simp only [Esc.just]; omega) (fun hb ad ha e => by have := hlow hb ad ha; have e : ad.block = r := e; omega)
 replace hx : Ext (just g) w (v5.setCell ⟨r, 4, none⟩ (.int .i64 i5)) := hx.trans hy (fun k hk e => by have e : k = r := e; omega)
 replace hNs := Nat.lt_of_lt_of_le hNs hy.size
 clear hy cK fK
 generalize (v5.setCell ⟨r, 4, none⟩ (.int .i64 i5)) = u5 at *
 go_wp2_with fail
 refine (xint_any u5 g s5 h).mono ?_
 rintro e v6 ⟨rfl, h, hy⟩
 have hz := hz.ext (by simp) hy (by simp only [Esc.just]; omega)
 have hb := hb.ext (by simp) hy (by simp only [Esc.just]; omega)
 replace hx := hx.comp hy
 replace hNs := Nat.lt_of_lt_of_le hNs hy.size
 clear hy
 obtain ⟨i6, hn⟩ : ∃ n, n = (rInt s5).1 := ⟨_, rfl⟩
 obtain ⟨s6, hs⟩ : ∃ q, q = (rInt s5).2 := ⟨_, rfl⟩
 rw [← hs] at h
 rw [← hn]
 have HN6 := Lib.hid hn
 have HS6 := Lib.hid hs
 clear hn hs
 have cK := hb.cell 5 _ rfl
 have fK := hb.fr 5
 go_upto_region 7 with fail
 have hy : Ext (just r) v6 (v6.setCell ⟨r, 5, none⟩ (.int .i64 i6)) := Ext.setCell _ _ _ rfl
 have hb : Blk (v6.setCell ⟨r, 5, none⟩ (.int .i64 i6)) r [.int .i64 i1, .int .i64 i2, .int .i64 i3, .int .i64 i4, .int .i64 i5, .int .i64 i6, .slice none 0 0, .slice none 0 0, .slice none 0 0] := hb.set 5 (.int .i64 i6) (by simp)
 have hz := hz.ext (by simp) hy (by simp only [Esc.just]; omega)
 have h : XRdr (v6.setCell ⟨r, 5, none⟩ (.int .i64 i6)) g a c b _ _ := h.ext hy (by simp only [Esc.just]; omega) (fun hb ad ha e => by have := hlow hb ad ha; have e : ad.block = r := e; omega)
 replace hx : Ext (just g) w (v6.setCell ⟨r, 5, none⟩ (.int .i64 i6)) := hx.trans hy (fun k hk e => by have e : k = r := e; omega)
 replace hNs := Nat.lt_of_lt_of_le hNs hy.size
 clear hy cK fK
 generalize (v6.setCell ⟨r, 5, none⟩ (.int .i64 i6)) = u6 at *
 go_wp2_with fail
 refine (xfew_any u6 g s6 20 (by omega) (by omega) h).mono ?_
 rintro e u7 ⟨rfl, h', hy⟩
 have hz := hz.ext (by simp) hy (by simp only [Esc.just]; omega)
 have hb := hb.ext (by simp) hy (by simp only [Esc.just]; omega)
 replace hx := hx.comp hy
 replace hNs := Nat.lt_of_lt_of_le hNs hy.size
 have hqM := pSize_le (m := 20) (by omega) s6
 obtain ⟨M, hM⟩ : ∃ M, M = (pSize 20 s6).1 := ⟨_, rfl⟩
 obtain ⟨t, ht⟩ : ∃ q, q = (pSize 20 s6).2 := ⟨_, rfl⟩
 have HSZ := Lib.hid (show pSize 20 s6 = (M, t) by rw [hM, ht])
 rw [← hM] at hqM ⊢
 rw [← ht] at h'
 clear hM ht h hy
 have h := h'
 clear h'
 have hNB : r + 1 ≤ u7.heap.size := hNs
 go_wp2_with fail
 go_loopw [5] (fun sI wr => ∃ (i : Nat) (D : List SliceR) (a1 : Option Addr) (c6 : Nat) (sr : RS), i ≤ M ∧ sI = .int .i64 i ∧ D.length = i ∧ xRow pSlice M t = (D ++ (xRow pSlice (M - i) sr).1, (xRow pSlice (M - i) sr).2) ∧ XRdr wr g a c b sr.l sr.e ∧ Blk wr r [.int .i64 i1, .int .i64 i2, .int .i64 i3, .int .i64 i4, .int .i64 i5, .int .i64 i6, .slice a1 D.length c6, .slice none 0 0, .slice none 0 0] ∧ Blk wr q [.int .i64 0, .int .i64 0, .int .i64 0, .int .i64 0, .int .i64 0, .int .i64 0, .slice none 0 0, .slice none 0 0, .slice none 0 0] ∧ r < wr.heap.size ∧ r + 1 ≤ wr.heap.size ∧ Own wr (r + 1) a1 5 D.length c6 (rows SliceR.cells D) ∧ Ext (just g) w wr) (fun sI _ => M - (intOf sI).toNat)
 case atStart => exact ⟨0, [], none, 0, t, by omega, rfl, rfl, by simp, h, hb, hz, hNs, hNB, Own.nil _ _ _, hx⟩
 case round =>
  clear h hb hx hNs hNB hz
  obtain ⟨i, D, a1, c6, sr, hi, rfl, hDl, hpd, h, hb, hz, hNs, hNB, hown, hx⟩ := hrel
  have HD := Lib.hid hDl
  have HPD := Lib.hid hpd
  clear hDl hpd
  obtain ⟨tt, htt⟩ : ∃ tt, tt = decide (i < M ∧ sr.e = 0) := ⟨_, rfl⟩
  have Htt := Lib.hid htt
  clear htt
  have hpe := h.err
  go_upto_region 9 with fail
  go_cut [42] (fun st wx => st = .bool tt ∧ wx = wr)
  case first =>
   by_cases k1 : i < M
   ·have d1 : decide (i < M) = true := decT k1
    by_cases k2 : sr.e = 0
    ·have d2 : (sr.e == 0) = true := by rw [beq_iff_eq]; exact k2
     have HT := Lib.hid (show tt = true by rw [Htt.out]; exact decT ⟨k1, k2⟩)
     clear k2
     go_wp2_with fail
     go_meet
     exact ⟨by rw [HT.out], rfl⟩
    ·have d2 : (sr.e == 0) = false := by rw [beq_eq_false_iff_ne]; exact k2
     have HT := Lib.hid (show tt = false by rw [Htt.out]; exact decF (fun h => k2 h.2))
     clear k2
     go_wp2_with fail
     go_meet
     exact ⟨by rw [HT.out], rfl⟩
   ·have d1 : decide (i < M) = false := decF k1
    have HT := Lib.hid (show tt = false by rw [Htt.out]; exact decF (fun h => k1 h.1))
    go_wp2_with fail
    go_meet
    exact ⟨by rw [HT.out], rfl⟩
  case rest =>
   obtain ⟨rfl, rfl⟩ := hcut
   obtain ⟨wr, h0⟩ : ∃ v, v = wc := ⟨_, rfl⟩
   subst h0
   clear hpe
   cases tt with
   | true =>
    have hk := of_decide_eq_true Htt.out.symm
    have hiM : i < M := hk.1
    have HPS := Lib.hid (xRow_step pSlice hk.1 hk.2)
    clear hk Htt
    have hob : ∀ ad, a1 = some ad → r + 1 ≤ ad.block := fun ad h => (hown.base ad h).1
    go_wp2_with fail
    refine (xtext_any wr g sr h).mono ?_
    rintro e x1 ⟨rfl, h, hy⟩
    have hb := hb.ext (by simp) hy (by simp only [Esc.just]; omega)
    have hz := hz.ext (by simp) hy (by simp only [Esc.just]; omega)
    have hown := hown.ext hy (fun ad h e => by have := hob ad h; have e : ad.block = g := e; omega)
    replace hNs := Nat.lt_of_lt_of_le hNs hy.size
    replace hNB := Nat.le_trans hNB hy.size
    replace hx := hx.comp hy
    clear hy
    obtain ⟨m0, hn⟩ : ∃ n, n = (rText sr).1 := ⟨_, rfl⟩
    obtain ⟨t0, hs⟩ : ∃ q, q = (rText sr).2 := ⟨_, rfl⟩
    rw [← hs] at h
    rw [← hn]
    have HNAm0 := Lib.hid hn
    have HSAm0 := Lib.hid hs
    clear hn hs
    go_upto_region 12 with fail
    have hp : Blk (x1.alloc (.cells #[.string (str m0), .int .i64 0, .int .i64 0, .int .i64 0, .int .i64 0] 64)) x1.heap.size [.string (str m0), .int .i64 0, .int .i64 0, .int .i64 0, .int .i64 0] := Blk.lit x1 #[.string (str m0), .int .i64 0, .int .i64 0, .int .i64 0, .int .i64 0] 64
    have hy := Ext.alloc no x1 (.cells #[.string (str m0), .int .i64 0, .int .i64 0, .int .i64 0, .int .i64 0] 64)
    have hop0 := fun ad ha => (hown.base ad ha).2.1
    have h := h.no hy
    have hb := hb.ext (by simp) hy (fun h => h)
    have hz := hz.ext (by simp) hy (fun h => h)
    have hown := hown.ext hy (fun _ _ h => h)
    obtain ⟨p, hpp⟩ : ∃ p, p = x1.heap.size := ⟨_, rfl⟩
    rw [← hpp] at hp ⊢
    have hrp : r < p := by omega
    have hBp : r + 1 ≤ p := by omega
    have hop : ∀ ad, a1 = some ad → ad.block < p := fun ad ha => by have := hop0 ad ha; omega
    replace hx := hx.comp (hy.mono (S' := just g) (fun _ _ e => e.elim))
    replace hNs := Nat.lt_of_lt_of_le hNs hy.size
    replace hNB := Nat.le_trans hNB hy.size
    clear hpp hop0 hy
    generalize x1.alloc (.cells #[.string (str m0), .int .i64 0, .int .i64 0, .int .i64 0, .int .i64 0] 64) = y0 at *
    go_wp2_with fail
    refine (xint_any y0 g t0 h).mono ?_
    rintro e z1 ⟨rfl, h, hy⟩
    have hb := hb.ext (by simp) hy (by simp only [Esc.just]; omega)
    have hp := hp.ext (by simp) hy (by simp only [Esc.just]; omega)
    have hz := hz.ext (by simp) hy (by simp only [Esc.just]; omega)
    have hown := hown.ext hy (fun ad h e => by have := hob ad h; have e : ad.block = g := e; omega)
    replace hNs := Nat.lt_of_lt_of_le hNs hy.size
    replace hNB := Nat.le_trans hNB hy.size
    replace hx := hx.comp hy
    clear hy
    obtain ⟨m1, hn⟩ : ∃ n, n = (rInt t0).1 := ⟨_, rfl⟩
    obtain ⟨t1, hs⟩ : ∃ q, q = (rInt t0).2 := ⟨_, rfl⟩
    rw [← hs] at h
    rw [← hn]
    have HNAm1 := Lib.hid hn
    have HSAm1 := Lib.hid hs
    clear hn hs
    have cK := hp.cell 1 _ rfl
    have fK := hp.fr 1
    go_upto_region 13 with fail
    have hy : Ext (just p) z1 (z1.setCell ⟨p, 1, none⟩ (.int .i64 m1)) := Ext.setCell _ _ _ rfl
    have hp : Blk (z1.setCell ⟨p, 1, none⟩ (.int .i64 m1)) p [.string (str m0), .int .i64 m1, .int .i64 0, .int .i64 0, .int .i64 0] := hp.set 1 (.int .i64 m1) (by simp)
    have hb := hb.ext (by simp) hy (by simp only [Esc.just]; omega)
    have hz := hz.ext (by simp) hy (by simp only [Esc.just]; omega)
    have hown := hown.ext hy (fun ad h e => by have := hop ad h; have e : ad.block = p := e; omega)
    have h : XRdr (z1.setCell ⟨p, 1, none⟩ (.int .i64 m1)) g a c b _ _ := h.ext hy (by simp only [Esc.just]; omega) (fun hb ad ha e => by have := hlow hb ad ha; have e : ad.block = p := e; omega)
    replace hx : Ext (just g) w (z1.setCell ⟨p, 1, none⟩ (.int .i64 m1)) := hx.trans hy (fun k hk e => by have e : k = p := e; omega)
    replace hNs := Nat.lt_of_lt_of_le hNs hy.size
    replace hNB := Nat.le_trans hNB hy.size
    clear hy cK fK
    generalize z1.setCell ⟨p, 1, none⟩ (.int .i64 m1) = y1 at *
    go_wp2_with fail
    refine (xint_any y1 g t1 h).mono ?_
    rintro e z2 ⟨rfl, h, hy⟩
    have hb := hb.ext (by simp) hy (by simp only [Esc.just]; omega)
    have hp := hp.ext (by simp) hy (by simp only [Esc.just]; omega)
    have hz := hz.ext (by simp) hy (by simp only [Esc.just]; omega)
    have hown := hown.ext hy (fun ad h e => by have := hob ad h; have e : ad.block = g := e; omega)
    replace hNs := Nat.lt_of_lt_of_le hNs hy.size
    replace hNB := Nat.le_trans hNB hy.size
    replace hx := hx.comp hy
    clear hy
    obtain ⟨m2, hn⟩ : ∃ n, n = (rInt t1).1 := ⟨_, rfl⟩
    obtain ⟨t2, hs⟩ : ∃ q, q = (rInt t1).2 := ⟨_, rfl⟩
    rw [← hs] at h
    rw [← hn]
    have HNAm2 := Lib.hid hn
    have HSAm2 := Lib.hid hs
    clear hn hs
    have cK := hp.cell 2 _ rfl
    have fK := hp.fr 2
    go_upto_region 14 with fail
    have hy : Ext (just p) z2 (z2.setCell ⟨p, 2, none⟩ (.int .i64 m2)) := Ext.setCell _ _ _ rfl
    have hp : Blk (z2.setCell ⟨p, 2, none⟩ (.int .i64 m2)) p [.string (str m0), .int .i64 m1, .int .i64 m2, .int .i64 0, .int .i64 0] := hp.set 2 (.int .i64 m2) (by simp)
    have hb := hb.ext (by simp) hy (by simp only [Esc.just]; omega)
    have hz := hz.ext (by simp) hy (by simp only [Esc.just]; omega)
    have hown := hown.ext hy (fun ad h e => by have := hop ad h; have e : ad.block = p := e; omega)
    have h : XRdr (z2.setCell ⟨p, 2, none⟩ (.int .i64 m2)) g a c b _ _ := h.ext hy (by simp only [Esc.just]; omega) (fun hb ad ha e => by have := hlow hb ad ha; have e : ad.block = p := e; omega)
    replace hx : Ext (just g) w (z2.setCell ⟨p, 2, none⟩ (.int .i64 m2)) := hx.trans hy (fun k hk e => by have e : k = p := e; omega)
    replace hNs := Nat.lt_of_lt_of_le hNs hy.size
    replace hNB := Nat.le_trans hNB hy.size
    clear hy cK fK
    generalize z2.setCell ⟨p, 2, none⟩ (.int .i64 m2) = y2 at *
    go_wp2_with fail
    refine (xint_any y2 g t2 h).mono ?_
    rintro e z3 ⟨rfl, h, hy⟩
    have hb := hb.ext (by simp) hy (by simp only [Esc.just]; omega)
    have hp := hp.ext (by simp) hy (by simp only [Esc.just]; omega)
    have hz := hz.ext (by simp) hy (by simp only [Esc.just]; omega)
    have hown := hown.ext hy (fun ad h e => by have := hob ad h; have e : ad.block = g := e; omega)
    replace hNs := Nat.lt_of_lt_of_le hNs hy.size
    replace hNB := Nat.le_trans hNB hy.size
    replace hx := hx.comp hy
    clear hy
    obtain ⟨m3, hn⟩ : ∃ n, n = (rInt t2).1 := ⟨_, rfl⟩
    obtain ⟨t3, hs⟩ : ∃ q, q = (rInt t2).2 := ⟨_, rfl⟩
    rw [← hs] at h
    rw [← hn]
    have HNAm3 := Lib.hid hn
    have HSAm3 := Lib.hid hs
    clear hn hs
    have cK := hp.cell 3 _ rfl
    have fK := hp.fr 3
    go_upto_region 15 with fail
    have hy : Ext (just p) z3 (z3.setCell ⟨p, 3, none⟩ (.int .i64 m3)) := Ext.setCell _ _ _ rfl
    have hp : Blk (z3.setCell ⟨p, 3, none⟩ (.int .i64 m3)) p [.string (str m0), .int .i64 m1, .int .i64 m2, .int .i64 m3, .int .i64 0] := hp.set 3 (.int .i64 m3) (by simp)
    have hb := hb.ext (by simp) hy (by simp only [Esc.just]; omega)
    have hz := hz.ext (by simp) hy (by simp only [Esc.just]; omega)
    have hown := hown.ext hy (fun ad h e => by have := hop ad h; have e : ad.block = p := e; omega)
    have h : XRdr (z3.setCell ⟨p, 3, none⟩ (.int .i64 m3)) g a c b _ _ := h.ext hy (by simp only [Esc.just]; omega) (fun hb ad ha e => by have := hlow hb ad ha; have e : ad.block = p := e; omega)
    replace hx : Ext (just g) w (z3.setCell ⟨p, 3, none⟩ (.int .i64 m3)) := hx.trans hy (fun k hk e => by have e : k = p := e; omega)
    replace hNs := Nat.lt_of_lt_of_le hNs hy.size
    replace hNB := Nat.le_trans hNB hy.size
    clear hy cK fK
    generalize z3.setCell ⟨p, 3, none⟩ (.int .i64 m3) = y3 at *
    go_wp2_with fail
    refine (xint_any y3 g t3 h).mono ?_
    rintro e z4 ⟨rfl, h, hy⟩
    have hb := hb.ext (by simp) hy (by simp only [Esc.just]; omega)
    have hp := hp.ext (by simp) hy (by simp only [Esc.just]; omega)
    have hz := hz.ext (by simp) hy (by simp only [Esc.just]; omega)
    have hown := hown.ext hy (fun ad h e => by have := hob ad h; have e : ad.block = g := e; omega)
    replace hNs := Nat.lt_of_lt_of_le hNs hy.size
    replace hNB := Nat.le_trans hNB hy.size
    replace hx := hx.comp hy
    clear hy
    obtain ⟨m4, hn⟩ : ∃ n, n = (rInt t3).1 := ⟨_, rfl⟩
    obtain ⟨t4, hs⟩ : ∃ q, q = (rInt t3).2 := ⟨_, rfl⟩
    rw [← hs] at h
    rw [← hn]
    have HNAm4 := Lib.hid hn
    have HSAm4 := Lib.hid hs
    clear hn hs
    have cK := hp.cell 4 _ rfl
    have fK := hp.fr 4
    go_upto_region 16 with fail
    have hy : Ext (just p) z4 (z4.setCell ⟨p, 4, none⟩ (.int .i64 m4)) := Ext.setCell _ _ _ rfl
    have hp : Blk (z4.setCell ⟨p, 4, none⟩ (.int .i64 m4)) p [.string (str m0), .int .i64 m1, .int .i64 m2, .int .i64 m3, .int .i64 m4] := hp.set 4 (.int .i64 m4) (by simp)
    have hb := hb.ext (by simp) hy (by simp only [Esc.just]; omega)
    have hz := hz.ext (by simp) hy (by simp only [Esc.just]; omega)
    have hown := hown.ext hy (fun ad h e => by have := hop ad h; have e : ad.block = p := e; omega)
    have h : XRdr (z4.setCell ⟨p, 4, none⟩ (.int .i64 m4)) g a c b _ _ := h.ext hy (by simp only [Esc.just]; omega) (fun hb ad ha e => by have := hlow hb ad ha; have e : ad.block = p := e; omega)
    replace hx : Ext (just g) w (z4.setCell ⟨p, 4, none⟩ (.int .i64 m4)) := hx.trans hy (fun k hk e => by have e : k = p := e; omega)
    replace hNs := Nat.lt_of_lt_of_le hNs hy.size
    replace hNB := Nat.le_trans hNB hy.size
    clear hy cK fK
    generalize z4.setCell ⟨p, 4, none⟩ (.int .i64 m4) = y4 at *
    have c0 := hp.cell 0 _ rfl
    have c1 := hp.cell 1 _ rfl
    have c2 := hp.cell 2 _ rfl
    have c3 := hp.cell 3 _ rfl
    have c4 := hp.cell 4 _ rfl
    have cK := hb.cell 6 _ rfl
    have hy := Ext.alloc no y4 (.cells #[.string (str m0), .int .i64 m1, .int .i64 m2, .int .i64 m3, .int .i64 m4] 64)
    go_wp2_with (at_builtin; refine wpList_append TySlices rfl rfl rfl (hown.alloc _) rfl (Rd.lit y4 #[.string (str m0), .int .i64 m1, .int .i64 m2, .int .i64 m3, .int .i64 m4] 64 (0, 0)) (m := 1) rfl (by intro u hu; simp at hu; rcases hu with rfl | rfl | rfl | rfl | rfl <;> rfl) (by unfold maxLen; have := HD.out; omega) (by have := HD.out; omega) (by simp; omega) ?_)
    intro a8 c8 w8 hA
    have hNb : ∀ k, k < r + 1 → ¬ blk a1 k := fun k hk => by rintro ⟨ad, ha, e⟩; have := (hown.base ad ha).1; omega
    have hb := hb.ext (by simp) hy (fun h => h)
    have hz := hz.ext (by simp) hy (fun h => h)
    have h := h.no hy
    replace hx := hx.comp (hy.mono (S' := just g) (fun _ _ e => e.elim))
    replace hNs := Nat.lt_of_lt_of_le hNs hy.size
    replace hNB := Nat.le_trans hNB hy.size
    clear hy
    have hy := hA.ext
    have hb := hb.ext (by simp) hy (hNb _ (by omega))
    have hz := hz.ext (by simp) hy (hNb _ (by omega))
    have h := h.ext hy (hNb _ (by omega)) (fun hb ad ha => hNb _ (by have := hlow hb ad ha; omega))
    replace hx : Ext (just g) w w8 := hx.trans hy (fun k hk e => (hNb k (by omega) e).elim)
    replace hNs := Nat.lt_of_lt_of_le hNs hy.size
    replace hNB := Nat.le_trans hNB hy.size
    have ho8 := hA.own
    clear hA hy cK c0 c1 c2 c3 c4
    have cK := hb.cell 6 _ rfl
    have fK := hb.fr 6
    obtain ⟨dd, hdd⟩ : ∃ dd : SliceR, dd = ⟨m0, m1, m2, m3, m4⟩ := ⟨_, rfl⟩
    have HDD := Lib.hid (show dd = (pSlice sr).1 by rw [hdd]; unfold pSlice; simp only [← HNAm0.out, ← HSAm0.out, ← HNAm1.out, ← HSAm1.out, ← HNAm2.out, ← HSAm2.out, ← HNAm3.out, ← HSAm3.out, ← HNAm4.out, ← HSAm4.out])
    have HSQ := Lib.hid (show t4 = (pSlice sr).2 by unfold pSlice; simp only [← HNAm0.out, ← HSAm0.out, ← HNAm1.out, ← HSAm1.out, ← HNAm2.out, ← HSAm2.out, ← HNAm3.out, ← HSAm3.out, ← HNAm4.out, ← HSAm4.out])
    have hy : Ext (just r) w8 (w8.setCell ⟨r, 6, none⟩ (.slice a8 (D.length + 1) c8)) := Ext.setCell _ _ _ rfl
    have hb9 : Blk (w8.setCell ⟨r, 6, none⟩ (.slice a8 (D.length + 1) c8)) r [.int .i64 i1, .int .i64 i2, .int .i64 i3, .int .i64 i4, .int .i64 i5, .int .i64 i6, .slice a8 (D ++ [dd]).length c8, .slice none 0 0, .slice none 0 0] := by rw [List.length_append]; exact hb.set 6 (.slice a8 (D.length + 1) c8) (by simp)
    have hz := hz.ext (by simp) hy (by simp only [Esc.just]; omega)
    have h9 : XRdr (w8.setCell ⟨r, 6, none⟩ (.slice a8 (D.length + 1) c8)) g a c b t4.l t4.e := h.ext hy (by simp only [Esc.just]; omega) (fun hb ad ha e => by have := hlow hb ad ha; have e : ad.block = r := e; omega)
    have ho9 : Own (w8.setCell ⟨r, 6, none⟩ (.slice a8 (D.length + 1) c8)) (r + 1) a8 5 (D ++ [dd]).length c8 (rows SliceR.cells (D ++ [dd])) := by
     rw [rows_append, rows_one, List.length_append, hdd]
     exact ho8.ext hy (fun ad h e => by have := (ho8.base ad h).1; have e : ad.block = r := e; omega)
    have hx9 : Ext (just g) w (w8.setCell ⟨r, 6, none⟩ (.slice a8 (D.length + 1) c8)) := hx.trans hy (fun k hk e => by have e : k = r := e; omega)
    have hNs9 := Nat.lt_of_lt_of_le hNs hy.size
    have hNB9 := Nat.le_trans hNB hy.size
    have HL := Lib.hid (show (D ++ [dd]).length = i + 1 by rw [List.length_append, HD.out]; rfl)
    have HNX := Lib.hid (show xRow pSlice M t = ((D ++ [dd]) ++ (xRow pSlice (M - (i + 1)) t4).1, (xRow pSlice (M - (i + 1)) t4).2) by rw [HPD.out, HPS.out, ← HDD.out, ← HSQ.out]; simp)
    clear hb h ho8 hx hdd hy hNs hNB
    go_wp2_with fail
    go_roundw
    case rel => exact ⟨i + 1, D ++ [dd], a8, c8, t4, by omega, by go_num, HL.out, HNX.out, h9, hb9, hz, hNs9, hNB9, ho9, hx9⟩
    case measure => simp [intOf]; omega
   | false =>
    have HEND := Lib.hid (show xRow pSlice M t = (D, sr) by rw [HPD.out, xRow_stop pSlice (of_decide_eq_false Htt.out.symm)]; simp)
    clear HPD Htt HD hNB
    obtain ⟨D1, h0⟩ : ∃ v, v = D := ⟨_, rfl⟩
    subst h0
    obtain ⟨aS, h0⟩ : ∃ v, v = a1 := ⟨_, rfl⟩
    subst h0
    obtain ⟨cS, h0⟩ : ∃ v, v = c6 := ⟨_, rfl⟩
    subst h0
    obtain ⟨sA, h0⟩ : ∃ v, v = sr := ⟨_, rfl⟩
    subst h0
    obtain ⟨u8, h0⟩ : ∃ v, v = wr := ⟨_, rfl⟩
    subst h0
    obtain ⟨N2, hN2⟩ : ∃ n, n = u8.heap.size := ⟨_, rfl⟩
    have hoS := hown
    have hSb : ∀ ad, aS = some ad → r < ad.block ∧ ad.block < N2 := fun ad h => by have := hown.base ad h; omega
    have hrN : r < N2 := by omega
    clear hown
    go_wp2_with fail
    refine (xfew_any u8 g sA 100 (by omega) (by omega) h).mono ?_
    rintro e u9 ⟨rfl, h', hy⟩
    have hNB : N2 ≤ u9.heap.size := by rw [hN2]; exact hy.size
    clear hN2
    have hz := hz.ext (by simp) hy (by simp only [Esc.just]; omega)
    have hb := hb.ext (by simp) hy (by simp only [Esc.just]; omega)
    have hoS := hoS.ext hy (fun ad h e => by have := hSb ad h; have e : ad.block = g := e; omega)
    replace hx := hx.comp hy
    replace hNs := Nat.lt_of_lt_of_le hNs hy.size
    have hqM2 := pSize_le (m := 100) (by omega) sA
    obtain ⟨M2, hM⟩ : ∃ M, M = (pSize 100 sA).1 := ⟨_, rfl⟩
    obtain ⟨t2, ht⟩ : ∃ q, q = (pSize 100 sA).2 := ⟨_, rfl⟩
    have HSZ2 := Lib.hid (show pSize 100 sA = (M2, t2) by rw [hM, ht])
    rw [← hM] at hqM2 ⊢
    rw [← ht] at h'
    clear hM ht h hy
    have h := h'
    clear h'
    go_wp2_with fail
    go_loopw [7] (fun sI wr => ∃ (i : Nat) (D : List RangeR) (a1 : Option Addr) (c6 : Nat) (sr : RS), i ≤ M2 ∧ sI = .int .i64 i ∧ D.length = i ∧ xRow pRange M2 t2 = (D ++ (xRow pRange (M2 - i) sr).1, (xRow pRange (M2 - i) sr).2) ∧ XRdr wr g a c b sr.l sr.e ∧ Blk wr r [.int .i64 i1, .int .i64 i2, .int .i64 i3, .int .i64 i4, .int .i64 i5, .int .i64 i6, .slice aS D1.length cS, .slice a1 D.length c6, .slice none 0 0] ∧ Blk wr q [.int .i64 0, .int .i64 0, .int .i64 0, .int .i64 0, .int .i64 0, .int .i64 0, .slice none 0 0, .slice none 0 0, .slice none 0 0] ∧ Own wr (r + 1) aS 5 D1.length cS (rows SliceR.cells D1) ∧ r < wr.heap.size ∧ N2 ≤ wr.heap.size ∧ Own wr (N2) a1 2 D.length c6 (rows RangeR.cells D) ∧ Ext (just g) w wr) (fun sI _ => M2 - (intOf sI).toNat)
    case atStart => exact ⟨0, [], none, 0, t2, by omega, rfl, rfl, by simp, h, hb, hz, hoS, hNs, hNB, Own.nil _ _ _, hx⟩
    case round =>
     clear h hb hx hNs hNB hz hoS
     obtain ⟨i, D, a1, c6, sr, hi, rfl, hDl, hpd, h, hb, hz, hoS, hNs, hNB, hown, hx⟩ := hrel
     have HD := Lib.hid hDl
     have HPD := Lib.hid hpd
     clear hDl hpd
     obtain ⟨tt, htt⟩ : ∃ tt, tt = decide (i < M2 ∧ sr.e = 0) := ⟨_, rfl⟩
     have Htt := Lib.hid htt
     clear htt
     have hpe := h.err
     go_upto_region 19 with fail
     go_cut [79] (fun st wx => st = .bool tt ∧ wx = wr)
     case first =>
      by_cases k1 : i < M2
      ·have d1 : decide (i < M2) = true := decT k1
       by_cases k2 : sr.e = 0
       ·have d2 : (sr.e == 0) = true := by rw [beq_iff_eq]; exact k2
        have HT := Lib.hid (show tt = true by rw [Htt.out]; exact decT ⟨k1, k2⟩)
        clear k2
        go_wp2_with fail
        go_meet
        exact ⟨by rw [HT.out], rfl⟩
       ·have d2 : (sr.e == 0) = false := by rw [beq_eq_false_iff_ne]; exact k2
        have HT := Lib.hid (show tt = false by rw [Htt.out]; exact decF (fun h => k2 h.2))
        clear k2
        go_wp2_with fail
        go_meet
        exact ⟨by rw [HT.out], rfl⟩
      ·have d1 : decide (i < M2) = false := decF k1
       have HT := Lib.hid (show tt = false by rw [Htt.out]; exact decF (fun h => k1 h.1))
       go_wp2_with fail
       go_meet
       exact ⟨by rw [HT.out], rfl⟩
     case rest =>
      obtain ⟨rfl, rfl⟩ := hcut
      obtain ⟨wr, h0⟩ : ∃ v, v = wc := ⟨_, rfl⟩
      subst h0
      clear hpe
      cases tt with
      | true =>
       have hk := of_decide_eq_true Htt.out.symm
       have hiM : i < M2 := hk.1
       have HPS := Lib.hid (xRow_step pRange hk.1 hk.2)
       clear hk Htt
       have hob : ∀ ad, a1 = some ad → N2 ≤ ad.block := fun ad h => (hown.base ad h).1
       go_wp2_with fail
       refine (xint_any wr g sr h).mono ?_
       rintro e x1 ⟨rfl, h, hy⟩
       have hb := hb.ext (by simp) hy (by simp only [Esc.just]; omega)
       have hz := hz.ext (by simp) hy (by simp only [Esc.just]; omega)
       have hoS := hoS.ext hy (fun ad h e => by have := hSb ad h; have e : ad.block = g := e; omega)
       have hown := hown.ext hy (fun ad h e => by have := hob ad h; have e : ad.block = g := e; omega)
       replace hNs := Nat.lt_of_lt_of_le hNs hy.size
       replace hNB := Nat.le_trans hNB hy.size
       replace hx := hx.comp hy
       clear hy
       obtain ⟨m0, hn⟩ : ∃ n, n = (rInt sr).1 := ⟨_, rfl⟩
       obtain ⟨t0, hs⟩ : ∃ q, q = (rInt sr).2 := ⟨_, rfl⟩
       rw [← hs] at h
       rw [← hn]
       have HNBm0 := Lib.hid hn
       have HSBm0 := Lib.hid hs
       clear hn hs
       go_upto_region 22 with fail
       have hp : Blk (x1.alloc (.cells #[.int .i64 m0, .int .i64 0] 108)) x1.heap.size [.int .i64 m0, .int .i64 0] := Blk.lit x1 #[.int .i64 m0, .int .i64 0] 108
       have hy := Ext.alloc no x1 (.cells #[.int .i64 m0, .int .i64 0] 108)
       have hop0 := fun ad ha => (hown.base ad ha).2.1
       have h := h.no hy
       have hb := hb.ext (by simp) hy (fun h => h)
       have hz := hz.ext (by simp) hy (fun h => h)
       have hoS := hoS.ext hy (fun _ _ h => h)
       have hown := hown.ext hy (fun _ _ h => h)
       obtain ⟨p, hpp⟩ : ∃ p, p = x1.heap.size := ⟨_, rfl⟩
       rw [← hpp] at hp ⊢
       have hrp : r < p := by omega
       have hBp : N2 ≤ p := by omega
       have hop : ∀ ad, a1 = some ad → ad.block < p := fun ad ha => by have := hop0 ad ha; omega
       replace hx := hx.comp (hy.mono (S' := just g) (fun _ _ e => e.elim))
       replace hNs := Nat.lt_of_lt_of_le hNs hy.size
       replace hNB := Nat.le_trans hNB hy.size
       clear hpp hop0 hy
       generalize x1.alloc (.cells #[.int .i64 m0, .int .i64 0] 108) = y0 at *
       go_wp2_with fail
       refine (xint_any y0 g t0 h).mono ?_
       rintro e z1 ⟨rfl, h, hy⟩
       have hb := hb.ext (by simp) hy (by simp only [Esc.just]; omega)
       have hp := hp.ext (by simp) hy (by simp only [Esc.just]; omega)
       have hz := hz.ext (by simp) hy (by simp only [Esc.just]; omega)
       have hoS := hoS.ext hy (fun ad h e => by have := hSb ad h; have e : ad.block = g := e; omega)
       have hown := hown.ext hy (fun ad h e => by have := hob ad h; have e : ad.block = g := e; omega)
       replace hNs := Nat.lt_of_lt_of_le hNs hy.size
       replace hNB := Nat.le_trans hNB hy.size
       replace hx := hx.comp hy
       clear hy
       obtain ⟨m1, hn⟩ : ∃ n, n = (rInt t0).1 := ⟨_, rfl⟩
       obtain ⟨t1, hs⟩ : ∃ q, q = (rInt t0).2 := ⟨_, rfl⟩
       rw [← hs] at h
       rw [← hn]
       have HNBm1 := Lib.hid hn
       have HSBm1 := Lib.hid hs
       clear hn hs
       have cK := hp.cell 1 _ rfl
       have fK := hp.fr 1
       go_upto_region 23 with fail
       have hy : Ext (just p) z1 (z1.setCell ⟨p, 1, none⟩ (.int .i64 m1)) := Ext.setCell _ _ _ rfl
       have hp : Blk (z1.setCell ⟨p, 1, none⟩ (.int .i64 m1)) p [.int .i64 m0, .int .i64 m1] := hp.set 1 (.int .i64 m1) (by simp)
       have hb := hb.ext (by simp) hy (by simp only [Esc.just]; omega)
       have hz := hz.ext (by simp) hy (by simp only [Esc.just]; omega)
       have hoS := hoS.ext hy (fun ad h e => by have := hSb ad h; have e : ad.block = p := e; omega)
       have hown := hown.ext hy (fun ad h e => by have := hop ad h; have e : ad.block = p := e; omega)
       have h : XRdr (z1.setCell ⟨p, 1, none⟩ (.int .i64 m1)) g a c b _ _ := h.ext hy (by simp only [Esc.just]; omega) (fun hb ad ha e => by have := hlow hb ad ha; have e : ad.block = p := e; omega)
       replace hx : Ext (just g) w (z1.setCell ⟨p, 1, none⟩ (.int .i64 m1)) := hx.trans hy (fun k hk e => by have e : k = p := e; omega)
       replace hNs := Nat.lt_of_lt_of_le hNs hy.size
       replace hNB := Nat.le_trans hNB hy.size
       clear hy cK fK
       generalize z1.setCell ⟨p, 1, none⟩ (.int .i64 m1) = y1 at *
       have c0 := hp.cell 0 _ rfl
       have c1 := hp.cell 1 _ rfl
       have cK := hb.cell 7 _ rfl
       have hy := Ext.alloc no y1 (.cells #[.int .i64 m0, .int .i64 m1] 108)
       go_wp2_with (at_builtin; refine wpList_append TyRanges rfl rfl rfl (hown.alloc _) rfl (Rd.lit y1 #[.int .i64 m0, .int .i64 m1] 108 (0, 0)) (m := 1) rfl (by intro u hu; simp at hu; rcases hu with rfl | rfl <;> rfl) (by unfold maxLen; have := HD.out; omega) (by have := HD.out; omega) (by simp; omega) ?_)
       intro a8 c8 w8 hA
       have hNb : ∀ k, k < N2 → ¬ blk a1 k := fun k hk => by rintro ⟨ad, ha, e⟩; have := (hown.base ad ha).1; omega
       have hb := hb.ext (by simp) hy (fun h => h)
       have hz := hz.ext (by simp) hy (fun h => h)
       have hoS := hoS.ext hy (fun _ _ h => h)
       have h := h.no hy
       replace hx := hx.comp (hy.mono (S' := just g) (fun _ _ e => e.elim))
       replace hNs := Nat.lt_of_lt_of_le hNs hy.size
       replace hNB := Nat.le_trans hNB hy.size
       clear hy
       have hy := hA.ext
       have hb := hb.ext (by simp) hy (hNb _ (by omega))
       have hz := hz.ext (by simp) hy (hNb _ (by omega))
       have hoS := hoS.ext hy (fun ad h => hNb _ (by have := hSb ad h; omega))
       have h := h.ext hy (hNb _ (by omega)) (fun hb ad ha => hNb _ (by have := hlow hb ad ha; omega))
       replace hx : Ext (just g) w w8 := hx.trans hy (fun k hk e => (hNb k (by omega) e).elim)
       replace hNs := Nat.lt_of_lt_of_le hNs hy.size
       replace hNB := Nat.le_trans hNB hy.size
       have ho8 := hA.own
       clear hA hy cK c0 c1
       have cK := hb.cell 7 _ rfl
       have fK := hb.fr 7
       obtain ⟨dd, hdd⟩ : ∃ dd : RangeR, dd = ⟨m0, m1⟩ := ⟨_, rfl⟩
       have HDD := Lib.hid (show dd = (pRange sr).1 by rw [hdd]; unfold pRange; simp only [← HNBm0.out, ← HSBm0.out, ← HNBm1.out, ← HSBm1.out])
       have HSQ := Lib.hid (show t1 = (pRange sr).2 by unfold pRange; simp only [← HNBm0.out, ← HSBm0.out, ← HNBm1.out, ← HSBm1.out])
       have hy : Ext (just r) w8 (w8.setCell ⟨r, 7, none⟩ (.slice a8 (D.length + 1) c8)) := Ext.setCell _ _ _ rfl
       have hb9 : Blk (w8.setCell ⟨r, 7, none⟩ (.slice a8 (D.length + 1) c8)) r [.int .i64 i1, .int .i64 i2, .int .i64 i3, .int .i64 i4, .int .i64 i5, .int .i64 i6, .slice aS D1.length cS, .slice a8 (D ++ [dd]).length c8, .slice none 0 0] := by rw [List.length_append]; exact hb.set 7 (.slice a8 (D.length + 1) c8) (by simp)
       have hz := hz.ext (by simp) hy (by simp only [Esc.just]; omega)
       have hoS := hoS.ext hy (fun ad h e => by have := hSb ad h; have e : ad.block = r := e; omega)
       have h9 : XRdr (w8.setCell ⟨r, 7, none⟩ (.slice a8 (D.length + 1) c8)) g a c b t1.l t1.e := h.ext hy (by simp only [Esc.just]; omega) (fun hb ad ha e => by have := hlow hb ad ha; have e : ad.block = r := e; omega)
       have ho9 : Own (w8.setCell ⟨r, 7, none⟩ (.slice a8 (D.length + 1) c8)) (N2) a8 2 (D ++ [dd]).length c8 (rows RangeR.cells (D ++ [dd])) := by
        rw [rows_append, rows_one, List.length_append, hdd]
        exact ho8.ext hy (fun ad h e => by have := (ho8.base ad h).1; have e : ad.block = r := e; omega)
       have hx9 : Ext (just g) w (w8.setCell ⟨r, 7, none⟩ (.slice a8 (D.length + 1) c8)) := hx.trans hy (fun k hk e => by have e : k = r := e; omega)
       have hNs9 := Nat.lt_of_lt_of_le hNs hy.size
       have hNB9 := Nat.le_trans hNB hy.size
       have HL := Lib.hid (show (D ++ [dd]).length = i + 1 by rw [List.length_append, HD.out]; rfl)
       have HNX := Lib.hid (show xRow pRange M2 t2 = ((D ++ [dd]) ++ (xRow pRange (M2 - (i + 1)) t1).1, (xRow pRange (M2 - (i + 1)) t1).2) by rw [HPD.out, HPS.out, ← HDD.out, ← HSQ.out]; simp)
       clear hb h ho8 hx hdd hy hNs hNB
       go_wp2_with fail
       go_roundw
       case rel => exact ⟨i + 1, D ++ [dd], a8, c8, t1, by omega, by go_num, HL.out, HNX.out, h9, hb9, hz, hoS, hNs9, hNB9, ho9, hx9⟩
       case measure => simp [intOf]; omega
      | false =>
       have HEND2 := Lib.hid (show xRow pRange M2 t2 = (D, sr) by rw [HPD.out, xRow_stop pRange (of_decide_eq_false Htt.out.symm)]; simp)
       clear HPD Htt HD
       obtain ⟨N3, hN3⟩ : ∃ n, n = wr.heap.size := ⟨_, rfl⟩
       have hob : ∀ ad, a1 = some ad → N2 ≤ ad.block ∧ ad.block < N3 := fun ad h => by have := hown.base ad h; omega
       go_wp2_with fail
       refine (xints_any wr g sr h).mono ?_
       rintro e w2 ⟨aU, cU, rfl, hoU, h, hy⟩
       have hz := hz.ext (by simp) hy (by simp only [Esc.just]; omega)
       have hb := hb.ext (by simp) hy (by simp only [Esc.just]; omega)
       have hoS := hoS.ext hy (fun ad h e => by have := hSb ad h; have e : ad.block = g := e; omega)
       have hown := hown.ext hy (fun ad h e => by have := hob ad h; have e : ad.block = g := e; omega)
       replace hx := hx.comp hy
       have hrw : r < wr.heap.size := hNs
       have hsr := hx.size
       replace hNs := Nat.lt_of_lt_of_le hNs hy.size
       clear hy
       obtain ⟨U, hU⟩ : ∃ l, l = (rInts sr).1 := ⟨_, rfl⟩
       obtain ⟨sn, hsn⟩ : ∃ l, l = (rInts sr).2 := ⟨_, rfl⟩
       rw [← hU] at hoU
       rw [← hsn] at h
       rw [← hU]
       have HCM := Lib.hid (show xReply s0 = (⟨i1, i2, i3, i4, i5, i6, D1, D, U⟩, sn) by
        unfold xReply
        simp only [← HN1.out, ← HS1.out, ← HN2.out, ← HS2.out, ← HN3.out, ← HS3.out, ← HN4.out, ← HS4.out, ← HN5.out, ← HS5.out, ← HN6.out, ← HS6.out, HSZ.out, HEND.out, HSZ2.out, HEND2.out, ← hU, ← hsn])
       clear hU hsn HN1 HS1 HN2 HS2 HN3 HS3 HN4 HS4 HN5 HS5 HN6 HS6 HSZ HEND HSZ2 HEND2
       have hoUb : ∀ ad, aU = some ad → N3 ≤ ad.block := fun ad h => by have := (hoU.base ad h).1; omega
       have cK := hb.cell 8 _ rfl
       have fK := hb.fr 8
       go_upto_region 25 with fail
       have hy : Ext (just r) w2 (w2.setCell ⟨r, 8, none⟩ (.slice aU U.length cU)) := Ext.setCell _ _ _ rfl
       have hb : Blk (w2.setCell ⟨r, 8, none⟩ (.slice aU U.length cU)) r [.int .i64 i1, .int .i64 i2, .int .i64 i3, .int .i64 i4, .int .i64 i5, .int .i64 i6, .slice aS D1.length cS, .slice a1 D.length c6, .slice aU U.length cU] := hb.set 8 (.slice aU U.length cU) (by simp)
       have hz := hz.ext (by simp) hy (by simp only [Esc.just]; omega)
       have hoS := hoS.ext hy (fun ad h e => by have := hSb ad h; have e : ad.block = r := e; omega)
       have hown := hown.ext hy (fun ad h e => by have := hob ad h; have e : ad.block = r := e; omega)
       have hoU := hoU.ext hy (fun ad h e => by have := hoUb ad h; have e : ad.block = r := e; omega)
       have h : XRdr (w2.setCell ⟨r, 8, none⟩ (.slice aU U.length cU)) g a c b _ _ := h.ext hy (by simp only [Esc.just]; omega) (fun hb ad ha e => by have := hlow hb ad ha; have e : ad.block = r := e; omega)
       replace hx : Ext (just g) w (w2.setCell ⟨r, 8, none⟩ (.slice aU U.length cU)) := hx.trans hy (fun k hk e => by have e : k = r := e; omega)
       replace hNs := Nat.lt_of_lt_of_le hNs hy.size
       clear hy cK fK
       generalize (w2.setCell ⟨r, 8, none⟩ (.slice aU U.length cU)) = w3 at *
       have b0 := hb.cell 0 _ rfl
       have b1 := hb.cell 1 _ rfl
       have b2 := hb.cell 2 _ rfl
       have b3 := hb.cell 3 _ rfl
       have b4 := hb.cell 4 _ rfl
       have b5 := hb.cell 5 _ rfl
       have b6 := hb.cell 6 _ rfl
       have b7 := hb.cell 7 _ rfl
       have b8 := hb.cell 8 _ rfl
       have z0 := hz.cell 0 _ rfl
       have z1 := hz.cell 1 _ rfl
       have z2 := hz.cell 2 _ rfl
       have z3 := hz.cell 3 _ rfl
       have z4 := hz.cell 4 _ rfl
       have z5 := hz.cell 5 _ rfl
       have z6 := hz.cell 6 _ rfl
       have z7 := hz.cell 7 _ rfl
       have z8 := hz.cell 8 _ rfl
       have f0 := hz.fr 0
       have f1 := hz.fr 1
       have f2 := hz.fr 2
       have f3 := hz.fr 3
       have f4 := hz.fr 4
       have f5 := hz.fr 5
       have f6 := hz.fr 6
       have f7 := hz.fr 7
       have f8 := hz.fr 8
       have hy : Ext (just q) w3 (((((((((w3.setCell ⟨q, 0, none⟩ (.int .i64 i1)).setCell ⟨q, 1, none⟩ (.int .i64 i2)).setCell ⟨q, 2, none⟩ (.int .i64 i3)).setCell ⟨q, 3, none⟩ (.int .i64 i4)).setCell ⟨q, 4, none⟩ (.int .i64 i5)).setCell ⟨q, 5, none⟩ (.int .i64 i6)).setCell ⟨q, 6, none⟩ (.slice aS D1.length cS)).setCell ⟨q, 7, none⟩ (.slice a1 D.length c6)).setCell ⟨q, 8, none⟩ (.slice aU U.length cU)) := ((((((((((Ext.refl (just q) w3).comp (Ext.setCell _ ⟨q, 0, none⟩ (.int .i64 i1) rfl)).comp (Ext.setCell _ ⟨q, 1, none⟩ (.int .i64 i2) rfl)).comp (Ext.setCell _ ⟨q, 2, none⟩ (.int .i64 i3) rfl)).comp (Ext.setCell _ ⟨q, 3, none⟩ (.int .i64 i4) rfl)).comp (Ext.setCell _ ⟨q, 4, none⟩ (.int .i64 i5) rfl)).comp (Ext.setCell _ ⟨q, 5, none⟩ (.int .i64 i6) rfl)).comp (Ext.setCell _ ⟨q, 6, none⟩ (.slice aS D1.length cS) rfl)).comp (Ext.setCell _ ⟨q, 7, none⟩ (.slice a1 D.length c6) rfl)).comp (Ext.setCell _ ⟨q, 8, none⟩ (.slice aU U.length cU) rfl))
       have hze : Blk (((((((((w3.setCell ⟨q, 0, none⟩ (.int .i64 i1)).setCell ⟨q, 1, none⟩ (.int .i64 i2)).setCell ⟨q, 2, none⟩ (.int .i64 i3)).setCell ⟨q, 3, none⟩ (.int .i64 i4)).setCell ⟨q, 4, none⟩ (.int .i64 i5)).setCell ⟨q, 5, none⟩ (.int .i64 i6)).setCell ⟨q, 6, none⟩ (.slice aS D1.length cS)).setCell ⟨q, 7, none⟩ (.slice a1 D.length c6)).setCell ⟨q, 8, none⟩ (.slice aU U.length cU)) q ((⟨i1, i2, i3, i4, i5, i6, D1, D, U⟩ : ReplyR).cells ⟨aS, cS, a1, c6, aU, cU⟩) := (((((((((hz.set 0 (.int .i64 i1) (by simp)).set 1 (.int .i64 i2) (by simp)).set 2 (.int .i64 i3) (by simp)).set 3 (.int .i64 i4) (by simp)).set 4 (.int .i64 i5) (by simp)).set 5 (.int .i64 i6) (by simp)).set 6 (.slice aS D1.length cS) (by simp)).set 7 (.slice a1 D.length c6) (by simp)).set 8 (.slice aU U.length cU) (by simp))
       have hoS := hoS.ext hy (fun ad h e => by have := hSb ad h; have e : ad.block = q := e; omega)
       have hown := hown.ext hy (fun ad h e => by have := hob ad h; have e : ad.block = q := e; omega)
       have hoU := hoU.ext hy (fun ad h e => by have := hoUb ad h; have e : ad.block = q := e; omega)
       have h : XRdr (((((((((w3.setCell ⟨q, 0, none⟩ (.int .i64 i1)).setCell ⟨q, 1, none⟩ (.int .i64 i2)).setCell ⟨q, 2, none⟩ (.int .i64 i3)).setCell ⟨q, 3, none⟩ (.int .i64 i4)).setCell ⟨q, 4, none⟩ (.int .i64 i5)).setCell ⟨q, 5, none⟩ (.int .i64 i6)).setCell ⟨q, 6, none⟩ (.slice aS D1.length cS)).setCell ⟨q, 7, none⟩ (.slice a1 D.length c6)).setCell ⟨q, 8, none⟩ (.slice aU U.length cU)) g a c b sn.l sn.e := h.ext hy (by simp only [Esc.just]; omega) (fun hb ad ha e => by have := hlow hb ad ha; have e : ad.block = q := e; omega)
       have hxe : Ext (just g) w (((((((((w3.setCell ⟨q, 0, none⟩ (.int .i64 i1)).setCell ⟨q, 1, none⟩ (.int .i64 i2)).setCell ⟨q, 2, none⟩ (.int .i64 i3)).setCell ⟨q, 3, none⟩ (.int .i64 i4)).setCell ⟨q, 4, none⟩ (.int .i64 i5)).setCell ⟨q, 5, none⟩ (.int .i64 i6)).setCell ⟨q, 6, none⟩ (.slice aS D1.length cS)).setCell ⟨q, 7, none⟩ (.slice a1 D.length c6)).setCell ⟨q, 8, none⟩ (.slice aU U.length cU)) := hx.trans hy (fun i hi h => by simp only [Esc.just] at h; omega)
       go_wp2_with fail
       generalize (((((((((w3.setCell ⟨q, 0, none⟩ (.int .i64 i1)).setCell ⟨q, 1, none⟩ (.int .i64 i2)).setCell ⟨q, 2, none⟩ (.int .i64 i3)).setCell ⟨q, 3, none⟩ (.int .i64 i4)).setCell ⟨q, 4, none⟩ (.int .i64 i5)).setCell ⟨q, 5, none⟩ (.int .i64 i6)).setCell ⟨q, 6, none⟩ (.slice aS D1.length cS)).setCell ⟨q, 7, none⟩ (.slice a1 D.length c6)).setCell ⟨q, 8, none⟩ (.slice aU U.length cU)) = wz at *
       refine bodyPost_ret (v := (⟨i1, i2, i3, i4, i5, i6, D1, D, U⟩ : ReplyR).val ⟨aS, cS, a1, c6, aU, cU⟩) ?_ rfl ⟨⟨aS, cS, a1, c6, aU, cU⟩, by rw [HCM.out], ?_, by rw [HCM.out]; exact h, hxe⟩
       ·exact reply_result2 rfl _ _ (by rfl) hze
       ·rw [HCM.out]
        intro S wy hy hS
        exact ⟨own_keep hoS (by omega) hy hS, own_keep hown (by omega) hy hS, own_keep hoU (by omega) hy hS, hoS.nc, hown.nc, hoU.nc, hoS.cm, hown.cm, hoU.cm⟩
end Go.Proofs.YtddobhihjljcgaaGreat
