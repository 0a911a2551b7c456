import Derived.Test.YtddobhihjljcgaaGreatWiRd1
/- The reader of wire: a reply. -/
namespace Go.Proofs.YtddobhihjljcgaaGreat
open Go.RowKit Go.Esc
set_option linter.unusedVariables false
set_option linter.unusedSimpArgs false
theorem reply_result {fn : Func} {p : Tmp} (hf : fn.results = #[.cell p 34]) (tmps : Array Value) (w : World) {q : Nat} {c : ReplyR} {k : ReplyA} (h1 : tmps.getD p undef = .pointer (some ⟨q, 0, none⟩)) (hC : Blk w q (c.cells k)) :
  (results fn tmps).run Tryz.prog w = .ok (c.val k) w := by
 rw [results_cell1 hf, h1]
 have := run_loadVar_mid (P := Tryz.prog) w q 0 34 (c.cells k) _ hC.range Tryz.underlying34 rfl (by kernel_rfl)
 simp only [asAddr, Sem.run_pure, Result.andThen_ok, this]
 rfl
set_option maxRecDepth 100000 in
set_option maxHeartbeats 16000000 in
theorem rreply_any (w : World) (R g : Nat) {d : Option Nat} (s0 : RS) (x : Int) (h : WR w R g d s0 x) :
  Calls Tryz.prog 62 #[.pointer (some ⟨R, 0, none⟩)] w fun e w' => ∃ k : ReplyA, e = .returned ((wReply s0).1.val k) ∧ Kept w w' (fun wz => (wReply s0).1.In wz k) ∧ WR w' R g d (wReply s0).2 x ∧ Ext (rg R g) w w' := by
 have hRw := h.lt
 have hgw := h.glt
 have hdw := h.dlt
 have hRg := h.ne
 go_enter Tryz.func62, Tryz.ntmps62
 have mk := mkFunc
 go_upto_region 1 with fail
 have hz := Blk.lit w #[.int .i64 0, .int .i64 0, .int .i64 0, .int .i64 0, .int .i64 0, .int .i64 0, .slice none 0 0, .slice none 0 0, .slice none 0 0] 34
 have hx0 := Ext.alloc no w (.cells #[.int .i64 0, .int .i64 0, .int .i64 0, .int .i64 0, .int .i64 0, .int .i64 0, .slice none 0 0, .slice none 0 0, .slice none 0 0] 34)
 have h := h.no hx0
 have hx : Ext (rg R g) w (w.alloc (.cells #[.int .i64 0, .int .i64 0, .int .i64 0, .int .i64 0, .int .i64 0, .int .i64 0, .slice none 0 0, .slice none 0 0, .slice none 0 0] 34)) := hx0.mono (fun _ _ e => e.elim)
 clear hx0
 generalize w.alloc (.cells #[.int .i64 0, .int .i64 0, .int .i64 0, .int .i64 0, .int .i64 0, .int .i64 0, .slice none 0 0, .slice none 0 0, .slice none 0 0] 34) = v0 at *
 obtain ⟨q, hq⟩ : ∃ q, q = w.heap.size := ⟨_, rfl⟩
 have hwq : w.heap.size ≤ q := by omega
 rw [← hq] at hz ⊢
 clear hq
 have hp := h.p
 go_wp2_with fail
 refine (rerr_any v0 R g s0 x h).mono ?_
 rintro e v1 ⟨rfl, h', hx'⟩
 have hz := hz.ext (by simp) hx' (by simp only [Esc.just]; omega)
 obtain ⟨i1, hn⟩ : ∃ n, n = (pErr s0).1 := ⟨_, rfl⟩
 obtain ⟨s1, hs''⟩ : ∃ q, q = (pErr s0).2 := ⟨_, rfl⟩
 rw [← hs''] at h'
 rw [← hn]
 have HNi1 := Lib.hid hn
 have HS1 := Lib.hid hs''
 replace h := h'
 replace hx := hx.comp (Ext.rg hx')
 clear hn hs'' hx' hp h'
 have hp := h.p
 go_wp2_with fail
 refine (rdInt_any v1 g s1 h.rd).mono ?_
 rintro e v2 ⟨rfl, hr', hx'⟩
 have hz := hz.ext (by simp) hx' (by simp only [Esc.just]; omega)
 obtain ⟨i2, hn⟩ : ∃ n, n = (rInt s1).1 := ⟨_, rfl⟩
 obtain ⟨s2, hs''⟩ : ∃ q, q = (rInt s1).2 := ⟨_, rfl⟩
 rw [← hs''] at hr'
 rw [← hn]
 have HNi2 := Lib.hid hn
 have HS2 := Lib.hid hs''
 replace h : WR v2 R g d s2 x := h.step hr' hx'
 replace hx := hx.comp (Ext.rg hx')
 clear hn hs'' hr' hx' hp
 have hp := h.p
 go_upto_region 3 with fail
 have hb4 : Blk (v2.alloc (.cells #[.int .i64 i1, .int .i64 i2, .int .i64 0, .int .i64 0, .int .i64 0, .int .i64 0, .slice none 0 0, .slice none 0 0, .slice none 0 0] 34)) v2.heap.size [.int .i64 i1, .int .i64 i2, .int .i64 0, .int .i64 0, .int .i64 0, .int .i64 0, .slice none 0 0, .slice none 0 0, .slice none 0 0] := Blk.lit v2 #[.int .i64 i1, .int .i64 i2, .int .i64 0, .int .i64 0, .int .i64 0, .int .i64 0, .slice none 0 0, .slice none 0 0, .slice none 0 0] 34
 have hx3 := Ext.alloc no v2 (.cells #[.int .i64 i1, .int .i64 i2, .int .i64 0, .int .i64 0, .int .i64 0, .int .i64 0, .slice none 0 0, .slice none 0 0, .slice none 0 0] 34)
 have hqv := hz.lt (by simp)
 have hsv := hx.size
 have h := h.no hx3
 have hz := hz.ext (by simp) hx3 (fun h => h)
 replace hx := hx.comp (hx3.mono (S' := rg R g) (fun _ _ e => e.elim))
 generalize v2.alloc (.cells #[.int .i64 i1, .int .i64 i2, .int .i64 0, .int .i64 0, .int .i64 0, .int .i64 0, .slice none 0 0, .slice none 0 0, .slice none 0 0] 34) = u2 at *
 clear hx3 hp
 obtain ⟨r4, hr⟩ : ∃ r, r = v2.heap.size := ⟨_, rfl⟩
 rw [← hr] at hb4 ⊢
 have hq4 : q < r4 := by omega
 have hw4 : w.heap.size ≤ r4 := by omega
 clear hr hqv hsv
 have hp := h.p
 go_wp2_with fail
 refine (rdInt_any u2 g s2 h.rd).mono ?_
 rintro e v3 ⟨rfl, hr', hx'⟩
 have hz := hz.ext (by simp) hx' (by simp only [Esc.just]; omega)
 have hb4 := hb4.ext (by simp) hx' (by simp only [Esc.just]; omega)
 obtain ⟨i3, hn⟩ : ∃ n, n = (rInt s2).1 := ⟨_, rfl⟩
 obtain ⟨s3, hs''⟩ : ∃ q, q = (rInt s2).2 := ⟨_, rfl⟩
 rw [← hs''] at hr'
 rw [← hn]
 have HNi3 := Lib.hid hn
 have HS3 := Lib.hid hs''
 replace h : WR v3 R g d s3 x := h.step hr' hx'
 replace hx := hx.comp (Ext.rg hx')
 clear hn hs'' hr' hx' hp
 have hp := h.p
 go_wp2_with fail
 refine (rdInt_any v3 g s3 h.rd).mono ?_
 rintro e v4 ⟨rfl, hr', hx'⟩
 have hz := hz.ext (by simp) hx' (by simp only [Esc.just]; omega)
 have hb4 := hb4.ext (by simp) hx' (by simp only [Esc.just]; omega)
 obtain ⟨i4, hn⟩ : ∃ n, n = (rInt s3).1 := ⟨_, rfl⟩
 obtain ⟨s4, hs''⟩ : ∃ q, q = (rInt s3).2 := ⟨_, rfl⟩
 rw [← hs''] at hr'
 rw [← hn]
 have HNi4 := Lib.hid hn
 have HS4 := Lib.hid hs''
 replace h : WR v4 R g d s4 x := h.step hr' hx'
 replace hx := hx.comp (Ext.rg hx')
 clear hn hs'' hr' hx' hp
 have hp := h.p
 go_wp2_with fail
 refine (rdInt_any v4 g s4 h.rd).mono ?_
 rintro e v5 ⟨rfl, hr', hx'⟩
 have hz := hz.ext (by simp) hx' (by simp only [Esc.just]; omega)
 have hb4 := hb4.ext (by simp) hx' (by simp only [Esc.just]; omega)
 obtain ⟨i5, hn⟩ : ∃ n, n = (rInt s4).1 := ⟨_, rfl⟩
 obtain ⟨s5, hs''⟩ : ∃ q, q = (rInt s4).2 := ⟨_, rfl⟩
 rw [← hs''] at hr'
 rw [← hn]
 have HNi5 := Lib.hid hn
 have HS5 := Lib.hid hs''
 replace h : WR v5 R g d s5 x := h.step hr' hx'
 replace hx := hx.comp (Ext.rg hx')
 clear hn hs'' hr' hx' hp
 have hp := h.p
 go_wp2_with fail
 refine (rdInt_any v5 g s5 h.rd).mono ?_
 rintro e v6 ⟨rfl, hr', hx'⟩
 have hz := hz.ext (by simp) hx' (by simp only [Esc.just]; omega)
 have hb4 := hb4.ext (by simp) hx' (by simp only [Esc.just]; omega)
 obtain ⟨i6, hn⟩ : ∃ n, n = (rInt s5).1 := ⟨_, rfl⟩
 obtain ⟨s6, hs''⟩ : ∃ q, q = (rInt s5).2 := ⟨_, rfl⟩
 rw [← hs''] at hr'
 rw [← hn]
 have HNi6 := Lib.hid hn
 have HS6 := Lib.hid hs''
 replace h : WR v6 R g d s6 x := h.step hr' hx'
 replace hx := hx.comp (Ext.rg hx')
 clear hn hs'' hr' hx' hp
 have hp := h.p
 go_upto_region 4 with fail
 have hb : Blk (v6.alloc (.cells #[.int .i64 i3, .int .i64 i4, .int .i64 i5, .int .i64 i6, .slice none 0 0, .slice none 0 0, .slice none 0 0] 32)) v6.heap.size [.int .i64 i3, .int .i64 i4, .int .i64 i5, .int .i64 i6, .slice none 0 0, .slice none 0 0, .slice none 0 0] := Blk.lit v6 #[.int .i64 i3, .int .i64 i4, .int .i64 i5, .int .i64 i6, .slice none 0 0, .slice none 0 0, .slice none 0 0] 32
 have hx3 := Ext.alloc no v6 (.cells #[.int .i64 i3, .int .i64 i4, .int .i64 i5, .int .i64 i6, .slice none 0 0, .slice none 0 0, .slice none 0 0] 32)
 have hqv := hb4.lt (by simp)
 have h := h.no hx3
 have hz := hz.ext (by simp) hx3 (fun h => h)
 have hb4 := hb4.ext (by simp) hx3 (fun h => h)
 replace hx := hx.comp (hx3.mono (S' := rg R g) (fun _ _ e => e.elim))
 generalize v6.alloc (.cells #[.int .i64 i3, .int .i64 i4, .int .i64 i5, .int .i64 i6, .slice none 0 0, .slice none 0 0, .slice none 0 0] 32) = u6 at *
 clear hx3 hp
 obtain ⟨r5, hr⟩ : ∃ r, r = v6.heap.size := ⟨_, rfl⟩
 rw [← hr] at hb ⊢
 have h45 : r4 < r5 := by omega
 have hw5 : w.heap.size ≤ r5 := by omega
 have hdr : ∀ i, d = some i → i ≠ r5 := fun i hi => by have := hdw i hi; omega
 have hd4 : ∀ i, d = some i → i ≠ r4 := fun i hi => by have := hdw i hi; omega
 have hdq : ∀ i, d = some i → i ≠ q := fun i hi => by have := hdw i hi; omega
 clear hr hqv
 go_wp2_with fail
 refine (rsize_any u6 R g s6 x 20 (by omega) (by omega) h).mono ?_
 rintro e u7 ⟨rfl, h', hx'⟩
 have hb := hb.ext (by simp) hx' (fun e => by have e : r5 = g := e; omega)
 have hb4 := hb4.ext (by simp) hx' (fun e => by have e : r4 = g := e; omega)
 have hz := hz.ext (by simp) hx' (fun e => by have e : q = g := e; omega)
 replace hx := hx.comp (Ext.rg hx')
 have M1b := pSize_le (m := 20) (by omega) s6
 obtain ⟨M1, hM⟩ : ∃ M, M = (pSize 20 s6).1 := ⟨_, rfl⟩
 obtain ⟨t1, ht⟩ : ∃ q, q = (pSize 20 s6).2 := ⟨_, rfl⟩
 have HSZ1 := Lib.hid (show pSize 20 s6 = (M1, t1) by rw [hM, ht])
 rw [← hM] at M1b ⊢
 rw [← ht] at h'
 clear hM ht hx' h
 have h := h'
 clear h'
 have hNs := hb.lt (by simp)
 go_wp2_with fail
 go_loopw [27] (fun sl wr => ∃ (i : Nat) (D : List SliceR) (a' : Option Addr) (c' : Nat) (sr : RS), i ≤ M1 ∧ sl = .int .i64 i ∧ D.length = i ∧ pRow pSlice M1 t1 = (D ++ (pRow pSlice (M1 - i) sr).1, (pRow pSlice (M1 - i) sr).2) ∧ WR wr R g d sr x ∧ Blk wr r5 [.int .i64 i3, .int .i64 i4, .int .i64 i5, .int .i64 i6, .slice a' D.length c', .slice none 0 0, .slice none 0 0] ∧ r5 + 1 ≤ wr.heap.size ∧ Blk wr q [.int .i64 0, .int .i64 0, .int .i64 0, .int .i64 0, .int .i64 0, .int .i64 0, .slice none 0 0, .slice none 0 0, .slice none 0 0] ∧ Blk wr r4 [.int .i64 i1, .int .i64 i2, .int .i64 0, .int .i64 0, .int .i64 0, .int .i64 0, .slice none 0 0, .slice none 0 0, .slice none 0 0] ∧ Own wr (r5 + 1) a' 5 D.length c' (rows SliceR.cells D) ∧ Ext (rg R g) w wr) (fun sl _ => M1 - (intOf sl).toNat)
 case atStart => exact ⟨0, [], none, 0, t1, by omega, rfl, rfl, by simp, h, hb, hNs, hz, hb4, Own.nil _ _ _, hx⟩
 case round =>
  clear h hb hx hNs hz hb4
  obtain ⟨i, D, a1, c6, sr, hi, rfl, hDl, hpd, h, hb, hNs, hz, hb4, hown, hx⟩ := hrel
  have HD := Lib.hid hDl
  have HPD := Lib.hid hpd
  clear hDl hpd
  have hp := h.p
  by_cases hiM : i < M1
  ·have e1 : decide (i < M1) = true := decT hiM
   have HPS := Lib.hid (pRow_step pSlice hiM sr)
   have cK := hb.cell 4 _ rfl
   go_upto_region 6 with fail
   refine wp_region_F [1, 5] (looks [(1, fun z => z.cell? ⟨r5, 4, none⟩ = some (.slice a1 D.length c6)), (5, fun z => z.cell? ⟨R, 0, none⟩ = some (.pointer (some ⟨g, 0, none⟩)))]) (by kernel_rfl) ?_
   have hxd := Ext.drew no wr
   have h := h.no hxd
   have hb := hb.ext (by simp) hxd (fun h => h)
   have hz := hz.ext (by simp) hxd (fun h => h)
   have hb4 := hb4.ext (by simp) hxd (fun h => h)
   have hown := hown.ext hxd (fun _ _ h => h)
   replace hx := hx.comp (hxd.mono (S' := rg R g) (fun _ _ e => e.elim))
   have hNs := Nat.le_trans hNs hxd.size
   clear cK hxd hp
   generalize wr.drew = wd at *
   have cK := hb.cell 4 _ rfl
   have hp := h.p
   have hT0 : ∀ k, looks [(1, fun z => z.cell? ⟨r5, 4, none⟩ = some (.slice a1 D.length c6)), (5, fun z => z.cell? ⟨R, 0, none⟩ = some (.pointer (some ⟨g, 0, none⟩)))] k (wd) := looks_all ⟨cK, hp, trivial⟩
   refine wpF_tk 0 (v := ?_) rfl hT0 (by rfl) ?_ ?_
   rotate_left
   ·(intro wq; go_simp; try with_reducible rfl)
   simp only [pz]
   refine wpF_lk 1 (v := .slice a1 D.length c6) rfl hT0 (by rfl) (fun w hS => by have hS : w.cell? ⟨r5, 4, none⟩ = some (.slice a1 D.length c6) := hS; go_simp) ?_
   simp only [pz]
   refine wpF_tk 2 (v := ?_) rfl hT0 (by rfl) ?_ ?_
   rotate_left
   ·(intro wq; go_simp; try with_reducible rfl)
   simp only [pz]
   refine wpF_tk 3 (v := ?_) rfl hT0 (by rfl) ?_ ?_
   rotate_left
   ·(intro wq; go_simp; try with_reducible rfl)
   simp only [pz]
   refine wpF_tk 4 (v := ?_) rfl hT0 (by rfl) ?_ ?_
   rotate_left
   ·(intro wq; go_simp; try with_reducible rfl)
   simp only [pz]
   refine wpF_lk 5 (v := .pointer (some ⟨g, 0, none⟩)) rfl hT0 (by rfl) (fun w hS => by have hS : w.cell? ⟨R, 0, none⟩ = some (.pointer (some ⟨g, 0, none⟩)) := hS; go_simp) ?_
   simp only [pz]
   refine wpF_tk 7 (v := ?_) rfl hT0 (by rfl) ?_ ?_
   rotate_left
   ·(intro wq; go_simp; try with_reducible rfl)
   simp only [pz]
   refine wpF_tk 9 (v := ?_) rfl hT0 (by rfl) ?_ ?_
   rotate_left
   ·(intro wq; go_simp; try with_reducible rfl)
   simp only [pz]
   refine wpF_tk 11 (v := ?_) rfl hT0 (by rfl) ?_ ?_
   rotate_left
   ·(intro wq; go_simp; try with_reducible rfl)
   simp only [pz]
   refine wpF_tk 13 (v := ?_) rfl hT0 (by rfl) ?_ ?_
   rotate_left
   ·(intro wq; go_simp; try with_reducible rfl)
   simp only [pz]
   refine wpF_exec 6 rfl (by kernel_rfl) (by rfl) ?_
   intro K hK
   go_simp
   refine (rdText_any wd g sr h.rd).mono ?_
   rintro e x1 ⟨rfl, h', hy⟩
   obtain ⟨m0, hm⟩ : ∃ x, x = (rText sr).1 := ⟨_, rfl⟩
   obtain ⟨sq0, hsq⟩ : ∃ x, x = (rText sr).2 := ⟨_, rfl⟩
   rw [← hsq] at h'
   rw [← hm]
   have HM0 := Lib.hid hm
   have HSQ0 := Lib.hid hsq
   replace h : WR x1 R g d sq0 x := h.step h' hy
   clear hm hsq h'
   have hb := hb.ext (by simp) hy (fun e => by have e : r5 = g := e; omega)
   have hz := hz.ext (by simp) hy (fun e => by have e : q = g := e; omega)
   have hb4 := hb4.ext (by simp) hy (fun e => by have e : r4 = g := e; omega)
   have hown := hown.ext hy (fun ad h e => by have := (hown.base ad h).1; have e : ad.block = g := e; omega)
   replace hx := hx.comp (Ext.rg hy)
   have hNs := Nat.le_trans hNs hy.size
   have cK := hb.cell 4 _ rfl
   have hp := h.p
   clear hy
   have hT1 : ∀ k, looks [(1, fun z => z.cell? ⟨r5, 4, none⟩ = some (.slice a1 D.length c6)), (5, fun z => z.cell? ⟨R, 0, none⟩ = some (.pointer (some ⟨g, 0, none⟩)))] k (x1) := looks_all ⟨cK, hp, trivial⟩
   refine hK _ _ (looks [(1, fun z => z.cell? ⟨r5, 4, none⟩ = some (.slice a1 D.length c6)), (5, fun z => z.cell? ⟨R, 0, none⟩ = some (.pointer (some ⟨g, 0, none⟩)))]) ⟨.inr (.inr (fun x h => h)), .inr (.inl (by kernel_rfl)), trivial⟩ hT1 ?_
   clear hK K
   try simp only [pz]
   refine wpF_exec 8 rfl (by kernel_rfl) (by rfl) ?_
   intro K hK
   go_simp
   refine (rdInt_any x1 g sq0 h.rd).mono ?_
   rintro e x2 ⟨rfl, h', hy⟩
   obtain ⟨m1, hm⟩ : ∃ x, x = (rInt sq0).1 := ⟨_, rfl⟩
   obtain ⟨sq1, hsq⟩ : ∃ x, x = (rInt sq0).2 := ⟨_, rfl⟩
   rw [← hsq] at h'
   rw [← hm]
   have HM1 := Lib.hid hm
   have HSQ1 := Lib.hid hsq
   replace h : WR x2 R g d sq1 x := h.step h' hy
   clear hm hsq h'
   have hb := hb.ext (by simp) hy (fun e => by have e : r5 = g := e; omega)
   have hz := hz.ext (by simp) hy (fun e => by have e : q = g := e; omega)
   have hb4 := hb4.ext (by simp) hy (fun e => by have e : r4 = g := e; omega)
   have hown := hown.ext hy (fun ad h e => by have := (hown.base ad h).1; have e : ad.block = g := e; omega)
   replace hx := hx.comp (Ext.rg hy)
   have hNs := Nat.le_trans hNs hy.size
   have cK := hb.cell 4 _ rfl
   have hp := h.p
   clear hy
   have hT2 : ∀ k, looks [(1, fun z => z.cell? ⟨r5, 4, none⟩ = some (.slice a1 D.length c6)), (5, fun z => z.cell? ⟨R, 0, none⟩ = some (.pointer (some ⟨g, 0, none⟩)))] k (x2) := looks_all ⟨cK, hp, trivial⟩
   refine hK _ _ (looks [(1, fun z => z.cell? ⟨r5, 4, none⟩ = some (.slice a1 D.length c6)), (5, fun z => z.cell? ⟨R, 0, none⟩ = some (.pointer (some ⟨g, 0, none⟩)))]) ⟨.inr (.inr (fun x h => h)), .inr (.inl (by kernel_rfl)), trivial⟩ hT2 ?_
   clear hK K
   try simp only [pz]
   refine wpF_exec 10 rfl (by kernel_rfl) (by rfl) ?_
   intro K hK
   go_simp
   refine (rdInt_any x2 g sq1 h.rd).mono ?_
   rintro e x3 ⟨rfl, h', hy⟩
   obtain ⟨m2, hm⟩ : ∃ x, x = (rInt sq1).1 := ⟨_, rfl⟩
   obtain ⟨sq2, hsq⟩ : ∃ x, x = (rInt sq1).2 := ⟨_, rfl⟩
   rw [← hsq] at h'
   rw [← hm]
   have HM2 := Lib.hid hm
   have HSQ2 := Lib.hid hsq
   replace h : WR x3 R g d sq2 x := h.step h' hy
   clear hm hsq h'
   have hb := hb.ext (by simp) hy (fun e => by have e : r5 = g := e; omega)
   have hz := hz.ext (by simp) hy (fun e => by have e : q = g := e; omega)
   have hb4 := hb4.ext (by simp) hy (fun e => by have e : r4 = g := e; omega)
   have hown := hown.ext hy (fun ad h e => by have := (hown.base ad h).1; have e : ad.block = g := e; omega)
   replace hx := hx.comp (Ext.rg hy)
   have hNs := Nat.le_trans hNs hy.size
   have cK := hb.cell 4 _ rfl
   have hp := h.p
   clear hy
   have hT3 : ∀ k, looks [(1, fun z => z.cell? ⟨r5, 4, none⟩ = some (.slice a1 D.length c6)), (5, fun z => z.cell? ⟨R, 0, none⟩ = some (.pointer (some ⟨g, 0, none⟩)))] k (x3) := looks_all ⟨cK, hp, trivial⟩
   refine hK _ _ (looks [(1, fun z => z.cell? ⟨r5, 4, none⟩ = some (.slice a1 D.length c6)), (5, fun z => z.cell? ⟨R, 0, none⟩ = some (.pointer (some ⟨g, 0, none⟩)))]) ⟨.inr (.inr (fun x h => h)), .inr (.inl (by kernel_rfl)), trivial⟩ hT3 ?_
   clear hK K
   try simp only [pz]
   refine wpF_exec 12 rfl (by kernel_rfl) (by rfl) ?_
   intro K hK
   go_simp
   refine (rdInt_any x3 g sq2 h.rd).mono ?_
   rintro e x4 ⟨rfl, h', hy⟩
   obtain ⟨m3, hm⟩ : ∃ x, x = (rInt sq2).1 := ⟨_, rfl⟩
   obtain ⟨sq3, hsq⟩ : ∃ x, x = (rInt sq2).2 := ⟨_, rfl⟩
   rw [← hsq] at h'
   rw [← hm]
   have HM3 := Lib.hid hm
   have HSQ3 := Lib.hid hsq
   replace h : WR x4 R g d sq3 x := h.step h' hy
   clear hm hsq h'
   have hb := hb.ext (by simp) hy (fun e => by have e : r5 = g := e; omega)
   have hz := hz.ext (by simp) hy (fun e => by have e : q = g := e; omega)
   have hb4 := hb4.ext (by simp) hy (fun e => by have e : r4 = g := e; omega)
   have hown := hown.ext hy (fun ad h e => by have := (hown.base ad h).1; have e : ad.block = g := e; omega)
   replace hx := hx.comp (Ext.rg hy)
   have hNs := Nat.le_trans hNs hy.size
   have cK := hb.cell 4 _ rfl
   have hp := h.p
   clear hy
   have hT4 : ∀ k, looks [(1, fun z => z.cell? ⟨r5, 4, none⟩ = some (.slice a1 D.length c6)), (5, fun z => z.cell? ⟨R, 0, none⟩ = some (.pointer (some ⟨g, 0, none⟩)))] k (x4) := looks_all ⟨cK, hp, trivial⟩
   refine hK _ _ (looks [(1, fun z => z.cell? ⟨r5, 4, none⟩ = some (.slice a1 D.length c6)), (5, fun z => z.cell? ⟨R, 0, none⟩ = some (.pointer (some ⟨g, 0, none⟩)))]) ⟨.inr (.inr (fun x h => h)), .inr (.inl (by kernel_rfl)), trivial⟩ hT4 ?_
   clear hK K
   try simp only [pz]
   refine wpF_exec 14 rfl (by kernel_rfl) (by rfl) ?_
   intro K hK
   go_simp
   refine (rdInt_any x4 g sq3 h.rd).mono ?_
   rintro e x5 ⟨rfl, h', hy⟩
   obtain ⟨m4, hm⟩ : ∃ x, x = (rInt sq3).1 := ⟨_, rfl⟩
   obtain ⟨sq4, hsq⟩ : ∃ x, x = (rInt sq3).2 := ⟨_, rfl⟩
   rw [← hsq] at h'
   rw [← hm]
   have HM4 := Lib.hid hm
   have HSQ4 := Lib.hid hsq
   replace h : WR x5 R g d sq4 x := h.step h' hy
   clear hm hsq h'
   have hb := hb.ext (by simp) hy (fun e => by have e : r5 = g := e; omega)
   have hz := hz.ext (by simp) hy (fun e => by have e : q = g := e; omega)
   have hb4 := hb4.ext (by simp) hy (fun e => by have e : r4 = g := e; omega)
   have hown := hown.ext hy (fun ad h e => by have := (hown.base ad h).1; have e : ad.block = g := e; omega)
   replace hx := hx.comp (Ext.rg hy)
   have hNs := Nat.le_trans hNs hy.size
   have cK := hb.cell 4 _ rfl
   have hp := h.p
   clear hy
   have hT5 : ∀ k, looks [(1, fun z => z.cell? ⟨r5, 4, none⟩ = some (.slice a1 D.length c6)), (5, fun z => z.cell? ⟨R, 0, none⟩ = some (.pointer (some ⟨g, 0, none⟩)))] k (x5) := looks_all ⟨cK, hp, trivial⟩
   refine hK _ _ (looks [(1, fun z => z.cell? ⟨r5, 4, none⟩ = some (.slice a1 D.length c6)), (5, fun z => z.cell? ⟨R, 0, none⟩ = some (.pointer (some ⟨g, 0, none⟩)))]) ⟨.inr (.inr (fun x h => h)), .inr (.inl (by kernel_rfl)), trivial⟩ hT5 ?_
   clear hK K
   try simp only [pz]
   refine wpF_tk 15 (v := ?_) rfl hT5 (by rfl) ?_ ?_
   rotate_left
   ·(intro wq; go_simp; try with_reducible rfl)
   simp only [pz]
   refine wpF_exec 16 rfl (by kernel_rfl) (by rfl) ?_
   intro K hK
   go_simp
   have hT6 : ∀ k, looks [(1, fun z => z.cell? ⟨r5, 4, none⟩ = some (.slice a1 D.length c6)), (5, fun z => z.cell? ⟨R, 0, none⟩ = some (.pointer (some ⟨g, 0, none⟩)))] k ((x5.alloc (.cells #[.string (str m0), .int .i64 m1, .int .i64 m2, .int .i64 m3, .int .i64 m4] 64))) := looks_all ⟨((Ext.alloc no x5 (.cells #[.string (str m0), .int .i64 m1, .int .i64 m2, .int .i64 m3, .int .i64 m4] 64)).keeps cK (fun h => h)), ((Ext.alloc no x5 (.cells #[.string (str m0), .int .i64 m1, .int .i64 m2, .int .i64 m3, .int .i64 m4] 64)).keeps hp (fun h => h)), trivial⟩
   refine hK _ _ (looks [(1, fun z => z.cell? ⟨r5, 4, none⟩ = some (.slice a1 D.length c6)), (5, fun z => z.cell? ⟨R, 0, none⟩ = some (.pointer (some ⟨g, 0, none⟩)))]) ⟨.inr (.inr (fun x h => h)), .inr (.inl (by kernel_rfl)), trivial⟩ hT6 ?_
   clear hK K
   try simp only [pz]
   refine wpF_exec 17 rfl (by kernel_rfl) (by rfl) ?_
   intro K hK
   have hxa := Ext.alloc no x5 (.cells #[.string (str m0), .int .i64 m1, .int .i64 m2, .int .i64 m3, .int .i64 m4] 64)
   have hb := hb.ext (by simp) hxa (fun h => h)
   have hz := hz.ext (by simp) hxa (fun h => h)
   have hb4 := hb4.ext (by simp) hxa (fun h => h)
   have hown := hown.ext hxa (fun _ _ h => h)
   have h := h.no hxa
   replace hx := hx.comp (hxa.mono (S' := rg R g) (fun _ _ e => e.elim))
   have hNs := Nat.le_trans hNs hxa.size
   refine op_append TySlices rfl rfl hown rfl (Rd.lit x5 _ _ _) (by simp) (by intro u hu; simp at hu; rcases hu with rfl | rfl | rfl | rfl | rfl <;> rfl) (by unfold maxLen; have := HD.out; omega) (by have := HD.out; omega) hNs ?_
   intro a8 c8 w8 hA
   have hb := hb.ext (by simp) hA.ext (hown.notBlk (by omega))
   have hz := hz.ext (by simp) hA.ext (hown.notBlk (by omega))
   have hb4 := hb4.ext (by simp) hA.ext (hown.notBlk (by omega))
   have h := h.aside hA.ext (hown.notBlk (by omega)) (hown.notBlk (by omega)) (fun i hi => hown.notBlk (by have := hdw i hi; omega))
   have hx : Ext (rg R g) w w8 := hx.trans hA.ext (fun i hi h => (hown.notBlk (by omega) h).elim)
   have hNs := Nat.le_trans hNs hA.ext.size
   have ho8 := hA.own
   have cK := hb.cell 4 _ rfl
   have f8 := hb.fr 4
   have hp := h.p
   have hT7 : ∀ k, looks [(1, fun z => z.cell? ⟨r5, 4, none⟩ = some (.slice a1 D.length c6)), (5, fun z => z.cell? ⟨R, 0, none⟩ = some (.pointer (some ⟨g, 0, none⟩)))] k (w8) := looks_all ⟨cK, hp, trivial⟩
   refine hK _ _ (looks [(1, fun z => z.cell? ⟨r5, 4, none⟩ = some (.slice a1 D.length c6)), (5, fun z => z.cell? ⟨R, 0, none⟩ = some (.pointer (some ⟨g, 0, none⟩)))]) ⟨.inr (.inl (by kernel_rfl)), .inr (.inl (by kernel_rfl)), trivial⟩ hT7 ?_
   clear hK K
   try simp only [pz]
   refine wpF_tk 18 (v := ?_) rfl hT7 (by rfl) ?_ ?_
   rotate_left
   ·(intro wq; go_simp; try with_reducible rfl)
   simp only [pz]
   refine wpF_exec 19 rfl (by kernel_rfl) (by rfl) ?_
   intro K hK
   go_simp
   have hT8 : ∀ k, looks [(1, fun z => True), (5, fun z => True)] k ((w8.setCell ⟨r5, 4, none⟩ (.slice a8 (D.length + 1) c8))) := looks_all ⟨trivial, trivial, trivial⟩
   refine hK _ _ (looks [(1, fun z => True), (5, fun z => True)]) ⟨.inr (.inl (by kernel_rfl)), .inr (.inl (by kernel_rfl)), trivial⟩ hT8 ?_
   clear hK K
   try simp only [pz]
   refine wpF_done (by kernel_rfl) ?_ _
   obtain ⟨dd, hdd⟩ : ∃ dd : SliceR, dd = ⟨m0, m1, m2, m3, m4⟩ := ⟨_, rfl⟩
   have HDD := Lib.hid (show dd = (pSlice sr).1 by rw [hdd]; unfold pSlice; simp only [← HM0.out, ← HSQ0.out, ← HM1.out, ← HSQ1.out, ← HM2.out, ← HSQ2.out, ← HM3.out, ← HSQ3.out, ← HM4.out, ← HSQ4.out])
   have HSQ := Lib.hid (show sq4 = (pSlice sr).2 by unfold pSlice; simp only [← HM0.out, ← HSQ0.out, ← HM1.out, ← HSQ1.out, ← HM2.out, ← HSQ2.out, ← HM3.out, ← HSQ3.out, ← HM4.out, ← HSQ4.out])
   have xs : Ext (just r5) w8 (w8.setCell ⟨r5, 4, none⟩ (.slice a8 (D.length + 1) c8)) := Ext.setCell _ _ _ rfl
   have hb9 : Blk (w8.setCell ⟨r5, 4, none⟩ (.slice a8 (D.length + 1) c8)) r5 [.int .i64 i3, .int .i64 i4, .int .i64 i5, .int .i64 i6, .slice a8 (D ++ [dd]).length c8, .slice none 0 0, .slice none 0 0] := by rw [List.length_append]; exact hb.set 4 (.slice a8 (D.length + 1) c8) (by simp)
   have hz := hz.ext (by simp) xs (fun e => by have e : q = r5 := e; omega)
   have hb4 := hb4.ext (by simp) xs (fun e => by have e : r4 = r5 := e; omega)
   have h9 := h.new xs (by omega) hdr
   have ho9 : Own (w8.setCell ⟨r5, 4, none⟩ (.slice a8 (D.length + 1) c8)) (r5 + 1) a8 5 (D ++ [dd]).length c8 (rows SliceR.cells (D ++ [dd])) := by
    rw [rows_append, rows_one, List.length_append, hdd]
    exact ho8.ext xs (fun ad h e => by have := (ho8.base ad h).1; have e : ad.block = r5 := e; omega)
   have hx9 : Ext (rg R g) w (w8.setCell ⟨r5, 4, none⟩ (.slice a8 (D.length + 1) c8)) := hx.trans xs (fun i hi h => by simp only [Esc.just] at h; omega)
   have hNs9 := Nat.le_trans hNs xs.size
   have HL := Lib.hid (show (D ++ [dd]).length = i + 1 by rw [List.length_append, HD.out]; rfl)
   have HN := Lib.hid (show pRow pSlice M1 t1 = ((D ++ [dd]) ++ (pRow pSlice (M1 - (i + 1)) sq4).1, (pRow pSlice (M1 - (i + 1)) sq4).2) by rw [HPD.out, HPS.out, ← HDD.out, ← HSQ.out]; simp)
   clear hb h ho8 hx hA hdd xs hNs cK f8 hp
   go_wp2_with fail
   go_roundw
   case rel => exact ⟨i + 1, D ++ [dd], a8, c8, sq4, by omega, by go_num, HL.out, HN.out, h9, hb9, hNs9, hz, hb4, ho9, hx9⟩
   case measure => simp [intOf]; omega
  ·have e1 : decide (i < M1) = false := decF hiM
   have HEND := Lib.hid (show pRow pSlice M1 t1 = (D, sr) by rw [HPD.out, pRow_end pSlice hiM]; simp)
   clear HPD
   have HENDS := HEND
   clear HEND
   obtain ⟨DS, h0⟩ : ∃ v, v = D := ⟨_, rfl⟩
   subst h0
   obtain ⟨aS, h0⟩ : ∃ v, v = a1 := ⟨_, rfl⟩
   subst h0
   obtain ⟨cS, h0⟩ : ∃ v, v = c6 := ⟨_, rfl⟩
   subst h0
   have hownS := hown
   clear hown
   go_wp2_with fail
   refine (rsize_any wr R g sr x 100 (by omega) (by omega) h).mono ?_
   rintro e u8 ⟨rfl, h', hx'⟩
   have hb := hb.ext (by simp) hx' (fun e => by have e : r5 = g := e; omega)
   have hb4 := hb4.ext (by simp) hx' (fun e => by have e : r4 = g := e; omega)
   have hz := hz.ext (by simp) hx' (fun e => by have e : q = g := e; omega)
   have hownS := hownS.ext hx' (fun ad h e => by have := (hownS.base ad h).1; have e : ad.block = g := e; omega)
   replace hx := hx.comp (Ext.rg hx')
   have M2b := pSize_le (m := 100) (by omega) sr
   obtain ⟨M2, hM⟩ : ∃ M, M = (pSize 100 sr).1 := ⟨_, rfl⟩
   obtain ⟨t2, ht⟩ : ∃ q, q = (pSize 100 sr).2 := ⟨_, rfl⟩
   have HSZ2 := Lib.hid (show pSize 100 sr = (M2, t2) by rw [hM, ht])
   rw [← hM] at M2b ⊢
   rw [← ht] at h'
   clear hM ht hx' h
   have h := h'
   clear h'
   obtain ⟨N2, hN2⟩ : ∃ n, n = u8.heap.size := ⟨_, rfl⟩
   have hlS : ∀ ad, aS = some ad → ad.block < N2 := fun ad ha => by have := (hownS.base ad ha).2.1; omega
   have h5N : r5 < N2 := by have := hb.lt (by simp); omega
   have hNs : N2 ≤ u8.heap.size := by omega
   clear hN2
   go_wp2_with fail
   go_loopw [51] (fun sl wr => ∃ (i : Nat) (D : List RangeR) (a' : Option Addr) (c' : Nat) (sr : RS), i ≤ M2 ∧ sl = .int .i64 i ∧ D.length = i ∧ pRow pRange M2 t2 = (D ++ (pRow pRange (M2 - i) sr).1, (pRow pRange (M2 - i) sr).2) ∧ WR wr R g d sr x ∧ Blk wr r5 [.int .i64 i3, .int .i64 i4, .int .i64 i5, .int .i64 i6, .slice aS DS.length cS, .slice a' D.length c', .slice none 0 0] ∧ N2 ≤ wr.heap.size ∧ Blk wr q [.int .i64 0, .int .i64 0, .int .i64 0, .int .i64 0, .int .i64 0, .int .i64 0, .slice none 0 0, .slice none 0 0, .slice none 0 0] ∧ Blk wr r4 [.int .i64 i1, .int .i64 i2, .int .i64 0, .int .i64 0, .int .i64 0, .int .i64 0, .slice none 0 0, .slice none 0 0, .slice none 0 0] ∧ Own wr (r5 + 1) aS 5 DS.length cS (rows SliceR.cells DS) ∧ Own wr (N2) a' 2 D.length c' (rows RangeR.cells D) ∧ Ext (rg R g) w wr) (fun sl _ => M2 - (intOf sl).toNat)
   case atStart => exact ⟨0, [], none, 0, t2, by omega, rfl, rfl, by simp, h, hb, hNs, hz, hb4, hownS, Own.nil _ _ _, hx⟩
   case round =>
    clear h hb hx hNs hz hb4 hownS
    obtain ⟨i, D, a1, c6, sr, hi, rfl, hDl, hpd, h, hb, hNs, hz, hb4, hownS, hown, hx⟩ := hrel
    have HD := Lib.hid hDl
    have HPD := Lib.hid hpd
    clear hDl hpd
    have hp := h.p
    by_cases hiM : i < M2
    ·have e1 : decide (i < M2) = true := decT hiM
     have HPS := Lib.hid (pRow_step pRange hiM sr)
     have cK := hb.cell 5 _ rfl
     go_upto_region 10 with fail
     refine wp_region_F [1] (looks [(1, fun z => z.cell? ⟨r5, 5, none⟩ = some (.slice a1 D.length c6))]) (by kernel_rfl) ?_
     have hxd := Ext.drew no wr
     have h := h.no hxd
     have hb := hb.ext (by simp) hxd (fun h => h)
     have hz := hz.ext (by simp) hxd (fun h => h)
     have hb4 := hb4.ext (by simp) hxd (fun h => h)
     have hownS := hownS.ext hxd (fun _ _ h => h)
     have hown := hown.ext hxd (fun _ _ h => h)
     replace hx := hx.comp (hxd.mono (S' := rg R g) (fun _ _ e => e.elim))
     have hNs := Nat.le_trans hNs hxd.size
     clear cK hxd hp
     generalize wr.drew = wd at *
     have cK := hb.cell 5 _ rfl
     have hp := h.p
     have hT0 : ∀ k, looks [(1, fun z => z.cell? ⟨r5, 5, none⟩ = some (.slice a1 D.length c6))] k (wd) := looks_all ⟨cK, trivial⟩
     refine wpF_tk 0 (v := ?_) rfl hT0 (by rfl) ?_ ?_
     rotate_left
     ·(intro wq; go_simp; try with_reducible rfl)
     simp only [pz]
     refine wpF_lk 1 (v := .slice a1 D.length c6) rfl hT0 (by rfl) (fun w hS => by have hS : w.cell? ⟨r5, 5, none⟩ = some (.slice a1 D.length c6) := hS; go_simp) ?_
     simp only [pz]
     refine wpF_tk 2 (v := ?_) rfl hT0 (by rfl) ?_ ?_
     rotate_left
     ·(intro wq; go_simp; try with_reducible rfl)
     simp only [pz]
     refine wpF_tk 4 (v := ?_) rfl hT0 (by rfl) ?_ ?_
     rotate_left
     ·(intro wq; go_simp; try with_reducible rfl)
     simp only [pz]
     refine wpF_exec 3 rfl (by kernel_rfl) (by rfl) ?_
     intro K hK
     go_simp
     refine (rdInt_any wd g sr h.rd).mono ?_
     rintro e x1 ⟨rfl, h', hy⟩
     obtain ⟨m0, hm⟩ : ∃ x, x = (rInt sr).1 := ⟨_, rfl⟩
     obtain ⟨sq0, hsq⟩ : ∃ x, x = (rInt sr).2 := ⟨_, rfl⟩
     rw [← hsq] at h'
     rw [← hm]
     have HM0 := Lib.hid hm
     have HSQ0 := Lib.hid hsq
     replace h : WR x1 R g d sq0 x := h.step h' hy
     clear hm hsq h'
     have hb := hb.ext (by simp) hy (fun e => by have e : r5 = g := e; omega)
     have hz := hz.ext (by simp) hy (fun e => by have e : q = g := e; omega)
     have hb4 := hb4.ext (by simp) hy (fun e => by have e : r4 = g := e; omega)
     have hownS := hownS.ext hy (fun ad h e => by have := (hownS.base ad h).1; have e : ad.block = g := e; omega)
     have hown := hown.ext hy (fun ad h e => by have := (hown.base ad h).1; have e : ad.block = g := e; omega)
     replace hx := hx.comp (Ext.rg hy)
     have hNs := Nat.le_trans hNs hy.size
     have cK := hb.cell 5 _ rfl
     have hp := h.p
     clear hy
     have hT1 : ∀ k, looks [(1, fun z => z.cell? ⟨r5, 5, none⟩ = some (.slice a1 D.length c6))] k (x1) := looks_all ⟨cK, trivial⟩
     refine hK _ _ (looks [(1, fun z => z.cell? ⟨r5, 5, none⟩ = some (.slice a1 D.length c6))]) ⟨.inr (.inr (fun x h => h)), trivial⟩ hT1 ?_
     clear hK K
     try simp only [pz]
     refine wpF_exec 5 rfl (by kernel_rfl) (by rfl) ?_
     intro K hK
     go_simp
     refine (rdInt_any x1 g sq0 h.rd).mono ?_
     rintro e x2 ⟨rfl, h', hy⟩
     obtain ⟨m1, hm⟩ : ∃ x, x = (rInt sq0).1 := ⟨_, rfl⟩
     obtain ⟨sq1, hsq⟩ : ∃ x, x = (rInt sq0).2 := ⟨_, rfl⟩
     rw [← hsq] at h'
     rw [← hm]
     have HM1 := Lib.hid hm
     have HSQ1 := Lib.hid hsq
     replace h : WR x2 R g d sq1 x := h.step h' hy
     clear hm hsq h'
     have hb := hb.ext (by simp) hy (fun e => by have e : r5 = g := e; omega)
     have hz := hz.ext (by simp) hy (fun e => by have e : q = g := e; omega)
     have hb4 := hb4.ext (by simp) hy (fun e => by have e : r4 = g := e; omega)
     have hownS := hownS.ext hy (fun ad h e => by have := (hownS.base ad h).1; have e : ad.block = g := e; omega)
     have hown := hown.ext hy (fun ad h e => by have := (hown.base ad h).1; have e : ad.block = g := e; omega)
     replace hx := hx.comp (Ext.rg hy)
     have hNs := Nat.le_trans hNs hy.size
     have cK := hb.cell 5 _ rfl
     have hp := h.p
     clear hy
     have hT2 : ∀ k, looks [(1, fun z => z.cell? ⟨r5, 5, none⟩ = some (.slice a1 D.length c6))] k (x2) := looks_all ⟨cK, trivial⟩
     refine hK _ _ (looks [(1, fun z => z.cell? ⟨r5, 5, none⟩ = some (.slice a1 D.length c6))]) ⟨.inr (.inr (fun x h => h)), trivial⟩ hT2 ?_
     clear hK K
     try simp only [pz]
     refine wpF_tk 6 (v := ?_) rfl hT2 (by rfl) ?_ ?_
     rotate_left
     ·(intro wq; go_simp; try with_reducible rfl)
     simp only [pz]
     refine wpF_exec 7 rfl (by kernel_rfl) (by rfl) ?_
     intro K hK
     go_simp
     have hT3 : ∀ k, looks [(1, fun z => z.cell? ⟨r5, 5, none⟩ = some (.slice a1 D.length c6))] k ((x2.alloc (.cells #[.int .i64 m0, .int .i64 m1] 108))) := looks_all ⟨((Ext.alloc no x2 (.cells #[.int .i64 m0, .int .i64 m1] 108)).keeps cK (fun h => h)), trivial⟩
     refine hK _ _ (looks [(1, fun z => z.cell? ⟨r5, 5, none⟩ = some (.slice a1 D.length c6))]) ⟨.inr (.inr (fun x h => h)), trivial⟩ hT3 ?_
     clear hK K
     try simp only [pz]
     refine wpF_exec 8 rfl (by kernel_rfl) (by rfl) ?_
     intro K hK
     have hxa := Ext.alloc no x2 (.cells #[.int .i64 m0, .int .i64 m1] 108)
     have hb := hb.ext (by simp) hxa (fun h => h)
     have hz := hz.ext (by simp) hxa (fun h => h)
     have hb4 := hb4.ext (by simp) hxa (fun h => h)
     have hownS := hownS.ext hxa (fun _ _ h => h)
     have hown := hown.ext hxa (fun _ _ h => h)
     have h := h.no hxa
     replace hx := hx.comp (hxa.mono (S' := rg R g) (fun _ _ e => e.elim))
     have hNs := Nat.le_trans hNs hxa.size
     refine op_append TyRanges rfl rfl hown rfl (Rd.lit x2 _ _ _) (by simp) (by intro u hu; simp at hu; rcases hu with rfl | rfl <;> rfl) (by unfold maxLen; have := HD.out; omega) (by have := HD.out; omega) hNs ?_
     intro a8 c8 w8 hA
     have hb := hb.ext (by simp) hA.ext (hown.notBlk (by omega))
     have hz := hz.ext (by simp) hA.ext (hown.notBlk (by omega))
     have hb4 := hb4.ext (by simp) hA.ext (hown.notBlk (by omega))
     have hownS := hownS.ext hA.ext (fun ad h e => hown.notBlk (hlS ad h) e)
     have h := h.aside hA.ext (hown.notBlk (by omega)) (hown.notBlk (by omega)) (fun i hi => hown.notBlk (by have := hdw i hi; omega))
     have hx : Ext (rg R g) w w8 := hx.trans hA.ext (fun i hi h => (hown.notBlk (by omega) h).elim)
     have hNs := Nat.le_trans hNs hA.ext.size
     have ho8 := hA.own
     have cK := hb.cell 5 _ rfl
     have f8 := hb.fr 5
     have hp := h.p
     have hT4 : ∀ k, looks [(1, fun z => z.cell? ⟨r5, 5, none⟩ = some (.slice a1 D.length c6))] k (w8) := looks_all ⟨cK, trivial⟩
     refine hK _ _ (looks [(1, fun z => z.cell? ⟨r5, 5, none⟩ = some (.slice a1 D.length c6))]) ⟨.inr (.inl (by kernel_rfl)), trivial⟩ hT4 ?_
     clear hK K
     try simp only [pz]
     refine wpF_tk 9 (v := ?_) rfl hT4 (by rfl) ?_ ?_
     rotate_left
     ·(intro wq; go_simp; try with_reducible rfl)
     simp only [pz]
     refine wpF_exec 10 rfl (by kernel_rfl) (by rfl) ?_
     intro K hK
     go_simp
     have hT5 : ∀ k, looks [(1, fun z => True)] k ((w8.setCell ⟨r5, 5, none⟩ (.slice a8 (D.length + 1) c8))) := looks_all ⟨trivial, trivial⟩
     refine hK _ _ (looks [(1, fun z => True)]) ⟨.inr (.inl (by kernel_rfl)), trivial⟩ hT5 ?_
     clear hK K
     try simp only [pz]
     refine wpF_done (by kernel_rfl) ?_ _
     obtain ⟨dd, hdd⟩ : ∃ dd : RangeR, dd = ⟨m0, m1⟩ := ⟨_, rfl⟩
     have HDD := Lib.hid (show dd = (pRange sr).1 by rw [hdd]; unfold pRange; simp only [← HM0.out, ← HSQ0.out, ← HM1.out, ← HSQ1.out])
     have HSQ := Lib.hid (show sq1 = (pRange sr).2 by unfold pRange; simp only [← HM0.out, ← HSQ0.out, ← HM1.out, ← HSQ1.out])
     have xs : Ext (just r5) w8 (w8.setCell ⟨r5, 5, none⟩ (.slice a8 (D.length + 1) c8)) := Ext.setCell _ _ _ rfl
     have hb9 : Blk (w8.setCell ⟨r5, 5, none⟩ (.slice a8 (D.length + 1) c8)) r5 [.int .i64 i3, .int .i64 i4, .int .i64 i5, .int .i64 i6, .slice aS DS.length cS, .slice a8 (D ++ [dd]).length c8, .slice none 0 0] := by rw [List.length_append]; exact hb.set 5 (.slice a8 (D.length + 1) c8) (by simp)
     have hz := hz.ext (by simp) xs (fun e => by have e : q = r5 := e; omega)
     have hb4 := hb4.ext (by simp) xs (fun e => by have e : r4 = r5 := e; omega)
     have hownS := hownS.ext xs (fun ad h e => by have := (hownS.base ad h).1; have e : ad.block = r5 := e; omega)
     have h9 := h.new xs (by omega) hdr
     have ho9 : Own (w8.setCell ⟨r5, 5, none⟩ (.slice a8 (D.length + 1) c8)) (N2) a8 2 (D ++ [dd]).length c8 (rows RangeR.cells (D ++ [dd])) := by
      rw [rows_append, rows_one, List.length_append, hdd]
      exact ho8.ext xs (fun ad h e => by have := (ho8.base ad h).1; have e : ad.block = r5 := e; omega)
     have hx9 : Ext (rg R g) w (w8.setCell ⟨r5, 5, none⟩ (.slice a8 (D.length + 1) c8)) := hx.trans xs (fun i hi h => by simp only [Esc.just] at h; omega)
     have hNs9 := Nat.le_trans hNs xs.size
     have HL := Lib.hid (show (D ++ [dd]).length = i + 1 by rw [List.length_append, HD.out]; rfl)
     have HN := Lib.hid (show pRow pRange M2 t2 = ((D ++ [dd]) ++ (pRow pRange (M2 - (i + 1)) sq1).1, (pRow pRange (M2 - (i + 1)) sq1).2) by rw [HPD.out, HPS.out, ← HDD.out, ← HSQ.out]; simp)
     clear hb h ho8 hx hA hdd xs hNs cK f8 hp
     go_wp2_with fail
     go_roundw
     case rel => exact ⟨i + 1, D ++ [dd], a8, c8, sq1, by omega, by go_num, HL.out, HN.out, h9, hb9, hNs9, hz, hb4, hownS, ho9, hx9⟩
     case measure => simp [intOf]; omega
    ·have e1 : decide (i < M2) = false := decF hiM
     have HEND := Lib.hid (show pRow pRange M2 t2 = (D, sr) by rw [HPD.out, pRow_end pRange hiM]; simp)
     clear HPD
     obtain ⟨DI, h0⟩ : ∃ v, v = D := ⟨_, rfl⟩
     subst h0
     obtain ⟨aI, h0⟩ : ∃ v, v = a1 := ⟨_, rfl⟩
     subst h0
     obtain ⟨cI, h0⟩ : ∃ v, v = c6 := ⟨_, rfl⟩
     subst h0
     have hownI := hown
     clear hown
     have hbr := hb.lt (by simp)
     go_wp2_with fail
     refine (rdInts_any2 wr g sr h.rd).mono ?_
     rintro e w3 ⟨a7, c7, rfl, hru, hfu, hr', hx', hlu, hcu⟩
     have hs3 := hx'.size
     have hsr := hx.size
     have hb := hb.ext (by simp) hx' (fun e => by have e : r5 = g := e; omega)
     have hb4 := hb4.ext (by simp) hx' (fun e => by have e : r4 = g := e; omega)
     have hz := hz.ext (by simp) hx' (fun e => by have e : q = g := e; omega)
     have hownS := hownS.ext hx' (fun ad h e => by have := (hownS.base ad h).1; have e : ad.block = g := e; omega)
     have hownI := hownI.ext hx' (fun ad h e => by have := (hownI.base ad h).1; have e : ad.block = g := e; omega)
     obtain ⟨lu, hlu0⟩ : ∃ l, l = (rInts sr).1 := ⟨_, rfl⟩
     obtain ⟨sn, hsn⟩ : ∃ l, l = (rInts sr).2 := ⟨_, rfl⟩
     rw [← hlu0] at hru hlu
     rw [← hsn] at hr'
     rw [← hlu0]
     replace h : WR w3 R g d sn x := h.step hr' hx'
     replace hx := hx.comp (Ext.rg hx')
     have HCM := Lib.hid (show wReply s0 = (⟨i1, i2, i3, i4, i5, i6, DS, DI, lu⟩, sn) by
      unfold wReply
      simp only [← HNi1.out, ← HS1.out, ← HNi2.out, ← HS2.out, ← HNi3.out, ← HS3.out, ← HNi4.out, ← HS4.out, ← HNi5.out, ← HS5.out, ← HNi6.out, ← HS6.out, HSZ1.out, HENDS.out, HSZ2.out, HEND.out, ← hlu0, ← hsn])
     clear hlu0 hsn hx' hr' HNi1 HS1 HNi2 HS2 HNi3 HS3 HNi4 HS4 HNi5 HS5 HNi6 HS6 HSZ1 HSZ2 HENDS HEND
     have cK := hb.cell 6 _ rfl
     have f8 := hb.fr 6
     go_upto_region 13 with fail
     have xs : Ext (just r5) w3 (w3.setCell ⟨r5, 6, none⟩ (.slice a7 lu.length c7)) := Ext.setCell _ _ _ rfl
     have hb : Blk (w3.setCell ⟨r5, 6, none⟩ (.slice a7 lu.length c7)) r5 [.int .i64 i3, .int .i64 i4, .int .i64 i5, .int .i64 i6, .slice aS DS.length cS, .slice aI DI.length cI, .slice a7 lu.length c7] := hb.set 6 (.slice a7 lu.length c7) (by simp)
     have hb4 := hb4.ext (by simp) xs (fun e => by have e : r4 = r5 := e; omega)
     have hz := hz.ext (by simp) xs (fun e => by have e : q = r5 := e; omega)
     have hownS := hownS.ext xs (fun ad h e => by have := (hownS.base ad h).1; have e : ad.block = r5 := e; omega)
     have hownI := hownI.ext xs (fun ad h e => by have := (hownI.base ad h).1; have e : ad.block = r5 := e; omega)
     have hru := hru.ext xs (fun ad h e => by have := hfu ad h; have e : ad.block = r5 := e; omega)
     have h := h.new xs (by omega) hdr
     replace hx : Ext (rg R g) w _ := hx.trans xs (fun i hi h => by simp only [Esc.just] at h; omega)
     clear xs cK f8
     generalize w3.setCell ⟨r5, 6, none⟩ (.slice a7 lu.length c7) = w4 at *
     have b0 := hb.cell 0 _ rfl
     have b1 := hb.cell 1 _ rfl
     have b2 := hb.cell 2 _ rfl
     have b3 := hb.cell 3 _ rfl
     have b4 := hb.cell 4 _ rfl
     have b5 := hb.cell 5 _ rfl
     have b6 := hb.cell 6 _ rfl
     have z2 := hb4.cell 2 _ rfl
     have z3 := hb4.cell 3 _ rfl
     have z4 := hb4.cell 4 _ rfl
     have z5 := hb4.cell 5 _ rfl
     have z6 := hb4.cell 6 _ rfl
     have z7 := hb4.cell 7 _ rfl
     have z8 := hb4.cell 8 _ rfl
     have f2 := hb4.fr 2
     have f3 := hb4.fr 3
     have f4 := hb4.fr 4
     have f5 := hb4.fr 5
     have f6 := hb4.fr 6
     have f7 := hb4.fr 7
     have f8 := hb4.fr 8
     go_upto_region 14 with fail
     have xs : Ext (just r4) w4 (((((((w4.setCell ⟨r4, 2, none⟩ (.int .i64 i3)).setCell ⟨r4, 3, none⟩ (.int .i64 i4)).setCell ⟨r4, 4, none⟩ (.int .i64 i5)).setCell ⟨r4, 5, none⟩ (.int .i64 i6)).setCell ⟨r4, 6, none⟩ (.slice aS DS.length cS)).setCell ⟨r4, 7, none⟩ (.slice aI DI.length cI)).setCell ⟨r4, 8, none⟩ (.slice a7 lu.length c7)) := ((((((((Ext.refl (just r4) w4).comp (Ext.setCell _ ⟨r4, 2, none⟩ (.int .i64 i3) rfl)).comp (Ext.setCell _ ⟨r4, 3, none⟩ (.int .i64 i4) rfl)).comp (Ext.setCell _ ⟨r4, 4, none⟩ (.int .i64 i5) rfl)).comp (Ext.setCell _ ⟨r4, 5, none⟩ (.int .i64 i6) rfl)).comp (Ext.setCell _ ⟨r4, 6, none⟩ (.slice aS DS.length cS) rfl)).comp (Ext.setCell _ ⟨r4, 7, none⟩ (.slice aI DI.length cI) rfl)).comp (Ext.setCell _ ⟨r4, 8, none⟩ (.slice a7 lu.length c7) rfl))
     have hb4 : Blk (((((((w4.setCell ⟨r4, 2, none⟩ (.int .i64 i3)).setCell ⟨r4, 3, none⟩ (.int .i64 i4)).setCell ⟨r4, 4, none⟩ (.int .i64 i5)).setCell ⟨r4, 5, none⟩ (.int .i64 i6)).setCell ⟨r4, 6, none⟩ (.slice aS DS.length cS)).setCell ⟨r4, 7, none⟩ (.slice aI DI.length cI)).setCell ⟨r4, 8, none⟩ (.slice a7 lu.length c7)) r4 [.int .i64 i1, .int .i64 i2, .int .i64 i3, .int .i64 i4, .int .i64 i5, .int .i64 i6, .slice aS DS.length cS, .slice aI DI.length cI, .slice a7 lu.length c7] := (((((((hb4.set 2 (.int .i64 i3) (by simp)).set 3 (.int .i64 i4) (by simp)).set 4 (.int .i64 i5) (by simp)).set 5 (.int .i64 i6) (by simp)).set 6 (.slice aS DS.length cS) (by simp)).set 7 (.slice aI DI.length cI) (by simp)).set 8 (.slice a7 lu.length c7) (by simp))
     have hz := hz.ext (by simp) xs (fun e => by have e : q = r4 := e; omega)
     have hownS := hownS.ext xs (fun ad h e => by have := (hownS.base ad h).1; have e : ad.block = r4 := e; omega)
     have hownI := hownI.ext xs (fun ad h e => by have := (hownI.base ad h).1; have e : ad.block = r4 := e; omega)
     have hru := hru.ext xs (fun ad h e => by have := hfu ad h; have e : ad.block = r4 := e; omega)
     have h := h.new xs (by omega) hd4
     replace hx : Ext (rg R g) w _ := hx.trans xs (fun i hi h => by simp only [Esc.just] at h; omega)
     generalize (((((((w4.setCell ⟨r4, 2, none⟩ (.int .i64 i3)).setCell ⟨r4, 3, none⟩ (.int .i64 i4)).setCell ⟨r4, 4, none⟩ (.int .i64 i5)).setCell ⟨r4, 5, none⟩ (.int .i64 i6)).setCell ⟨r4, 6, none⟩ (.slice aS DS.length cS)).setCell ⟨r4, 7, none⟩ (.slice aI DI.length cI)).setCell ⟨r4, 8, none⟩ (.slice a7 lu.length c7)) = w5 at *
     clear xs hb b0 b1 b2 b3 b4 b5 b6 z2 f2 z3 f3 z4 f4 z5 f5 z6 f6 z7 f7 z8 f8
     have b0 := hb4.cell 0 _ rfl
     have b1 := hb4.cell 1 _ rfl
     have b2 := hb4.cell 2 _ rfl
     have b3 := hb4.cell 3 _ rfl
     have b4 := hb4.cell 4 _ rfl
     have b5 := hb4.cell 5 _ rfl
     have b6 := hb4.cell 6 _ rfl
     have b7 := hb4.cell 7 _ rfl
     have b8 := hb4.cell 8 _ rfl
     have z0 := hz.cell 0 _ rfl
     have z1 := hz.cell 1 _ rfl
     have z2 := hz.cell 2 _ rfl
     have z3 := hz.cell 3 _ rfl
     have z4 := hz.cell 4 _ rfl
     have z5 := hz.cell 5 _ rfl
     have z6 := hz.cell 6 _ rfl
     have z7 := hz.cell 7 _ rfl
     have z8 := hz.cell 8 _ rfl
     have f0 := hz.fr 0
     have f1 := hz.fr 1
     have f2 := hz.fr 2
     have f3 := hz.fr 3
     have f4 := hz.fr 4
     have f5 := hz.fr 5
     have f6 := hz.fr 6
     have f7 := hz.fr 7
     have f8 := hz.fr 8
     have xs : Ext (just q) w5 (((((((((w5.setCell ⟨q, 0, none⟩ (.int .i64 i1)).setCell ⟨q, 1, none⟩ (.int .i64 i2)).setCell ⟨q, 2, none⟩ (.int .i64 i3)).setCell ⟨q, 3, none⟩ (.int .i64 i4)).setCell ⟨q, 4, none⟩ (.int .i64 i5)).setCell ⟨q, 5, none⟩ (.int .i64 i6)).setCell ⟨q, 6, none⟩ (.slice aS DS.length cS)).setCell ⟨q, 7, none⟩ (.slice aI DI.length cI)).setCell ⟨q, 8, none⟩ (.slice a7 lu.length c7)) := ((((((((((Ext.refl (just q) w5).comp (Ext.setCell _ ⟨q, 0, none⟩ (.int .i64 i1) rfl)).comp (Ext.setCell _ ⟨q, 1, none⟩ (.int .i64 i2) rfl)).comp (Ext.setCell _ ⟨q, 2, none⟩ (.int .i64 i3) rfl)).comp (Ext.setCell _ ⟨q, 3, none⟩ (.int .i64 i4) rfl)).comp (Ext.setCell _ ⟨q, 4, none⟩ (.int .i64 i5) rfl)).comp (Ext.setCell _ ⟨q, 5, none⟩ (.int .i64 i6) rfl)).comp (Ext.setCell _ ⟨q, 6, none⟩ (.slice aS DS.length cS) rfl)).comp (Ext.setCell _ ⟨q, 7, none⟩ (.slice aI DI.length cI) rfl)).comp (Ext.setCell _ ⟨q, 8, none⟩ (.slice a7 lu.length c7) rfl))
     have hze : Blk (((((((((w5.setCell ⟨q, 0, none⟩ (.int .i64 i1)).setCell ⟨q, 1, none⟩ (.int .i64 i2)).setCell ⟨q, 2, none⟩ (.int .i64 i3)).setCell ⟨q, 3, none⟩ (.int .i64 i4)).setCell ⟨q, 4, none⟩ (.int .i64 i5)).setCell ⟨q, 5, none⟩ (.int .i64 i6)).setCell ⟨q, 6, none⟩ (.slice aS DS.length cS)).setCell ⟨q, 7, none⟩ (.slice aI DI.length cI)).setCell ⟨q, 8, none⟩ (.slice a7 lu.length c7)) q ((⟨i1, i2, i3, i4, i5, i6, DS, DI, lu⟩ : ReplyR).cells ⟨aS, cS, aI, cI, a7, c7⟩) := (((((((((hz.set 0 (.int .i64 i1) (by simp)).set 1 (.int .i64 i2) (by simp)).set 2 (.int .i64 i3) (by simp)).set 3 (.int .i64 i4) (by simp)).set 4 (.int .i64 i5) (by simp)).set 5 (.int .i64 i6) (by simp)).set 6 (.slice aS DS.length cS) (by simp)).set 7 (.slice aI DI.length cI) (by simp)).set 8 (.slice a7 lu.length c7) (by simp))
     have hownS := hownS.ext xs (fun ad h e => by have := (hownS.base ad h).1; have e : ad.block = q := e; omega)
     have hownI := hownI.ext xs (fun ad h e => by have := (hownI.base ad h).1; have e : ad.block = q := e; omega)
     have hru := hru.ext xs (fun ad h e => by have := hfu ad h; have e : ad.block = q := e; omega)
     have hxe : Ext (rg R g) w (((((((((w5.setCell ⟨q, 0, none⟩ (.int .i64 i1)).setCell ⟨q, 1, none⟩ (.int .i64 i2)).setCell ⟨q, 2, none⟩ (.int .i64 i3)).setCell ⟨q, 3, none⟩ (.int .i64 i4)).setCell ⟨q, 4, none⟩ (.int .i64 i5)).setCell ⟨q, 5, none⟩ (.int .i64 i6)).setCell ⟨q, 6, none⟩ (.slice aS DS.length cS)).setCell ⟨q, 7, none⟩ (.slice aI DI.length cI)).setCell ⟨q, 8, none⟩ (.slice a7 lu.length c7)) := hx.trans xs (fun i hi h => by simp only [Esc.just] at h; omega)
     have h := h.new xs (by omega) hdq
     have hs5 := xs.size
     go_wp2_with fail
     generalize (((((((((w5.setCell ⟨q, 0, none⟩ (.int .i64 i1)).setCell ⟨q, 1, none⟩ (.int .i64 i2)).setCell ⟨q, 2, none⟩ (.int .i64 i3)).setCell ⟨q, 3, none⟩ (.int .i64 i4)).setCell ⟨q, 4, none⟩ (.int .i64 i5)).setCell ⟨q, 5, none⟩ (.int .i64 i6)).setCell ⟨q, 6, none⟩ (.slice aS DS.length cS)).setCell ⟨q, 7, none⟩ (.slice aI DI.length cI)).setCell ⟨q, 8, none⟩ (.slice a7 lu.length c7)) = wz at *
     refine bodyPost_ret (v := (⟨i1, i2, i3, i4, i5, i6, DS, DI, lu⟩ : ReplyR).val ⟨aS, cS, aI, cI, a7, c7⟩) ?_ rfl ⟨⟨aS, cS, aI, cI, a7, c7⟩, by rw [HCM.out], ?_, by rw [HCM.out]; exact h, hxe⟩
     ·exact reply_result rfl _ _ (by rfl) hze
     ·rw [HCM.out]
      intro S wy hy hS
      have hruy : Rd wy a7 (is lu) := by
       by_cases hn : is lu = []
       ·rw [hn]; exact Rd.nil _ _
       ·refine hru.ext hy (fun ad ha hs => ?_)
        obtain ⟨ad', ha', hlt⟩ := hru.ne (List.length_pos_iff.2 hn)
        rw [ha] at ha'
        cases ha'
        have := hfu ad ha
        have := hS _ hs
        omega
      exact ⟨own_keep hownS (by omega) hy hS, own_keep hownI (by omega) hy hS, hruy, hownS.nc, hownI.nc, hlu, hownS.cm, hownI.cm, hcu⟩
end Go.Proofs.YtddobhihjljcgaaGreat
/- The reader of wire: a message's body. -/
namespace Go.Proofs.YtddobhihjljcgaaGreat
open Go.RowKit Go.Esc
set_option linter.unusedVariables false
set_option linter.unusedSimpArgs false
theorem TBools : SlT Tryz.prog 22 4 (.bool false) 1 1 := ⟨Tryz.underlying22, by kernel_rfl, rfl, by decide⟩
/-- A message of which only the kind is known. -/
def kindM (k : Int) : MsgR := { MsgR.zero with kind := k }
/-- What is wrong with a message's operations. -/
def msgErr2 (x : Int) (m : MsgR) : Int := opsErr2 (opsErr2 x m.cmd.ops) m.ops
def BodyEnd (w : World) (R g : Nat) (d : Option Nat) (s : RS) (x k : Int) (e : Ending) (w' : World) : Prop :=
 ∃ a : MsgA, e = .returned ((wBody k s).1.val a) ∧ Kept w w' (fun wz => (wBody k s).1.In wz a) ∧ WR w' R g d (wBody k s).2 (msgErr2 x (wBody k s).1) ∧ Ext (rg R g) w w'
set_option maxRecDepth 100000 in
set_option maxHeartbeats 8000000 in
theorem rbody_5 (w : World) (R g : Nat) {d : Option Nat} (s0 : RS) (x : Int) (h : WR w R g d s0 x) :
  Calls Tryz.prog 30 #[.pointer (some ⟨R, 0, none⟩), (kindM 5).val MsgA.zero] w (BodyEnd w R g d s0 x 5) := by
 have hRw := h.lt
 have hgw := h.glt
 have hdw := h.dlt
 have hRg := h.ne
 go_enter Tryz.func30, Tryz.ntmps30
 have mk := mkFunc
 go_upto_region 0 with fail
 refine wp_region_lit ?_
 refine wp_box_msg (m := kindM 5) (h := MsgA.zero) rfl rfl (by rfl) (fun hC => ?_)
 simp only [pz]
 have hxa := Ext.alloc no w (.cells ((kindM 5).cells MsgA.zero).toArray 36)
 obtain ⟨gm, h0⟩ : ∃ v, v = w.heap.size := ⟨_, rfl⟩
 rw [← h0] at hC ⊢
 have hwm : w.heap.size ≤ gm := by omega
 clear h0
 generalize w.alloc (.cells ((kindM 5).cells MsgA.zero).toArray 36) = w1 at *
 refine wp_alloc_msg rfl rfl (fun hZ => ?_)
 simp only [pz]
 have hxb := Ext.alloc no w1 (.cells (MsgR.zero.cells MsgA.zero).toArray 36)
 have hml := hC.lt (msg_ne _ _)
 have hC := hC.ext (msg_ne _ _) hxb (fun h => h)
 obtain ⟨gz, h0⟩ : ∃ v, v = w1.heap.size := ⟨_, rfl⟩
 rw [← h0] at hZ hml ⊢
 clear h0
 have h := (h.no hxa).no hxb
 have hx : Ext (rg R g) w _ := (hxa.comp hxb).mono (fun _ _ e => e.elim)
 clear hxa hxb
 generalize w1.alloc (.cells (MsgR.zero.cells MsgA.zero).toArray 36) = v0 at *
 have hdm : ∀ i, d = some i → i ≠ gm := fun i hi => by have := hdw i hi; omega
 have hdz : ∀ i, d = some i → i ≠ gz := fun i hi => by have := hdw i hi; omega
 have hp := h.p
 go_wp2_with fail
 refine (rdInt_any v0 g s0 h.rd).mono ?_
 rintro e v1 ⟨rfl, hr', hx'⟩
 have hC := hC.ext (msg_ne _ _) hx' (by simp only [Esc.just]; omega)
 have hZ := hZ.ext (msg_ne _ _) hx' (by simp only [Esc.just]; omega)
 obtain ⟨i1, hn⟩ : ∃ n, n = (rInt s0).1 := ⟨_, rfl⟩
 obtain ⟨s1, hs''⟩ : ∃ q, q = (rInt s0).2 := ⟨_, rfl⟩
 rw [← hs''] at hr'
 rw [← hn]
 have HNi1 := Lib.hid hn
 have HS1 := Lib.hid hs''
 replace h : WR v1 R g d s1 x := h.step hr' hx'
 replace hx := hx.comp (Ext.rg hx')
 clear hn hs'' hr' hx' hp
 have hp := h.p
 have e1 := hC.cell 1 _ rfl
 have f1 := hC.fr 1
 go_upto_region 3 with fail
 have xs : Ext (just gm) v1 (v1.setCell ⟨gm, 1, none⟩ (.int .i64 i1)) := Ext.setCell _ _ _ rfl
 have hC := hC.put 1 (.int .i64 i1) (by show 1 < 25; omega) (ds := ({ kindM 5 with dev := i1 } : MsgR).cells MsgA.zero) rfl
 have hZ := hZ.ext (msg_ne _ _) xs (fun e => by have e : gz = gm := e; omega)
 have h := h.new xs (by omega) hdm
 replace hx : Ext (rg R g) w _ := hx.trans xs (fun i hi e => by have e : i = gm := e; omega)
 clear xs
 generalize v1.setCell ⟨gm, 1, none⟩ (.int .i64 i1) = u1 at *
 have e0 : u1.cell? ⟨gm, 0, none⟩ = some (.int .i64 5) := hC.cell 0 _ rfl
 go_wp2_with fail
 refine (rdInt_any u1 g s1 h.rd).mono ?_
 rintro e v2 ⟨rfl, hr', hx'⟩
 have hC := hC.ext (msg_ne _ _) hx' (by simp only [Esc.just]; omega)
 have hZ := hZ.ext (msg_ne _ _) hx' (by simp only [Esc.just]; omega)
 obtain ⟨i2, hn⟩ : ∃ n, n = (rInt s1).1 := ⟨_, rfl⟩
 obtain ⟨s2, hs''⟩ : ∃ q, q = (rInt s1).2 := ⟨_, rfl⟩
 rw [← hs''] at hr'
 rw [← hn]
 have HNi2 := Lib.hid hn
 have HS2 := Lib.hid hs''
 replace h : WR v2 R g d s2 x := h.step hr' hx'
 replace hx := hx.comp (Ext.rg hx')
 clear hn hs'' hr' hx' hp
 have hp := h.p
 go_wp2_with fail
 refine (rerr_any v2 R g s2 x h).mono ?_
 rintro e v3 ⟨rfl, hr', hx'⟩
 have hC := hC.ext (msg_ne _ _) hx' (by simp only [Esc.just]; omega)
 have hZ := hZ.ext (msg_ne _ _) hx' (by simp only [Esc.just]; omega)
 obtain ⟨i3, hn⟩ : ∃ n, n = (pErr s2).1 := ⟨_, rfl⟩
 obtain ⟨s3, hs''⟩ : ∃ q, q = (pErr s2).2 := ⟨_, rfl⟩
 rw [← hs''] at hr'
 rw [← hn]
 have HNi3 := Lib.hid hn
 have HS3 := Lib.hid hs''
 replace h := hr'
 replace hx := hx.comp (Ext.rg hx')
 clear hn hs'' hr' hx' hp
 have hp := h.p
 have e2 := hC.cell 2 _ rfl
 have f2 := hC.fr 2
 have e7 := hC.cell 7 _ rfl
 have f7 := hC.fr 7
 go_upto_region 23 with fail
 have xs : Ext (just gm) v3 ((v3.setCell ⟨gm, 2, none⟩ (.int .i64 i2)).setCell ⟨gm, 7, none⟩ (.int .i64 i3)) := (Ext.at v3 gm 2 _).comp (Ext.at _ gm 7 _)
 have hC := (hC.put 2 (.int .i64 i2) (by show 2 < 25; omega) (ds := ({ kindM 5 with dev := i1, req := i2 } : MsgR).cells MsgA.zero) rfl).put 7 (.int .i64 i3) (by show 7 < 25; omega) (ds := ({ kindM 5 with dev := i1, req := i2, err := i3 } : MsgR).cells MsgA.zero) rfl
 have hZ := hZ.ext (msg_ne _ _) xs (fun e => by have e : gz = gm := e; omega)
 have h := h.new xs (by omega) hdm
 replace hx : Ext (rg R g) w _ := hx.trans xs (fun i hi e => by have e : i = gm := e; omega)
 clear xs e2 f2 e7 f7
 generalize (v3.setCell ⟨gm, 2, none⟩ (.int .i64 i2)).setCell ⟨gm, 7, none⟩ (.int .i64 i3) = u3 at *
 obtain ⟨M, hM⟩ : ∃ M : MsgR, M = { kindM 5 with dev := i1, req := i2, err := i3 } := ⟨_, rfl⟩
 rw [← hM] at hC
 have HB := Lib.hid (show wBody 5 s0 = (M, s3) by
  rw [hM]
  unfold wBody
  simp only [← HNi1.out, ← HS1.out, ← HNi2.out, ← HS2.out, ← HNi3.out, ← HS3.out]
  rfl)
 have HM := Lib.hid hM
 clear hM
 go_upto_region 23 with fail
 refine wp_region_lit ?_
 refine wp_load_msg (m := M) (h := MsgA.zero) rfl rfl (by rfl) hC ?_
 simp only [pz]
 refine wp_store_msg (m := M) (h := MsgA.zero) rfl rfl (by rfl) (by rfl) hZ rfl (fun hF hxF => ?_)
 simp only [pz]
 have h := h.new hxF (by omega) hdz
 replace hx : Ext (rg R g) w _ := hx.trans hxF (fun i hi e => by have e : i = gz := e; omega)
 generalize u3.setCells gz 0 (MsgR.cells M MsgA.zero) = wz at *
 go_wp2_with fail
 refine bodyPost_ret (v := MsgR.val M MsgA.zero) ?_ rfl ⟨MsgA.zero, by rw [HB.out], ?_, ?_, hx⟩
 ·exact msg_result rfl _ _ (by rfl) hF
 ·rw [HB.out]
  intro S wy hy hS
  rw [HM.out]
  exact ⟨Rd.nil _ _, CmdR.In.zero _, ReplyR.In.zero _, OpsIn.nil _ _, Nat.le_refl _, Nat.zero_le _, Nat.le_refl _, Nat.zero_le _⟩
 ·rw [HB.out, HM.out]; exact h
set_option maxRecDepth 100000 in
set_option maxHeartbeats 8000000 in
theorem rbody_4 (w : World) (R g : Nat) {d : Option Nat} (s0 : RS) (x : Int) (h : WR w R g d s0 x) :
  Calls Tryz.prog 30 #[.pointer (some ⟨R, 0, none⟩), (kindM 4).val MsgA.zero] w (BodyEnd w R g d s0 x 4) := by
 have hRw := h.lt
 have hgw := h.glt
 have hdw := h.dlt
 have hRg := h.ne
 go_enter Tryz.func30, Tryz.ntmps30
 have mk := mkFunc
 go_upto_region 0 with fail
 refine wp_region_lit ?_
 refine wp_box_msg (m := kindM 4) (h := MsgA.zero) rfl rfl (by rfl) (fun hC => ?_)
 simp only [pz]
 have hxa := Ext.alloc no w (.cells ((kindM 4).cells MsgA.zero).toArray 36)
 obtain ⟨gm, h0⟩ : ∃ v, v = w.heap.size := ⟨_, rfl⟩
 rw [← h0] at hC ⊢
 have hwm : w.heap.size ≤ gm := by omega
 clear h0
 generalize w.alloc (.cells ((kindM 4).cells MsgA.zero).toArray 36) = w1 at *
 refine wp_alloc_msg rfl rfl (fun hZ => ?_)
 simp only [pz]
 have hxb := Ext.alloc no w1 (.cells (MsgR.zero.cells MsgA.zero).toArray 36)
 have hml := hC.lt (msg_ne _ _)
 have hC := hC.ext (msg_ne _ _) hxb (fun h => h)
 obtain ⟨gz, h0⟩ : ∃ v, v = w1.heap.size := ⟨_, rfl⟩
 rw [← h0] at hZ hml ⊢
 clear h0
 have h := (h.no hxa).no hxb
 have hx : Ext (rg R g) w _ := (hxa.comp hxb).mono (fun _ _ e => e.elim)
 clear hxa hxb
 generalize w1.alloc (.cells (MsgR.zero.cells MsgA.zero).toArray 36) = v0 at *
 have hdm : ∀ i, d = some i → i ≠ gm := fun i hi => by have := hdw i hi; omega
 have hdz : ∀ i, d = some i → i ≠ gz := fun i hi => by have := hdw i hi; omega
 have hp := h.p
 go_wp2_with fail
 refine (rdInt_any v0 g s0 h.rd).mono ?_
 rintro e v1 ⟨rfl, hr', hx'⟩
 have hC := hC.ext (msg_ne _ _) hx' (by simp only [Esc.just]; omega)
 have hZ := hZ.ext (msg_ne _ _) hx' (by simp only [Esc.just]; omega)
 obtain ⟨i1, hn⟩ : ∃ n, n = (rInt s0).1 := ⟨_, rfl⟩
 obtain ⟨s1, hs''⟩ : ∃ q, q = (rInt s0).2 := ⟨_, rfl⟩
 rw [← hs''] at hr'
 rw [← hn]
 have HNi1 := Lib.hid hn
 have HS1 := Lib.hid hs''
 replace h : WR v1 R g d s1 x := h.step hr' hx'
 replace hx := hx.comp (Ext.rg hx')
 clear hn hs'' hr' hx' hp
 have hp := h.p
 have e1 := hC.cell 1 _ rfl
 have f1 := hC.fr 1
 go_upto_region 3 with fail
 have xs : Ext (just gm) v1 (v1.setCell ⟨gm, 1, none⟩ (.int .i64 i1)) := Ext.setCell _ _ _ rfl
 have hC := hC.put 1 (.int .i64 i1) (by show 1 < 25; omega) (ds := ({ kindM 4 with dev := i1 } : MsgR).cells MsgA.zero) rfl
 have hZ := hZ.ext (msg_ne _ _) xs (fun e => by have e : gz = gm := e; omega)
 have h := h.new xs (by omega) hdm
 replace hx : Ext (rg R g) w _ := hx.trans xs (fun i hi e => by have e : i = gm := e; omega)
 clear xs
 generalize v1.setCell ⟨gm, 1, none⟩ (.int .i64 i1) = u1 at *
 have e0 : u1.cell? ⟨gm, 0, none⟩ = some (.int .i64 4) := hC.cell 0 _ rfl
 go_wp2_with fail
 refine (rdInt_any u1 g s1 h.rd).mono ?_
 rintro e v2 ⟨rfl, hr', hx'⟩
 have hC := hC.ext (msg_ne _ _) hx' (by simp only [Esc.just]; omega)
 have hZ := hZ.ext (msg_ne _ _) hx' (by simp only [Esc.just]; omega)
 obtain ⟨i2, hn⟩ : ∃ n, n = (rInt s1).1 := ⟨_, rfl⟩
 obtain ⟨s2, hs''⟩ : ∃ q, q = (rInt s1).2 := ⟨_, rfl⟩
 rw [← hs''] at hr'
 rw [← hn]
 have HNi2 := Lib.hid hn
 have HS2 := Lib.hid hs''
 replace h : WR v2 R g d s2 x := h.step hr' hx'
 replace hx := hx.comp (Ext.rg hx')
 clear hn hs'' hr' hx' hp
 have hp := h.p
 go_wp2_with fail
 refine (rdInt_any v2 g s2 h.rd).mono ?_
 rintro e v3 ⟨rfl, hr', hx'⟩
 have hC := hC.ext (msg_ne _ _) hx' (by simp only [Esc.just]; omega)
 have hZ := hZ.ext (msg_ne _ _) hx' (by simp only [Esc.just]; omega)
 obtain ⟨i3, hn⟩ : ∃ n, n = (rInt s2).1 := ⟨_, rfl⟩
 obtain ⟨s3, hs''⟩ : ∃ q, q = (rInt s2).2 := ⟨_, rfl⟩
 rw [← hs''] at hr'
 rw [← hn]
 have HNi3 := Lib.hid hn
 have HS3 := Lib.hid hs''
 replace h : WR v3 R g d s3 x := h.step hr' hx'
 replace hx := hx.comp (Ext.rg hx')
 clear hn hs'' hr' hx' hp
 have hp := h.p
 have e2 := hC.cell 4 _ rfl
 have f2 := hC.fr 4
 have e7 := hC.cell 5 _ rfl
 have f7 := hC.fr 5
 go_upto_region 20 with fail
 have xs : Ext (just gm) v3 ((v3.setCell ⟨gm, 4, none⟩ (.int .i64 i2)).setCell ⟨gm, 5, none⟩ (.int .i64 i3)) := (Ext.at v3 gm 4 _).comp (Ext.at _ gm 5 _)
 have hC := (hC.put 4 (.int .i64 i2) (by show 4 < 25; omega) (ds := ({ kindM 4 with dev := i1, pos := i2 } : MsgR).cells MsgA.zero) rfl).put 5 (.int .i64 i3) (by show 5 < 25; omega) (ds := ({ kindM 4 with dev := i1, pos := i2, nxt := i3 } : MsgR).cells MsgA.zero) rfl
 have hZ := hZ.ext (msg_ne _ _) xs (fun e => by have e : gz = gm := e; omega)
 have h := h.new xs (by omega) hdm
 replace hx : Ext (rg R g) w _ := hx.trans xs (fun i hi e => by have e : i = gm := e; omega)
 clear xs e2 f2 e7 f7
 generalize (v3.setCell ⟨gm, 4, none⟩ (.int .i64 i2)).setCell ⟨gm, 5, none⟩ (.int .i64 i3) = u3 at *
 have hzl := hZ.lt (msg_ne _ _)
 have hxl := hx.size
 go_wp2_with fail
 refine (rops_any u3 R g s3 x h).mono ?_
 rintro e v4 ⟨a4, c4, G, rfl, hGm, hacc, h', hx'⟩
 have hC := hC.ext (msg_ne _ _) hx' (fun e => by rcases e with e | e <;> omega)
 have hZ := hZ.ext (msg_ne _ _) hx' (fun e => by rcases e with e | e <;> omega)
 replace hx := hx.comp hx'
 obtain ⟨lo, hlo⟩ : ∃ l, l = (wOps s3).1 := ⟨_, rfl⟩
 obtain ⟨s4, hs4⟩ : ∃ l, l = (wOps s3).2 := ⟨_, rfl⟩
 rw [← hlo] at hGm
 rw [← hlo, ← hs4] at h'
 rw [← hlo]
 obtain ⟨M, hM⟩ : ∃ M : MsgR, M = { kindM 4 with dev := i1, pos := i2, nxt := i3, ops := lo } := ⟨_, rfl⟩
 have HB := Lib.hid (show wBody 4 s0 = (M, s4) by
  rw [hM]
  unfold wBody
  simp only [← HNi1.out, ← HS1.out, ← HNi2.out, ← HS2.out, ← HNi3.out, ← HS3.out, ← hlo, ← hs4]
  rfl)
 clear hlo hs4 h hp hx'
 have h := h'
 clear h'
 have e2 := hC.cell 24 _ rfl
 have f2 := hC.fr 24
 go_upto_region 23 with fail
 have hC := hC.put 24 (.slice a4 lo.length c4) (by show 24 < 25; omega) (ds := ({ kindM 4 with dev := i1, pos := i2, nxt := i3, ops := lo } : MsgR).cells { MsgA.zero with o := a4, oc := c4 }) rfl
 rw [← hM] at hC
 have xs : Ext (just gm) v4 (v4.setCell ⟨gm, 24, none⟩ (.slice a4 lo.length c4)) := Ext.setCell _ _ _ rfl
 have hZ := hZ.ext (msg_ne _ _) xs (fun e => by have e : gz = gm := e; omega)
 have h := h.new xs (by omega) hdm
 replace hx : Ext (rg R g) w _ := hx.trans xs (fun i hi e => by have e : i = gm := e; omega)
 have hacc := hacc.low xs (fun k e => by have e : k = gm := e; omega)
 clear xs e2 f2
 generalize v4.setCell ⟨gm, 24, none⟩ (.slice a4 lo.length c4) = u4 at *
 have HM := Lib.hid hM
 clear hM
 go_upto_region 23 with fail
 refine wp_region_lit ?_
 refine wp_load_msg (m := M) (h := { MsgA.zero with o := a4, oc := c4 }) rfl rfl (by rfl) hC ?_
 simp only [pz]
 refine wp_store_msg (m := M) (h := { MsgA.zero with o := a4, oc := c4 }) rfl rfl (by rfl) (by rfl) hZ rfl (fun hF hxF => ?_)
 simp only [pz]
 have h := h.new hxF (by omega) hdz
 replace hx : Ext (rg R g) w _ := hx.trans hxF (fun i hi e => by have e : i = gz := e; omega)
 have hacc := hacc.low hxF (fun k e => by have e : k = gz := e; omega)
 generalize u4.setCells gz 0 (MsgR.cells M { MsgA.zero with o := a4, oc := c4 }) = wz at *
 go_wp2_with fail
 refine bodyPost_ret (v := MsgR.val M { MsgA.zero with o := a4, oc := c4 }) ?_ rfl ⟨{ MsgA.zero with o := a4, oc := c4 }, by rw [HB.out], ?_, ?_, hx⟩
 ·exact msg_result rfl _ _ (by rfl) hF
 ·rw [HB.out]
  intro S wy hy hS
  have hacc2 := hacc.keep hy (fun k hk => by have := hS k hk; omega)
  have hin := hacc2.in
  rw [hGm] at hin
  rw [HM.out]
  exact ⟨Rd.nil _ _, CmdR.In.zero _, ReplyR.In.zero _, hin, Nat.le_refl _, Nat.zero_le _, by have := hacc2.own.nc; show lo.length ≤ c4; rw [← hGm, List.length_map]; exact this, hacc2.own.cm⟩
 ·rw [HB.out, HM.out]; exact h
set_option maxRecDepth 100000 in
set_option maxHeartbeats 8000000 in
theorem rbody_1 (w : World) (R g : Nat) {d : Option Nat} (s0 : RS) (x : Int) (h : WR w R g d s0 x) :
  Calls Tryz.prog 30 #[.pointer (some ⟨R, 0, none⟩), (kindM 1).val MsgA.zero] w (BodyEnd w R g d s0 x 1) := by
 have hRw := h.lt
 have hgw := h.glt
 have hdw := h.dlt
 have hRg := h.ne
 go_enter Tryz.func30, Tryz.ntmps30
 have mk := mkFunc
 go_upto_region 0 with fail
 refine wp_region_lit ?_
 refine wp_box_msg (m := kindM 1) (h := MsgA.zero) rfl rfl (by rfl) (fun hC => ?_)
 simp only [pz]
 have hxa := Ext.alloc no w (.cells ((kindM 1).cells MsgA.zero).toArray 36)
 obtain ⟨gm, h0⟩ : ∃ v, v = w.heap.size := ⟨_, rfl⟩
 rw [← h0] at hC ⊢
 have hwm : w.heap.size ≤ gm := by omega
 clear h0
 generalize w.alloc (.cells ((kindM 1).cells MsgA.zero).toArray 36) = w1 at *
 refine wp_alloc_msg rfl rfl (fun hZ => ?_)
 simp only [pz]
 have hxb := Ext.alloc no w1 (.cells (MsgR.zero.cells MsgA.zero).toArray 36)
 have hml := hC.lt (msg_ne _ _)
 have hC := hC.ext (msg_ne _ _) hxb (fun h => h)
 obtain ⟨gz, h0⟩ : ∃ v, v = w1.heap.size := ⟨_, rfl⟩
 rw [← h0] at hZ hml ⊢
 clear h0
 have h := (h.no hxa).no hxb
 have hx : Ext (rg R g) w _ := (hxa.comp hxb).mono (fun _ _ e => e.elim)
 clear hxa hxb
 generalize w1.alloc (.cells (MsgR.zero.cells MsgA.zero).toArray 36) = v0 at *
 have hdm : ∀ i, d = some i → i ≠ gm := fun i hi => by have := hdw i hi; omega
 have hdz : ∀ i, d = some i → i ≠ gz := fun i hi => by have := hdw i hi; omega
 have hp := h.p
 go_wp2_with fail
 refine (rdInt_any v0 g s0 h.rd).mono ?_
 rintro e v1 ⟨rfl, hr', hx'⟩
 have hC := hC.ext (msg_ne _ _) hx' (by simp only [Esc.just]; omega)
 have hZ := hZ.ext (msg_ne _ _) hx' (by simp only [Esc.just]; omega)
 obtain ⟨i1, hn⟩ : ∃ n, n = (rInt s0).1 := ⟨_, rfl⟩
 obtain ⟨s1, hs''⟩ : ∃ q, q = (rInt s0).2 := ⟨_, rfl⟩
 rw [← hs''] at hr'
 rw [← hn]
 have HNi1 := Lib.hid hn
 have HS1 := Lib.hid hs''
 replace h : WR v1 R g d s1 x := h.step hr' hx'
 replace hx := hx.comp (Ext.rg hx')
 clear hn hs'' hr' hx' hp
 have hp := h.p
 have e1 := hC.cell 1 _ rfl
 have f1 := hC.fr 1
 go_upto_region 3 with fail
 have xs : Ext (just gm) v1 (v1.setCell ⟨gm, 1, none⟩ (.int .i64 i1)) := Ext.setCell _ _ _ rfl
 have hC := hC.put 1 (.int .i64 i1) (by show 1 < 25; omega) (ds := ({ kindM 1 with dev := i1 } : MsgR).cells MsgA.zero) rfl
 have hZ := hZ.ext (msg_ne _ _) xs (fun e => by have e : gz = gm := e; omega)
 have h := h.new xs (by omega) hdm
 replace hx : Ext (rg R g) w _ := hx.trans xs (fun i hi e => by have e : i = gm := e; omega)
 clear xs
 generalize v1.setCell ⟨gm, 1, none⟩ (.int .i64 i1) = u1 at *
 have e0 : u1.cell? ⟨gm, 0, none⟩ = some (.int .i64 1) := hC.cell 0 _ rfl
 have hzl := hZ.lt (msg_ne _ _)
 have hxl := hx.size
 go_wp2_with fail
 refine (rcmd_any u1 R g s1 x h).mono ?_
 rintro e v2 ⟨kc, rfl, hK, h', hx'⟩
 have hC := hC.ext (msg_ne _ _) hx' (fun e => by rcases e with e | e <;> omega)
 have hZ := hZ.ext (msg_ne _ _) hx' (fun e => by rcases e with e | e <;> omega)
 replace hx := hx.comp hx'
 have hs1 := hx'.size
 obtain ⟨cm, hcm⟩ : ∃ l, l = (wCmd s1).1 := ⟨_, rfl⟩
 obtain ⟨s2, hs2⟩ : ∃ l, l = (wCmd s1).2 := ⟨_, rfl⟩
 rw [← hcm] at hK
 rw [← hcm, ← hs2] at h'
 rw [← hcm]
 obtain ⟨M, hM⟩ : ∃ M : MsgR, M = { kindM 1 with dev := i1, cmd := cm } := ⟨_, rfl⟩
 have HB := Lib.hid (show wBody 1 s0 = (M, s2) by
  rw [hM]
  unfold wBody
  simp only [← HNi1.out, ← HS1.out, ← hcm, ← hs2]
  rfl)
 clear hcm hs2 h hp hx'
 have h := h'
 clear h'
 unfold CmdR.val
 have hgl : gm < u1.heap.size ∧ gz < u1.heap.size := ⟨by omega, by omega⟩
 have e8 := hC.cell 8 _ rfl
 have e9 := hC.cell 9 _ rfl
 have e10 := hC.cell 10 _ rfl
 have e11 := hC.cell 11 _ rfl
 have e12 := hC.cell 12 _ rfl
 have e13 := hC.cell 13 _ rfl
 have e14 := hC.cell 14 _ rfl
 have f8 := hC.fr 8
 have f9 := hC.fr 9
 have f10 := hC.fr 10
 have f11 := hC.fr 11
 have f12 := hC.fr 12
 have f13 := hC.fr 13
 have f14 := hC.fr 14
 go_upto_region 23 with fail
 have xs : Ext (just gm) v2 (((((((v2.setCell ⟨gm, 8, none⟩ (.int .i64 cm.kind)).setCell ⟨gm, 9, none⟩ (.int .i64 cm.dev)).setCell ⟨gm, 10, none⟩ (.int .i64 cm.ep)).setCell ⟨gm, 11, none⟩ (.int .i64 cm.req)).setCell ⟨gm, 12, none⟩ (.int .i64 cm.n)).setCell ⟨gm, 13, none⟩ (.slice kc.w cm.wants.length kc.wc)).setCell ⟨gm, 14, none⟩ (.slice kc.o cm.ops.length kc.oc)) := ((((((((Ext.refl (just gm) v2).comp (Ext.at _ gm 8 (.int .i64 cm.kind))).comp (Ext.at _ gm 9 (.int .i64 cm.dev))).comp (Ext.at _ gm 10 (.int .i64 cm.ep))).comp (Ext.at _ gm 11 (.int .i64 cm.req))).comp (Ext.at _ gm 12 (.int .i64 cm.n))).comp (Ext.at _ gm 13 (.slice kc.w cm.wants.length kc.wc))).comp (Ext.at _ gm 14 (.slice kc.o cm.ops.length kc.oc)))
 have hq := (((((((hC.set 8 (.int .i64 cm.kind) (by show 8 < 25; omega)).set 9 (.int .i64 cm.dev) (by show 9 < 25; omega)).set 10 (.int .i64 cm.ep) (by show 10 < 25; omega)).set 11 (.int .i64 cm.req) (by show 11 < 25; omega)).set 12 (.int .i64 cm.n) (by show 12 < 25; omega)).set 13 (.slice kc.w cm.wants.length kc.wc) (by show 13 < 25; omega)).set 14 (.slice kc.o cm.ops.length kc.oc) (by show 14 < 25; omega))
 have hC : Blk (((((((v2.setCell ⟨gm, 8, none⟩ (.int .i64 cm.kind)).setCell ⟨gm, 9, none⟩ (.int .i64 cm.dev)).setCell ⟨gm, 10, none⟩ (.int .i64 cm.ep)).setCell ⟨gm, 11, none⟩ (.int .i64 cm.req)).setCell ⟨gm, 12, none⟩ (.int .i64 cm.n)).setCell ⟨gm, 13, none⟩ (.slice kc.w cm.wants.length kc.wc)).setCell ⟨gm, 14, none⟩ (.slice kc.o cm.ops.length kc.oc)) gm (({ kindM 1 with dev := i1, cmd := cm } : MsgR).cells { MsgA.zero with c := kc }) := hq
 clear hq e8 f8 e9 f9 e10 f10 e11 f11 e12 f12 e13 f13 e14 f14
 have hZ := hZ.ext (msg_ne _ _) xs (fun e => by have e : gz = gm := e; omega)
 have h := h.new xs (by omega) hdm
 replace hx : Ext (rg R g) w _ := hx.trans xs (fun i hi e => by have e : i = gm := e; omega)
 have hX2 : Ext (fun k => k = gm ∨ k = gz) v2 _ := xs.mono (fun _ _ e => .inl e)
 clear xs
 generalize (((((((v2.setCell ⟨gm, 8, none⟩ (.int .i64 cm.kind)).setCell ⟨gm, 9, none⟩ (.int .i64 cm.dev)).setCell ⟨gm, 10, none⟩ (.int .i64 cm.ep)).setCell ⟨gm, 11, none⟩ (.int .i64 cm.req)).setCell ⟨gm, 12, none⟩ (.int .i64 cm.n)).setCell ⟨gm, 13, none⟩ (.slice kc.w cm.wants.length kc.wc)).setCell ⟨gm, 14, none⟩ (.slice kc.o cm.ops.length kc.oc)) = u2 at *
 rw [← hM] at hC
 have HM := Lib.hid hM
 clear hM
 go_upto_region 23 with fail
 refine wp_region_lit ?_
 refine wp_load_msg (m := M) (h := { MsgA.zero with c := kc }) rfl rfl (by rfl) hC ?_
 simp only [pz]
 refine wp_store_msg (m := M) (h := { MsgA.zero with c := kc }) rfl rfl (by rfl) (by rfl) hZ rfl (fun hF hxF => ?_)
 simp only [pz]
 have h := h.new hxF (by omega) hdz
 replace hx : Ext (rg R g) w _ := hx.trans hxF (fun i hi e => by have e : i = gz := e; omega)
 have hX3 := hX2.comp (hxF.mono (fun _ _ e => .inr e))
 have hs3 := hX3.size
 generalize u2.setCells gz 0 (MsgR.cells M { MsgA.zero with c := kc }) = wz at *
 go_wp2_with fail
 refine bodyPost_ret (v := MsgR.val M { MsgA.zero with c := kc }) ?_ rfl ⟨{ MsgA.zero with c := kc }, by rw [HB.out], ?_, ?_, hx⟩
 ·exact msg_result rfl _ _ (by rfl) hF
 ·rw [HB.out]
  intro S wy hy hS
  rw [HM.out]
  have hci := hK (fun k => S k ∨ k = gm ∨ k = gz) wy ((hX3.mono (fun k _ e => .inr e)).comp (hy.mono (fun k _ e => .inl e))) (fun k hk => hk.elim (fun e => by have := hS k e; omega) (fun e => by rcases e with e | e <;> omega))
  exact ⟨Rd.nil _ _, hci, ReplyR.In.zero _, OpsIn.nil _ _, Nat.le_refl _, Nat.zero_le _, Nat.le_refl _, Nat.zero_le _⟩
 ·rw [HB.out, HM.out]; exact h
set_option maxRecDepth 100000 in
set_option maxHeartbeats 8000000 in
theorem rbody_2 (w : World) (R g : Nat) {d : Option Nat} (s0 : RS) (x : Int) (h : WR w R g d s0 x) :
  Calls Tryz.prog 30 #[.pointer (some ⟨R, 0, none⟩), (kindM 2).val MsgA.zero] w (BodyEnd w R g d s0 x 2) := by
 have hRw := h.lt
 have hgw := h.glt
 have hdw := h.dlt
 have hRg := h.ne
 go_enter Tryz.func30, Tryz.ntmps30
 have mk := mkFunc
 go_upto_region 0 with fail
 refine wp_region_lit ?_
 refine wp_box_msg (m := kindM 2) (h := MsgA.zero) rfl rfl (by rfl) (fun hC => ?_)
 simp only [pz]
 have hxa := Ext.alloc no w (.cells ((kindM 2).cells MsgA.zero).toArray 36)
 obtain ⟨gm, h0⟩ : ∃ v, v = w.heap.size := ⟨_, rfl⟩
 rw [← h0] at hC ⊢
 have hwm : w.heap.size ≤ gm := by omega
 clear h0
 generalize w.alloc (.cells ((kindM 2).cells MsgA.zero).toArray 36) = w1 at *
 refine wp_alloc_msg rfl rfl (fun hZ => ?_)
 simp only [pz]
 have hxb := Ext.alloc no w1 (.cells (MsgR.zero.cells MsgA.zero).toArray 36)
 have hml := hC.lt (msg_ne _ _)
 have hC := hC.ext (msg_ne _ _) hxb (fun h => h)
 obtain ⟨gz, h0⟩ : ∃ v, v = w1.heap.size := ⟨_, rfl⟩
 rw [← h0] at hZ hml ⊢
 clear h0
 have h := (h.no hxa).no hxb
 have hx : Ext (rg R g) w _ := (hxa.comp hxb).mono (fun _ _ e => e.elim)
 clear hxa hxb
 generalize w1.alloc (.cells (MsgR.zero.cells MsgA.zero).toArray 36) = v0 at *
 have hdm : ∀ i, d = some i → i ≠ gm := fun i hi => by have := hdw i hi; omega
 have hdz : ∀ i, d = some i → i ≠ gz := fun i hi => by have := hdw i hi; omega
 have hp := h.p
 go_wp2_with fail
 refine (rdInt_any v0 g s0 h.rd).mono ?_
 rintro e v1 ⟨rfl, hr', hx'⟩
 have hC := hC.ext (msg_ne _ _) hx' (by simp only [Esc.just]; omega)
 have hZ := hZ.ext (msg_ne _ _) hx' (by simp only [Esc.just]; omega)
 obtain ⟨i1, hn⟩ : ∃ n, n = (rInt s0).1 := ⟨_, rfl⟩
 obtain ⟨s1, hs''⟩ : ∃ q, q = (rInt s0).2 := ⟨_, rfl⟩
 rw [← hs''] at hr'
 rw [← hn]
 have HNi1 := Lib.hid hn
 have HS1 := Lib.hid hs''
 replace h : WR v1 R g d s1 x := h.step hr' hx'
 replace hx := hx.comp (Ext.rg hx')
 clear hn hs'' hr' hx' hp
 have hp := h.p
 have e1 := hC.cell 1 _ rfl
 have f1 := hC.fr 1
 go_upto_region 3 with fail
 have xs : Ext (just gm) v1 (v1.setCell ⟨gm, 1, none⟩ (.int .i64 i1)) := Ext.setCell _ _ _ rfl
 have hC := hC.put 1 (.int .i64 i1) (by show 1 < 25; omega) (ds := ({ kindM 2 with dev := i1 } : MsgR).cells MsgA.zero) rfl
 have hZ := hZ.ext (msg_ne _ _) xs (fun e => by have e : gz = gm := e; omega)
 have h := h.new xs (by omega) hdm
 replace hx : Ext (rg R g) w _ := hx.trans xs (fun i hi e => by have e : i = gm := e; omega)
 clear xs
 generalize v1.setCell ⟨gm, 1, none⟩ (.int .i64 i1) = u1 at *
 have e0 : u1.cell? ⟨gm, 0, none⟩ = some (.int .i64 2) := hC.cell 0 _ rfl
 go_wp2_with fail
 refine (rdInt_any u1 g s1 h.rd).mono ?_
 rintro e v2 ⟨rfl, hr', hx'⟩
 have hC := hC.ext (msg_ne _ _) hx' (by simp only [Esc.just]; omega)
 have hZ := hZ.ext (msg_ne _ _) hx' (by simp only [Esc.just]; omega)
 obtain ⟨i2, hn⟩ : ∃ n, n = (rInt s1).1 := ⟨_, rfl⟩
 obtain ⟨s2, hs''⟩ : ∃ q, q = (rInt s1).2 := ⟨_, rfl⟩
 rw [← hs''] at hr'
 rw [← hn]
 have HNi2 := Lib.hid hn
 have HS2 := Lib.hid hs''
 replace h : WR v2 R g d s2 x := h.step hr' hx'
 replace hx := hx.comp (Ext.rg hx')
 clear hn hs'' hr' hx' hp
 have hp := h.p
 go_wp2_with fail
 refine (rdInt_any v2 g s2 h.rd).mono ?_
 rintro e v3 ⟨rfl, hr', hx'⟩
 have hC := hC.ext (msg_ne _ _) hx' (by simp only [Esc.just]; omega)
 have hZ := hZ.ext (msg_ne _ _) hx' (by simp only [Esc.just]; omega)
 obtain ⟨i3, hn⟩ : ∃ n, n = (rInt s2).1 := ⟨_, rfl⟩
 obtain ⟨s3, hs''⟩ : ∃ q, q = (rInt s2).2 := ⟨_, rfl⟩
 rw [← hs''] at hr'
 rw [← hn]
 have HNi3 := Lib.hid hn
 have HS3 := Lib.hid hs''
 replace h : WR v3 R g d s3 x := h.step hr' hx'
 replace hx := hx.comp (Ext.rg hx')
 clear hn hs'' hr' hx' hp
 have hp := h.p
 have e2 := hC.cell 2 _ rfl
 have f2 := hC.fr 2
 have e7 := hC.cell 4 _ rfl
 have f7 := hC.fr 4
 go_upto_region 8 with fail
 have xs : Ext (just gm) v3 ((v3.setCell ⟨gm, 2, none⟩ (.int .i64 i2)).setCell ⟨gm, 4, none⟩ (.int .i64 i3)) := (Ext.at v3 gm 2 _).comp (Ext.at _ gm 4 _)
 have hC := (hC.put 2 (.int .i64 i2) (by show 2 < 25; omega) (ds := ({ kindM 2 with dev := i1, req := i2 } : MsgR).cells MsgA.zero) rfl).put 4 (.int .i64 i3) (by show 4 < 25; omega) (ds := ({ kindM 2 with dev := i1, req := i2, pos := i3 } : MsgR).cells MsgA.zero) rfl
 have hZ := hZ.ext (msg_ne _ _) xs (fun e => by have e : gz = gm := e; omega)
 have h := h.new xs (by omega) hdm
 replace hx : Ext (rg R g) w _ := hx.trans xs (fun i hi e => by have e : i = gm := e; omega)
 clear xs e2 f2 e7 f7
 generalize (v3.setCell ⟨gm, 2, none⟩ (.int .i64 i2)).setCell ⟨gm, 4, none⟩ (.int .i64 i3) = u3 at *
 have hzl := hZ.lt (msg_ne _ _)
 have hxl := hx.size
 go_wp2_with fail
 refine (rreply_any u3 R g s3 x h).mono ?_
 rintro e v4 ⟨kc, rfl, hK, h', hx'⟩
 have hC := hC.ext (msg_ne _ _) hx' (fun e => by rcases e with e | e <;> omega)
 have hZ := hZ.ext (msg_ne _ _) hx' (fun e => by rcases e with e | e <;> omega)
 replace hx := hx.comp hx'
 have hs1 := hx'.size
 obtain ⟨cm, hcm⟩ : ∃ l, l = (wReply s3).1 := ⟨_, rfl⟩
 obtain ⟨s4, hs2⟩ : ∃ l, l = (wReply s3).2 := ⟨_, rfl⟩
 rw [← hcm] at hK
 rw [← hs2] at h'
 rw [← hcm]
 obtain ⟨M, hM⟩ : ∃ M : MsgR, M = { kindM 2 with dev := i1, req := i2, pos := i3, rep := cm } := ⟨_, rfl⟩
 have HB := Lib.hid (show wBody 2 s0 = (M, s4) by
  rw [hM]
  unfold wBody
  simp only [← HNi1.out, ← HS1.out, ← HNi2.out, ← HS2.out, ← HNi3.out, ← HS3.out, ← hcm, ← hs2]
  rfl)
 clear hcm hs2 h hp hx'
 have h := h'
 clear h'
 unfold ReplyR.val
 have hgl : gm < u3.heap.size ∧ gz < u3.heap.size := ⟨by omega, by omega⟩
 have e15 := hC.cell 15 _ rfl
 have e16 := hC.cell 16 _ rfl
 have e17 := hC.cell 17 _ rfl
 have e18 := hC.cell 18 _ rfl
 have e19 := hC.cell 19 _ rfl
 have e20 := hC.cell 20 _ rfl
 have e21 := hC.cell 21 _ rfl
 have e22 := hC.cell 22 _ rfl
 have e23 := hC.cell 23 _ rfl
 have f15 := hC.fr 15
 have f16 := hC.fr 16
 have f17 := hC.fr 17
 have f18 := hC.fr 18
 have f19 := hC.fr 19
 have f20 := hC.fr 20
 have f21 := hC.fr 21
 have f22 := hC.fr 22
 have f23 := hC.fr 23
 go_upto_region 23 with fail
 have xs : Ext (just gm) v4 (((((((((v4.setCell ⟨gm, 15, none⟩ (.int .i64 cm.err)).setCell ⟨gm, 16, none⟩ (.int .i64 cm.n)).setCell ⟨gm, 17, none⟩ (.int .i64 cm.dev)).setCell ⟨gm, 18, none⟩ (.int .i64 cm.ep)).setCell ⟨gm, 19, none⟩ (.int .i64 cm.til)).setCell ⟨gm, 20, none⟩ (.int .i64 cm.last)).setCell ⟨gm, 21, none⟩ (.slice kc.s cm.slices.length kc.sc)).setCell ⟨gm, 22, none⟩ (.slice kc.i cm.ids.length kc.ic)).setCell ⟨gm, 23, none⟩ (.slice kc.u cm.used.length kc.uc)) := ((((((((((Ext.refl (just gm) v4).comp (Ext.at _ gm 15 (.int .i64 cm.err))).comp (Ext.at _ gm 16 (.int .i64 cm.n))).comp (Ext.at _ gm 17 (.int .i64 cm.dev))).comp (Ext.at _ gm 18 (.int .i64 cm.ep))).comp (Ext.at _ gm 19 (.int .i64 cm.til))).comp (Ext.at _ gm 20 (.int .i64 cm.last))).comp (Ext.at _ gm 21 (.slice kc.s cm.slices.length kc.sc))).comp (Ext.at _ gm 22 (.slice kc.i cm.ids.length kc.ic))).comp (Ext.at _ gm 23 (.slice kc.u cm.used.length kc.uc)))
 have hq := (((((((((hC.set 15 (.int .i64 cm.err) (by show 15 < 25; omega)).set 16 (.int .i64 cm.n) (by show 16 < 25; omega)).set 17 (.int .i64 cm.dev) (by show 17 < 25; omega)).set 18 (.int .i64 cm.ep) (by show 18 < 25; omega)).set 19 (.int .i64 cm.til) (by show 19 < 25; omega)).set 20 (.int .i64 cm.last) (by show 20 < 25; omega)).set 21 (.slice kc.s cm.slices.length kc.sc) (by show 21 < 25; omega)).set 22 (.slice kc.i cm.ids.length kc.ic) (by show 22 < 25; omega)).set 23 (.slice kc.u cm.used.length kc.uc) (by show 23 < 25; omega))
 have hC : Blk (((((((((v4.setCell ⟨gm, 15, none⟩ (.int .i64 cm.err)).setCell ⟨gm, 16, none⟩ (.int .i64 cm.n)).setCell ⟨gm, 17, none⟩ (.int .i64 cm.dev)).setCell ⟨gm, 18, none⟩ (.int .i64 cm.ep)).setCell ⟨gm, 19, none⟩ (.int .i64 cm.til)).setCell ⟨gm, 20, none⟩ (.int .i64 cm.last)).setCell ⟨gm, 21, none⟩ (.slice kc.s cm.slices.length kc.sc)).setCell ⟨gm, 22, none⟩ (.slice kc.i cm.ids.length kc.ic)).setCell ⟨gm, 23, none⟩ (.slice kc.u cm.used.length kc.uc)) gm (({ kindM 2 with dev := i1, req := i2, pos := i3, rep := cm } : MsgR).cells { MsgA.zero with r := kc }) := hq
 clear hq e15 f15 e16 f16 e17 f17 e18 f18 e19 f19 e20 f20 e21 f21 e22 f22 e23 f23
 have hZ := hZ.ext (msg_ne _ _) xs (fun e => by have e : gz = gm := e; omega)
 have h := h.new xs (by omega) hdm
 replace hx : Ext (rg R g) w _ := hx.trans xs (fun i hi e => by have e : i = gm := e; omega)
 have hX2 : Ext (fun k => k = gm ∨ k = gz) v4 _ := xs.mono (fun _ _ e => .inl e)
 clear xs
 generalize (((((((((v4.setCell ⟨gm, 15, none⟩ (.int .i64 cm.err)).setCell ⟨gm, 16, none⟩ (.int .i64 cm.n)).setCell ⟨gm, 17, none⟩ (.int .i64 cm.dev)).setCell ⟨gm, 18, none⟩ (.int .i64 cm.ep)).setCell ⟨gm, 19, none⟩ (.int .i64 cm.til)).setCell ⟨gm, 20, none⟩ (.int .i64 cm.last)).setCell ⟨gm, 21, none⟩ (.slice kc.s cm.slices.length kc.sc)).setCell ⟨gm, 22, none⟩ (.slice kc.i cm.ids.length kc.ic)).setCell ⟨gm, 23, none⟩ (.slice kc.u cm.used.length kc.uc)) = u4 at *
 rw [← hM] at hC
 have HM := Lib.hid hM
 clear hM
 go_upto_region 23 with fail
 refine wp_region_lit ?_
 refine wp_load_msg (m := M) (h := { MsgA.zero with r := kc }) rfl rfl (by rfl) hC ?_
 simp only [pz]
 refine wp_store_msg (m := M) (h := { MsgA.zero with r := kc }) rfl rfl (by rfl) (by rfl) hZ rfl (fun hF hxF => ?_)
 simp only [pz]
 have h := h.new hxF (by omega) hdz
 replace hx : Ext (rg R g) w _ := hx.trans hxF (fun i hi e => by have e : i = gz := e; omega)
 have hX3 := hX2.comp (hxF.mono (fun _ _ e => .inr e))
 have hs3 := hX3.size
 generalize u4.setCells gz 0 (MsgR.cells M { MsgA.zero with r := kc }) = wz at *
 go_wp2_with fail
 refine bodyPost_ret (v := MsgR.val M { MsgA.zero with r := kc }) ?_ rfl ⟨{ MsgA.zero with r := kc }, by rw [HB.out], ?_, ?_, hx⟩
 ·exact msg_result rfl _ _ (by rfl) hF
 ·rw [HB.out]
  intro S wy hy hS
  rw [HM.out]
  have hci := hK (fun k => S k ∨ k = gm ∨ k = gz) wy ((hX3.mono (fun k _ e => .inr e)).comp (hy.mono (fun k _ e => .inl e))) (fun k hk => hk.elim (fun e => by have := hS k e; omega) (fun e => by rcases e with e | e <;> omega))
  exact ⟨Rd.nil _ _, CmdR.In.zero _, hci, OpsIn.nil _ _, Nat.le_refl _, Nat.zero_le _, Nat.le_refl _, Nat.zero_le _⟩
 ·rw [HB.out, HM.out]; exact h
theorem bls_snoc (l : List Bool) (b : Bool) : bls (l ++ [b]) = bls l ++ [.bool b] := by simp [bls]
set_option maxRecDepth 100000 in
set_option maxHeartbeats 8000000 in
theorem rbody_3 (w : World) (R g : Nat) {d : Option Nat} (s0 : RS) (x : Int) (h : WR w R g d s0 x) :
  Calls Tryz.prog 30 #[.pointer (some ⟨R, 0, none⟩), (kindM 3).val MsgA.zero] w (BodyEnd w R g d s0 x 3) := by
 have hRw := h.lt
 have hgw := h.glt
 have hdw := h.dlt
 have hRg := h.ne
 go_enter Tryz.func30, Tryz.ntmps30
 have mk := mkFunc
 go_upto_region 0 with fail
 refine wp_region_lit ?_
 refine wp_box_msg (m := kindM 3) (h := MsgA.zero) rfl rfl (by rfl) (fun hC => ?_)
 simp only [pz]
 have hxa := Ext.alloc no w (.cells ((kindM 3).cells MsgA.zero).toArray 36)
 obtain ⟨gm, h0⟩ : ∃ v, v = w.heap.size := ⟨_, rfl⟩
 rw [← h0] at hC ⊢
 have hwm : w.heap.size ≤ gm := by omega
 clear h0
 generalize w.alloc (.cells ((kindM 3).cells MsgA.zero).toArray 36) = w1 at *
 refine wp_alloc_msg rfl rfl (fun hZ => ?_)
 simp only [pz]
 have hxb := Ext.alloc no w1 (.cells (MsgR.zero.cells MsgA.zero).toArray 36)
 have hml := hC.lt (msg_ne _ _)
 have hC := hC.ext (msg_ne _ _) hxb (fun h => h)
 obtain ⟨gz, h0⟩ : ∃ v, v = w1.heap.size := ⟨_, rfl⟩
 rw [← h0] at hZ hml ⊢
 clear h0
 have h := (h.no hxa).no hxb
 have hx : Ext (rg R g) w _ := (hxa.comp hxb).mono (fun _ _ e => e.elim)
 clear hxa hxb
 generalize w1.alloc (.cells (MsgR.zero.cells MsgA.zero).toArray 36) = v0 at *
 have hdm : ∀ i, d = some i → i ≠ gm := fun i hi => by have := hdw i hi; omega
 have hdz : ∀ i, d = some i → i ≠ gz := fun i hi => by have := hdw i hi; omega
 have hp := h.p
 go_wp2_with fail
 refine (rdInt_any v0 g s0 h.rd).mono ?_
 rintro e v1 ⟨rfl, hr', hx'⟩
 have hC := hC.ext (msg_ne _ _) hx' (by simp only [Esc.just]; omega)
 have hZ := hZ.ext (msg_ne _ _) hx' (by simp only [Esc.just]; omega)
 obtain ⟨i1, hn⟩ : ∃ n, n = (rInt s0).1 := ⟨_, rfl⟩
 obtain ⟨s1, hs''⟩ : ∃ q, q = (rInt s0).2 := ⟨_, rfl⟩
 rw [← hs''] at hr'
 rw [← hn]
 have HNi1 := Lib.hid hn
 have HS1 := Lib.hid hs''
 replace h : WR v1 R g d s1 x := h.step hr' hx'
 replace hx := hx.comp (Ext.rg hx')
 clear hn hs'' hr' hx' hp
 have hp := h.p
 have e1 := hC.cell 1 _ rfl
 have f1 := hC.fr 1
 go_upto_region 3 with fail
 have xs : Ext (just gm) v1 (v1.setCell ⟨gm, 1, none⟩ (.int .i64 i1)) := Ext.setCell _ _ _ rfl
 have hC := hC.put 1 (.int .i64 i1) (by show 1 < 25; omega) (ds := ({ kindM 3 with dev := i1 } : MsgR).cells MsgA.zero) rfl
 have hZ := hZ.ext (msg_ne _ _) xs (fun e => by have e : gz = gm := e; omega)
 have h := h.new xs (by omega) hdm
 replace hx : Ext (rg R g) w _ := hx.trans xs (fun i hi e => by have e : i = gm := e; omega)
 clear xs
 generalize v1.setCell ⟨gm, 1, none⟩ (.int .i64 i1) = u1 at *
 have e0 : u1.cell? ⟨gm, 0, none⟩ = some (.int .i64 3) := hC.cell 0 _ rfl
 go_wp2_with fail
 refine (rdInt_any u1 g s1 h.rd).mono ?_
 rintro e v2 ⟨rfl, hr', hx'⟩
 have hC := hC.ext (msg_ne _ _) hx' (by simp only [Esc.just]; omega)
 have hZ := hZ.ext (msg_ne _ _) hx' (by simp only [Esc.just]; omega)
 obtain ⟨i2, hn⟩ : ∃ n, n = (rInt s1).1 := ⟨_, rfl⟩
 obtain ⟨s2, hs''⟩ : ∃ q, q = (rInt s1).2 := ⟨_, rfl⟩
 rw [← hs''] at hr'
 rw [← hn]
 have HNi2 := Lib.hid hn
 have HS2 := Lib.hid hs''
 replace h : WR v2 R g d s2 x := h.step hr' hx'
 replace hx := hx.comp (Ext.rg hx')
 clear hn hs'' hr' hx' hp
 have hp := h.p
 go_wp2_with fail
 refine (rdInt_any v2 g s2 h.rd).mono ?_
 rintro e v3 ⟨rfl, hr', hx'⟩
 have hC := hC.ext (msg_ne _ _) hx' (by simp only [Esc.just]; omega)
 have hZ := hZ.ext (msg_ne _ _) hx' (by simp only [Esc.just]; omega)
 obtain ⟨i3, hn⟩ : ∃ n, n = (rInt s2).1 := ⟨_, rfl⟩
 obtain ⟨s3, hs''⟩ : ∃ q, q = (rInt s2).2 := ⟨_, rfl⟩
 rw [← hs''] at hr'
 rw [← hn]
 have HNi3 := Lib.hid hn
 have HS3 := Lib.hid hs''
 replace h : WR v3 R g d s3 x := h.step hr' hx'
 replace hx := hx.comp (Ext.rg hx')
 clear hn hs'' hr' hx' hp
 have hp := h.p
 have e2 := hC.cell 3 _ rfl
 have f2 := hC.fr 3
 have e7 := hC.cell 4 _ rfl
 have f7 := hC.fr 4
 go_upto_region 11 with fail
 have xs : Ext (just gm) v3 ((v3.setCell ⟨gm, 3, none⟩ (.int .i64 i2)).setCell ⟨gm, 4, none⟩ (.int .i64 i3)) := (Ext.at v3 gm 3 _).comp (Ext.at _ gm 4 _)
 have hC := (hC.put 3 (.int .i64 i2) (by show 3 < 25; omega) (ds := ({ kindM 3 with dev := i1, ver := i2 } : MsgR).cells MsgA.zero) rfl).put 4 (.int .i64 i3) (by show 4 < 25; omega) (ds := ({ kindM 3 with dev := i1, ver := i2, pos := i3 } : MsgR).cells MsgA.zero) rfl
 have hZ := hZ.ext (msg_ne _ _) xs (fun e => by have e : gz = gm := e; omega)
 have h := h.new xs (by omega) hdm
 replace hx : Ext (rg R g) w _ := hx.trans xs (fun i hi e => by have e : i = gm := e; omega)
 clear xs e2 f2 e7 f7
 generalize (v3.setCell ⟨gm, 3, none⟩ (.int .i64 i2)).setCell ⟨gm, 4, none⟩ (.int .i64 i3) = u3 at *
 have hNs : gz + 1 ≤ u3.heap.size := hZ.lt (msg_ne _ _)
 clear hp
 go_wp2_with fail
 go_loopw [41] (fun sl wr => ∃ (i : Nat) (D : List Bool) (a' : Option Addr) (c' : Nat) (sr : RS), i ≤ 3 ∧ sl = .int .i64 i ∧ D.length = i ∧ pRow pSub 3 s3 = (D ++ (pRow pSub (3 - i) sr).1, (pRow pSub (3 - i) sr).2) ∧ WR wr R g d sr x ∧ Blk wr gm (({ kindM 3 with dev := i1, ver := i2, pos := i3, subs := D } : MsgR).cells { MsgA.zero with b := a', bc := c' }) ∧ gz + 1 ≤ wr.heap.size ∧ Blk wr gz (MsgR.zero.cells MsgA.zero) ∧ Own wr (gz + 1) a' 1 D.length c' (bls D) ∧ Ext (rg R g) w wr) (fun sl _ => 3 - (intOf sl).toNat)
 case atStart => exact ⟨0, [], none, 0, s3, by omega, rfl, rfl, by simp, h, hC, hNs, hZ, Own.nil _ _ _, hx⟩
 case round =>
  clear h hC hZ hx hNs
  obtain ⟨i, D, a1, c6, sr, hi, rfl, hDl, hpd, h, hC, hNs, hZ, hown, hx⟩ := hrel
  have HD := Lib.hid hDl
  have HPD := Lib.hid hpd
  clear hDl hpd
  have hp := h.p
  by_cases hiM : i < 3
  ·have e1 : decide ((i : Int) < 3) = true := decT (by omega)
   have e1' : decide (i < 3) = true := decT hiM
   have HPS := Lib.hid (pRow_step pSub hiM sr)
   go_wp2_with fail
   refine (rdInt_any wr g sr h.rd).mono ?_
   rintro e v5 ⟨rfl, hr', hx'⟩
   have hC := hC.ext (msg_ne _ _) hx' (by simp only [Esc.just]; omega)
   have hZ := hZ.ext (msg_ne _ _) hx' (by simp only [Esc.just]; omega)
   have hown := hown.ext hx' (fun ad h e => by have := (hown.base ad h).1; have e : ad.block = g := e; omega)
   have hNs := Nat.le_trans hNs hx'.size
   obtain ⟨n, hn⟩ : ∃ n, n = (rInt sr).1 := ⟨_, rfl⟩
   obtain ⟨t, ht⟩ : ∃ q, q = (rInt sr).2 := ⟨_, rfl⟩
   rw [← ht] at hr'
   rw [← hn]
   replace h : WR v5 R g d t x := h.step hr' hx'
   replace hx := hx.comp (Ext.rg hx')
   have HSB0 := Lib.hid (show pSub sr = (decide (n = 1), if n ≠ 0 ∧ n ≠ 1 then rFail t 10 else t) by unfold pSub; rw [← hn, ← ht])
   clear hn ht hr' hx' hp
   have hp := h.p
   by_cases n0 : n = 0
   ·have HSB := Lib.hid (show pSub sr = (false, t) by rw [HSB0.out, n0]; rfl)
    subst n0
    have e6 : v5.cell? ⟨gm, 6, none⟩ = some (.slice a1 D.length c6) := hC.cell 6 _ rfl
    have f6 := hC.fr 6
    go_wp2_with (at_builtin; refine wpList_append TBools rfl rfl rfl (hown.alloc _) rfl (Rd.lit v5 #[.bool false] 4 (0, 0)) (m := 1) rfl (by intro u hu; simp at hu; subst hu; rfl) (by have := HD.out; unfold maxLen; omega) (by have := HD.out; omega) (by simp; omega) ?_)
    intro a2 c2 w7 hA
    have hxa := Ext.alloc no v5 (.cells #[.bool false] 4)
    have hown1 := hown.ext hxa (fun _ _ h => h)
    have hC := (hC.ext (msg_ne _ _) hxa (fun h => h)).ext (msg_ne _ _) hA.ext (hown.notBlk (by omega))
    have hZ := (hZ.ext (msg_ne _ _) hxa (fun h => h)).ext (msg_ne _ _) hA.ext (hown.notBlk (by omega))
    have h := (h.no hxa).aside hA.ext (hown.notBlk (by omega)) (hown.notBlk (by omega)) (fun i hi => hown.notBlk (by have := hdw i hi; omega))
    replace hx : Ext (rg R g) w w7 := (hx.comp (hxa.mono (S' := rg R g) (fun _ _ e => e.elim))).trans hA.ext (fun i hi h => (hown.notBlk (by omega) h).elim)
    have hNs := Nat.le_trans (Nat.le_trans hNs hxa.size) hA.ext.size
    have ho8 := hA.own
    have e6 : w7.cell? ⟨gm, 6, none⟩ = some (.slice a1 D.length c6) := hC.cell 6 _ rfl
    have f6 := hC.fr 6
    clear hA hown hown1 hxa
    go_upto_region 17 with fail
    have xs : Ext (just gm) w7 (w7.setCell ⟨gm, 6, none⟩ (.slice a2 (D.length + 1) c2)) := Ext.setCell _ _ _ rfl
    have hC9 := hC.put 6 (.slice a2 (D.length + 1) c2) (by show 6 < 25; omega) (ds := ({ kindM 3 with dev := i1, ver := i2, pos := i3, subs := D ++ [false] } : MsgR).cells { MsgA.zero with b := a2, bc := c2 }) (by rw [show D.length + 1 = (D ++ [false]).length by simp]; rfl)
    have hZ9 := hZ.ext (msg_ne _ _) xs (fun e => by have e : gz = gm := e; omega)
    have h9 := h.new xs (by omega) hdm
    have hx9 : Ext (rg R g) w _ := hx.trans xs (fun i hi e => by have e : i = gm := e; omega)
    have ho9 : Own (w7.setCell ⟨gm, 6, none⟩ (.slice a2 (D.length + 1) c2)) (gz + 1) a2 1 (D ++ [false]).length c2 (bls (D ++ [false])) := by
     rw [List.length_append, bls_snoc]
     exact ho8.ext xs (fun ad h e => by have := (ho8.base ad h).1; have e : ad.block = gm := e; omega)
    have hNs9 := Nat.le_trans hNs xs.size
    have HL := Lib.hid (show (D ++ [false]).length = i + 1 by rw [List.length_append, HD.out]; rfl)
    have HN := Lib.hid (show pRow pSub 3 s3 = ((D ++ [false]) ++ (pRow pSub (3 - (i + 1)) t).1, (pRow pSub (3 - (i + 1)) t).2) by rw [HPD.out, HPS.out, HSB.out]; simp)
    clear hC hZ h hx ho8 xs hNs e6 f6
    go_wp2_with fail
    go_roundw
    case rel => exact ⟨i + 1, D ++ [false], a2, c2, t, by omega, by go_num, HL.out, HN.out, h9, hC9, hNs9, hZ9, ho9, hx9⟩
    case measure => simp [intOf]; omega
   by_cases n1 : n = 1
   ·have HSB := Lib.hid (show pSub sr = (true, t) by rw [HSB0.out, n1]; rfl)
    subst n1
    clear n0
    have e6 : v5.cell? ⟨gm, 6, none⟩ = some (.slice a1 D.length c6) := hC.cell 6 _ rfl
    have f6 := hC.fr 6
    go_wp2_with (at_builtin; refine wpList_append TBools rfl rfl rfl (hown.alloc _) rfl (Rd.lit v5 #[.bool true] 4 (0, 0)) (m := 1) rfl (by intro u hu; simp at hu; subst hu; rfl) (by have := HD.out; unfold maxLen; omega) (by have := HD.out; omega) (by simp; omega) ?_)
    intro a2 c2 w7 hA
    have hxa := Ext.alloc no v5 (.cells #[.bool true] 4)
    have hown1 := hown.ext hxa (fun _ _ h => h)
    have hC := (hC.ext (msg_ne _ _) hxa (fun h => h)).ext (msg_ne _ _) hA.ext (hown.notBlk (by omega))
    have hZ := (hZ.ext (msg_ne _ _) hxa (fun h => h)).ext (msg_ne _ _) hA.ext (hown.notBlk (by omega))
    have h := (h.no hxa).aside hA.ext (hown.notBlk (by omega)) (hown.notBlk (by omega)) (fun i hi => hown.notBlk (by have := hdw i hi; omega))
    replace hx : Ext (rg R g) w w7 := (hx.comp (hxa.mono (S' := rg R g) (fun _ _ e => e.elim))).trans hA.ext (fun i hi h => (hown.notBlk (by omega) h).elim)
    have hNs := Nat.le_trans (Nat.le_trans hNs hxa.size) hA.ext.size
    have ho8 := hA.own
    have e6 : w7.cell? ⟨gm, 6, none⟩ = some (.slice a1 D.length c6) := hC.cell 6 _ rfl
    have f6 := hC.fr 6
    clear hA hown hown1 hxa
    go_upto_region 17 with fail
    have xs : Ext (just gm) w7 (w7.setCell ⟨gm, 6, none⟩ (.slice a2 (D.length + 1) c2)) := Ext.setCell _ _ _ rfl
    have hC9 := hC.put 6 (.slice a2 (D.length + 1) c2) (by show 6 < 25; omega) (ds := ({ kindM 3 with dev := i1, ver := i2, pos := i3, subs := D ++ [true] } : MsgR).cells { MsgA.zero with b := a2, bc := c2 }) (by rw [show D.length + 1 = (D ++ [true]).length by simp]; rfl)
    have hZ9 := hZ.ext (msg_ne _ _) xs (fun e => by have e : gz = gm := e; omega)
    have h9 := h.new xs (by omega) hdm
    have hx9 : Ext (rg R g) w _ := hx.trans xs (fun i hi e => by have e : i = gm := e; omega)
    have ho9 : Own (w7.setCell ⟨gm, 6, none⟩ (.slice a2 (D.length + 1) c2)) (gz + 1) a2 1 (D ++ [true]).length c2 (bls (D ++ [true])) := by
     rw [List.length_append, bls_snoc]
     exact ho8.ext xs (fun ad h e => by have := (ho8.base ad h).1; have e : ad.block = gm := e; omega)
    have hNs9 := Nat.le_trans hNs xs.size
    have HL := Lib.hid (show (D ++ [true]).length = i + 1 by rw [List.length_append, HD.out]; rfl)
    have HN := Lib.hid (show pRow pSub 3 s3 = ((D ++ [true]) ++ (pRow pSub (3 - (i + 1)) t).1, (pRow pSub (3 - (i + 1)) t).2) by rw [HPD.out, HPS.out, HSB.out]; simp)
    clear hC hZ h hx ho8 xs hNs e6 f6
    go_wp2_with fail
    go_roundw
    case rel => exact ⟨i + 1, D ++ [true], a2, c2, t, by omega, by go_num, HL.out, HN.out, h9, hC9, hNs9, hZ9, ho9, hx9⟩
    case measure => simp [intOf]; omega
   have c0 : (n == 0) = false := by rw [beq_eq_false_iff_ne]; exact n0
   have c1 : (n == 1) = false := by rw [beq_eq_false_iff_ne]; exact n1
   have c0' : (n != 0) = true := by rw [bne_iff_ne]; exact n0
   have c1' : (n != 1) = true := by rw [bne_iff_ne]; exact n1
   have HSB := Lib.hid (show pSub sr = (false, rFail t 10) by rw [HSB0.out, if_pos ⟨n0, n1⟩, decide_eq_false n1])
   clear n0 n1
   go_wp2_with fail
   refine (fail_any v5 g t.l t.e 10 h.rd).mono ?_
   rintro e v6 ⟨rfl, hr', hx'⟩
   have h : WR v6 R g d (rFail t 10) x := h.step (by rw [(rFail_l t 10).1, (rFail_l t 10).2]; exact hr') hx'
   have hC := hC.ext (msg_ne _ _) hx' (by simp only [Esc.just]; omega)
   have hZ := hZ.ext (msg_ne _ _) hx' (by simp only [Esc.just]; omega)
   have hown := hown.ext hx' (fun ad h e => by have := (hown.base ad h).1; have e : ad.block = g := e; omega)
   have hNs := Nat.le_trans hNs hx'.size
   replace hx := hx.comp (Ext.rg hx')
   clear hr' hx'
   have e6 : v6.cell? ⟨gm, 6, none⟩ = some (.slice a1 D.length c6) := hC.cell 6 _ rfl
   have f6 := hC.fr 6
   go_wp2_with (at_builtin; refine wpList_append TBools rfl rfl rfl (hown.alloc _) rfl (Rd.lit v6 #[.bool false] 4 (0, 0)) (m := 1) rfl (by intro u hu; simp at hu; subst hu; rfl) (by have := HD.out; unfold maxLen; omega) (by have := HD.out; omega) (by simp; omega) ?_)
   intro a2 c2 w7 hA
   have hxa := Ext.alloc no v6 (.cells #[.bool false] 4)
   have hown1 := hown.ext hxa (fun _ _ h => h)
   have hC := (hC.ext (msg_ne _ _) hxa (fun h => h)).ext (msg_ne _ _) hA.ext (hown.notBlk (by omega))
   have hZ := (hZ.ext (msg_ne _ _) hxa (fun h => h)).ext (msg_ne _ _) hA.ext (hown.notBlk (by omega))
   have h := (h.no hxa).aside hA.ext (hown.notBlk (by omega)) (hown.notBlk (by omega)) (fun i hi => hown.notBlk (by have := hdw i hi; omega))
   replace hx : Ext (rg R g) w w7 := (hx.comp (hxa.mono (S' := rg R g) (fun _ _ e => e.elim))).trans hA.ext (fun i hi h => (hown.notBlk (by omega) h).elim)
   have hNs := Nat.le_trans (Nat.le_trans hNs hxa.size) hA.ext.size
   have ho8 := hA.own
   have e6 : w7.cell? ⟨gm, 6, none⟩ = some (.slice a1 D.length c6) := hC.cell 6 _ rfl
   have f6 := hC.fr 6
   clear hA hown hown1 hxa
   go_upto_region 17 with fail
   have xs : Ext (just gm) w7 (w7.setCell ⟨gm, 6, none⟩ (.slice a2 (D.length + 1) c2)) := Ext.setCell _ _ _ rfl
   have hC9 := hC.put 6 (.slice a2 (D.length + 1) c2) (by show 6 < 25; omega) (ds := ({ kindM 3 with dev := i1, ver := i2, pos := i3, subs := D ++ [false] } : MsgR).cells { MsgA.zero with b := a2, bc := c2 }) (by rw [show D.length + 1 = (D ++ [false]).length by simp]; rfl)
   have hZ9 := hZ.ext (msg_ne _ _) xs (fun e => by have e : gz = gm := e; omega)
   have h9 := h.new xs (by omega) hdm
   have hx9 : Ext (rg R g) w _ := hx.trans xs (fun i hi e => by have e : i = gm := e; omega)
   have ho9 : Own (w7.setCell ⟨gm, 6, none⟩ (.slice a2 (D.length + 1) c2)) (gz + 1) a2 1 (D ++ [false]).length c2 (bls (D ++ [false])) := by
    rw [List.length_append, bls_snoc]
    exact ho8.ext xs (fun ad h e => by have := (ho8.base ad h).1; have e : ad.block = gm := e; omega)
   have hNs9 := Nat.le_trans hNs xs.size
   have HL := Lib.hid (show (D ++ [false]).length = i + 1 by rw [List.length_append, HD.out]; rfl)
   have HN := Lib.hid (show pRow pSub 3 s3 = ((D ++ [false]) ++ (pRow pSub (3 - (i + 1)) (rFail t 10)).1, (pRow pSub (3 - (i + 1)) (rFail t 10)).2) by rw [HPD.out, HPS.out, HSB.out]; simp)
   clear hC hZ h hx ho8 xs hNs e6 f6
   go_wp2_with fail
   go_roundw
   case rel => exact ⟨i + 1, D ++ [false], a2, c2, (rFail t 10), by omega, by go_num, HL.out, HN.out, h9, hC9, hNs9, hZ9, ho9, hx9⟩
   case measure => simp [intOf]; omega
  ·have e1 : decide ((i : Int) < 3) = false := decF (by omega)
   have e1' : decide (i < 3) = false := decF hiM
   have HEND := Lib.hid (show pRow pSub 3 s3 = (D, sr) by rw [HPD.out, pRow_end pSub hiM]; simp)
   clear HPD hp
   obtain ⟨M, hM⟩ : ∃ M : MsgR, M = { kindM 3 with dev := i1, ver := i2, pos := i3, subs := D } := ⟨_, rfl⟩
   rw [← hM] at hC
   have HB := Lib.hid (show wBody 3 s0 = (M, sr) by
    rw [hM]
    unfold wBody
    simp only [← HNi1.out, ← HS1.out, ← HNi2.out, ← HS2.out, ← HNi3.out, ← HS3.out, HEND.out]
    rfl)
   have HM := Lib.hid hM
   clear hM
   go_upto_region 23 with fail
   refine wp_region_lit ?_
   refine wp_load_msg (m := M) (h := { MsgA.zero with b := a1, bc := c6 }) rfl rfl (by rfl) hC ?_
   simp only [pz]
   refine wp_store_msg (m := M) (h := { MsgA.zero with b := a1, bc := c6 }) rfl rfl (by rfl) (by rfl) hZ rfl (fun hF hxF => ?_)
   simp only [pz]
   have h := h.new hxF (by omega) hdz
   replace hx : Ext (rg R g) w _ := hx.trans hxF (fun i hi e => by have e : i = gz := e; omega)
   have hown := hown.ext hxF (fun ad h e => by have := (hown.base ad h).1; have e : ad.block = gz := e; omega)
   generalize wr.setCells gz 0 (MsgR.cells M { MsgA.zero with b := a1, bc := c6 }) = wz at *
   go_wp2_with fail
   refine bodyPost_ret (v := MsgR.val M { MsgA.zero with b := a1, bc := c6 }) ?_ rfl ⟨{ MsgA.zero with b := a1, bc := c6 }, by rw [HB.out], ?_, ?_, hx⟩
   ·exact msg_result rfl _ _ (by rfl) hF
   ·rw [HB.out]
    intro S wy hy hS
    rw [HM.out]
    exact ⟨own_keep hown (by omega) hy hS, CmdR.In.zero _, ReplyR.In.zero _, OpsIn.nil _ _, hown.nc, hown.cm, Nat.le_refl _, Nat.zero_le _⟩
   ·rw [HB.out, HM.out]; exact h
end Go.Proofs.YtddobhihjljcgaaGreat
/- wire.Parse. -/
namespace Go.Proofs.YtddobhihjljcgaaGreat
open Go.RowKit Go.Esc
set_option linter.unusedVariables false
set_option linter.unusedSimpArgs false
theorem rbody_any (w : World) (R g : Nat) {d : Option Nat} (s0 : RS) (x k : Int) (hk : 1 ≤ k ∧ k ≤ 5) (h : WR w R g d s0 x) :
  Calls Tryz.prog 30 #[.pointer (some ⟨R, 0, none⟩), (kindM k).val MsgA.zero] w (BodyEnd w R g d s0 x k) := by
 rcases (show k = 1 ∨ k = 2 ∨ k = 3 ∨ k = 4 ∨ k = 5 by omega) with rfl | rfl | rfl | rfl | rfl
 ·exact rbody_1 w R g s0 x h
 ·exact rbody_2 w R g s0 x h
 ·exact rbody_3 w R g s0 x h
 ·exact rbody_4 w R g s0 x h
 ·exact rbody_5 w R g s0 x h
theorem one_bad {l : List UInt8} (h : (one l).2 ≠ 0) : one l = ([], (one l).2) := by
 unfold one at *
 repeat' split
 all_goals first | rfl | (simp_all)
theorem opsErr2_ne {x : Int} (h : x ≠ 0) : ∀ l, opsErr2 x l = x
 | [] => rfl
 | o :: l => by
  unfold opsErr2
  rw [List.foldl_cons, show opErr x o = x by unfold opErr; rw [if_neg h]]
  exact opsErr2_ne h l
theorem opsErr2_zero : ∀ l, opsErr2 0 l = (opsErr l : Int)
 | [] => rfl
 | o :: l => by
  unfold opsErr2 opsErr
  rw [List.foldl_cons, show opErr 0 o = (checkOp o : Int) by unfold opErr; rw [if_pos rfl]]
  by_cases h : checkOp o ≠ 0
  ·rw [if_pos h]; exact opsErr2_ne (by omega) l
  ·rw [if_neg h, show (checkOp o : Int) = 0 by omega]; exact opsErr2_zero l
theorem msgErr2_zero (m : MsgR) : msgErr2 0 m = (msgErr m : Int) := by
 unfold msgErr2 msgErr
 rw [opsErr2_zero]
 by_cases h : opsErr m.cmd.ops ≠ 0
 ·rw [if_pos h]; exact opsErr2_ne (by omega) _
 ·rw [if_neg h, show (opsErr m.cmd.ops : Int) = 0 by omega]; exact opsErr2_zero _
theorem parseErr_of {l : List UInt8} {m : MsgR} {s : RS} (h2 : (one l).2 = 0) (hw : wMsg (one l).1 = (m, s)) :
  parseErr l = if rEnd s ≠ 0 then rEnd s else if 100 < m.rep.used.length then 4 else (msgErr m : Int) := by
 unfold parseErr
 rw [if_neg (by rw [h2]; exact fun h => h rfl), hw]
theorem parseMsg_of {l : List UInt8} {m : MsgR} {s : RS} (hw : wMsg (one l).1 = (m, s)) (h : parseErr l = 0) : parseMsg l = m := by
 unfold parseMsg
 rw [if_pos h, hw]
theorem parseMsg_bad {l : List UInt8} (h : parseErr l ≠ 0) : parseMsg l = MsgR.zero := by unfold parseMsg; rw [if_neg h]
def ParseEnd (w : World) (l : List UInt8) (e : Ending) (w' : World) : Prop := ∃ k : MsgA, e = .returned (.tuple #[(parseMsg l).val k, .int .i64 (parseErr l)]) ∧ Kept w w' (fun wz => (parseMsg l).In wz k) ∧ Ext no w w'
theorem parseEnd_bad {w w' : World} {l : List UInt8} {e : Ending} (h : parseErr l ≠ 0) (he : e = .returned (.tuple #[MsgR.zero.val MsgA.zero, .int .i64 (parseErr l)])) (hx : Ext no w w') : ParseEnd w l e w' :=
 ⟨MsgA.zero, by rw [parseMsg_bad h]; exact he, by rw [parseMsg_bad h]; exact fun _ _ _ _ => MsgR.In.zero _, hx⟩
theorem build1 (n : Int) (w : World) : (Instr.build 36 (List.toArray [(0, .int .i64 n)])).run Tryz.prog w = .ok ((kindM n).val MsgA.zero) w := by kernel_rfl
section
variable {ops : Array Oper} {rest : List Oper} {op : Oper} {a : Act} {w : World} {Q : Exit → Act → World → Prop} {x : Operand}
theorem wp_build1 (n : Int) (hgd : op.guard = none) (ho : op.op = .build 36 #[(0, x)]) (hx : a.eval x = .int .i64 n)
  (hk : wpList Tryz.prog ops Q rest (a.put op.dst ((kindM n).val MsgA.zero)) w) : wpList Tryz.prog ops Q (op :: rest) a w := by
 refine wpList_plain hgd fun K hK => ?_
 unfold Oper.wp execOp
 simp only [ho, List.map_toArray, List.map_cons, List.map_nil, hx, Sem.run_bind, Sem.run_pure]
 rw [show (Instr.build 36 (List.toArray [(0, .int .i64 n)])).run Tryz.prog w = .ok ((kindM n).val MsgA.zero) w from build1 n w]
 exact hK _ _ hk
theorem run_build0 (ho : op.op = .build 36 #[]) : (execOp a.eval op).run Tryz.prog w = .ok (.value (MsgR.zero.val MsgA.zero)) w := by
 unfold execOp
 simp only [ho, List.map_toArray, List.map_nil, Sem.run_bind, Sem.run_pure]
 rw [show (Instr.build 36 (List.toArray [])).run Tryz.prog w = .ok (MsgR.zero.val MsgA.zero) w from build0 w]
 rfl
end
theorem rFail_end (s : RS) {k : Int} (hk : k ≠ 0) : rEnd (rFail s k) ≠ 0 := by
 have hte : (rFail s k).e ≠ 0 := by
  rw [(rFail_l s k).2]; unfold fails; split
  ·exact hk
  ·assumption
 unfold rEnd; rw [if_neg (fun h => hte h.1)]; exact hte
set_option maxRecDepth 100000 in
set_option maxHeartbeats 8000000 in
theorem wparse_any (w : World) (a : Option Addr) (c : Nat) (l : List UInt8) (hrd : Rd w a (bs l)) (hl : l.length ≤ 1099511627776) (hlc : l.length ≤ c) :
  Calls Tryz.prog 11 #[.slice a l.length c] w (ParseEnd w l) := by
 by_cases h2 : (one l).2 = 0
 rotate_left
 ·refine (wparse_bad w a c l (one l).2 hrd hl hlc (one_bad h2) h2).mono ?_
  rintro e w1 ⟨rfl, hx⟩
  have hp : parseErr l = ((one l).2 : Int) := by unfold parseErr; rw [if_pos h2]
  exact parseEnd_bad (by rw [hp]; omega) (by rw [hp]) hx
 have H2 := Lib.hid h2
 have t0 : (((one l).2 : Int) != 0) = false := by rw [h2]; rfl
 clear h2
 go_enter Tryz.func11, Tryz.ntmps11
 go_upto_region 0 with fail
 refine wp_region_lit ?_
 refine wp_alloc_msg rfl rfl (fun hZ => ?_)
 simp only [pz]
 have hxa := Ext.alloc no w (.cells (MsgR.zero.cells MsgA.zero).toArray 36)
 have hr1 := hrd.ext hxa (fun _ _ h => h)
 generalize w.alloc (.cells (MsgR.zero.cells MsgA.zero).toArray 36) = w1 at *
 obtain ⟨gq, hg⟩ : ∃ g, g = w.heap.size := ⟨_, rfl⟩
 rw [← hg] at hZ ⊢
 have hgw : w.heap.size ≤ gq := by omega
 clear hg
 go_wp2_with fail
 refine (fone_any w1 a c l hr1 hl hlc).mono ?_
 rintro e w2 ⟨a2, c2, rfl, hrx, hx2⟩
 have hZ := hZ.ext (msg_ne _ _) hx2 (fun h => h)
 have hx := hxa.comp hx2
 clear hxa hx2 hr1
 obtain ⟨X, hX⟩ : ∃ X, X = (one l).1 := ⟨_, rfl⟩
 have hXl : X.length ≤ 1099511627776 := by
  rw [hX]
  have : (one l).1.length ≤ l.length := by
   unfold one
   repeat' split
   all_goals simp
  omega
 rw [← hX] at hrx ⊢
 have HX := Lib.hid hX
 clear hX
 go_wp2_with fail
 refine (new_any w2 a2 c2 X hrx (by omega)).mono ?_
 rintro e w3 ⟨g, d, rfl, hr, hgg, hdd, hx'⟩
 have hZl := hZ.lt (msg_ne _ _)
 have hZ := hZ.ext (msg_ne _ _) hx' (fun h => h)
 have hwx := hx.size
 replace hx := hx.comp hx'
 clear hx'
 go_upto_region 5 with fail
 have hB := Blk.lit w3 #[.pointer (some ⟨g, 0, none⟩), .int .i64 0] 80
 have hxb := Ext.alloc no w3 (.cells #[.pointer (some ⟨g, 0, none⟩), .int .i64 0] 80)
 have hgl := hr.lt
 have hdl : ∀ i, d = some i → i < w3.heap.size := fun i hi => (hr.sep i hi).2
 have hr := hr.no hxb
 have hZ := hZ.ext (msg_ne _ _) hxb (fun h => h)
 have hs3 := hx.size
 replace hx := hx.comp hxb
 clear hxb
 generalize w3.alloc (.cells #[.pointer (some ⟨g, 0, none⟩), .int .i64 0] 80) = w4 at *
 obtain ⟨R, hR⟩ : ∃ R, R = w3.heap.size := ⟨_, rfl⟩
 rw [← hR] at hB ⊢
 obtain ⟨s0, hs0⟩ : ∃ s : RS, s = ⟨X, 0⟩ := ⟨_, rfl⟩
 have hzr : gq < R := by have := hZl; have := hZ.lt (msg_ne _ _); omega
 have hwR : w.heap.size ≤ R := by omega
 have hwg : w.heap.size ≤ g := by omega
 have hzg : gq < g := by omega
 have hwd : ∀ i, d = some i → w.heap.size ≤ i := fun i hi => by have := hdd i hi; omega
 have hzd : ∀ i, d = some i → gq < i := fun i hi => by have := hdd i hi; omega
 have h : WR w4 R g d s0 0 := ⟨by rw [hs0]; exact hr, hB.cell 0 _ rfl, hB.cell 1 _ rfl, hB.fr 1, by omega, fun i hi => by have := hdl i hi; omega⟩
 have HS0 := Lib.hid hs0
 clear hs0 hr hB hR hgl hdl hgg hdd hZl hwx hs3 hrx
 have hp := h.p
 go_wp2_with fail
 refine (rdInt_any w4 g s0 h.rd).mono ?_
 rintro e w5 ⟨rfl, hr', hx'⟩
 have hZ := hZ.ext (msg_ne _ _) hx' (by simp only [Esc.just]; omega)
 obtain ⟨n, hn⟩ : ∃ n, n = (rInt s0).1 := ⟨_, rfl⟩
 obtain ⟨s1, hs1⟩ : ∃ q, q = (rInt s0).2 := ⟨_, rfl⟩
 rw [← hs1] at hr'
 rw [← hn]
 have HWM := Lib.hid (show wMsg X = if n < 1 ∨ 5 < n then ({ MsgR.zero with kind := n }, rFail s1 3) else wBody n s1 by unfold wMsg; rw [← HS0.out, ← hn, ← hs1])
 replace h : WR w5 R g d s1 0 := h.step hr' hx'
 replace hx : Ext no w w5 := hx.trans hx' (fun i hi e => by have e : i = g := e; omega)
 clear hn hs1 hr' hx' hp HS0
 rename_i hK
 dsimp only
 refine hK _ _ ?_
 clear hK
 refine wp_build1 n rfl rfl (by rfl) ?_
 simp only [pz]
 refine wp_alloc_msg rfl rfl (fun hM => ?_)
 simp only [pz]
 have hxa := Ext.alloc no w5 (.cells (MsgR.zero.cells MsgA.zero).toArray 36)
 have hZl := hZ.lt (msg_ne _ _)
 have hRl := h.lt
 have hgl := h.glt
 have hdl := h.dlt
 have hZ := hZ.ext (msg_ne _ _) hxa (fun h => h)
 have hsz := hx.size
 have h := h.no hxa
 replace hx := hx.comp hxa
 clear hxa
 generalize w5.alloc (.cells (MsgR.zero.cells MsgA.zero).toArray 36) = w6 at *
 obtain ⟨gm, hg⟩ : ∃ g, g = w5.heap.size := ⟨_, rfl⟩
 rw [← hg] at hM ⊢
 have hqm : gq < gm := by omega
 have hRm : R < gm := by omega
 have hgm : g < gm := by omega
 have hwm : w.heap.size ≤ gm := by omega
 have hdm : ∀ i, d = some i → i ≠ gm := fun i hi => by have := hdl i hi; omega
 clear hg hZl hRl hgl hdl hsz
 refine wp_store_msg (m := kindM n) (h := MsgA.zero) rfl rfl (by rfl) (by rfl) hM rfl (fun hM hxF => ?_)
 simp only [pz]
 have hZ := hZ.ext (msg_ne _ _) hxF (fun e => by have e : gq = gm := e; omega)
 have h := h.new hxF (by omega) hdm
 replace hx := hx.trans hxF (fun i hi e => by have e : i = gm := e; omega)
 clear hxF
 generalize w6.setCells gm 0 ((kindM n).cells MsgA.zero) = w7 at *
 have hp := h.p
 have z0 : w7.cell? ⟨gm, 0, none⟩ = some (.int .i64 n) := hM.cell 0 _ rfl
 by_cases hbad : n < 1 ∨ 5 < n
 ·have HW := Lib.hid (show wMsg X = ({ MsgR.zero with kind := n }, rFail s1 3) by rw [HWM.out, if_pos hbad])
  obtain ⟨b1, hb1⟩ : ∃ b, b = decide (n < 1) := ⟨_, rfl⟩
  have HN := Lib.hid hbad
  by_cases c1 : n < 1
  ·have d1 : decide (n < 1) = true := decT c1
   clear hbad c1 hb1
   go_upto_region 7 with fail
   go_wp2_with fail
   refine (fail_any w7 g s1.l s1.e 3 h.rd).mono ?_
   rintro e w8 ⟨rfl, hr', hx'⟩
   have h : WR w8 R g d (rFail s1 3) 0 := h.step (by rw [(rFail_l s1 3).1, (rFail_l s1 3).2]; exact hr') hx'
   have hZ := hZ.ext (msg_ne _ _) hx' (by simp only [Esc.just]; omega)
   replace hx := hx.trans hx' (fun i hi e => by have e : i = g := e; omega)
   clear hr' hx' hp
   have hp := h.p
   go_wp2_with fail
   refine (end_any w8 g (rFail s1 3) h.rd).mono ?_
   rintro e u1 ⟨rfl, rfl⟩
   obtain ⟨E, hE⟩ : ∃ E, E = rEnd (rFail s1 3) := ⟨_, rfl⟩
   rw [← hE]
   have HE := Lib.hid (show E ≠ 0 by rw [hE]; exact rFail_end s1 (by omega))
   have HWo := HW.out
   rw [HX.out] at HWo
   have HP := Lib.hid (show parseErr l = E by rw [parseErr_of H2.out HWo, ← hE, if_pos HE.out])
   clear HWo
   clear hE
   have q1 : (E != (0 : Int)) = true := by rw [bne_iff_ne]; exact HE.out
   go_upto_region 11 with fail
   refine wp_region_lit ?_
   refine wp_build0 rfl rfl ?_
   simp only [pz]
   refine wp_move (.int .i64 E) rfl rfl (by rfl) ?_
   simp only [pz]
   refine wp_store_msg rfl rfl (by rfl) (by rfl) hZ rfl (fun hF hxF => ?_)
   simp only [pz]
   have hx4 := hx.trans hxF (fun i hi e => by have e : i = gq := e; omega)
   generalize w8.setCells gq 0 (MsgR.zero.cells MsgA.zero) = wz at *
   go_wp2_with fail
   refine bodyPost_ret (v := .tuple #[MsgR.zero.val MsgA.zero, .int .i64 E]) ?_ rfl (parseEnd_bad (by rw [HP.out]; exact HE.out) (by rw [HP.out]) hx4)
   exact parse_results rfl _ _ (by rfl) (by rfl) hF
  ·have d1 : decide (n < 1) = false := decF c1
   have d2 : decide (5 < n) = true := decT (by omega)
   clear hbad c1 hb1
   go_upto_region 7 with fail
   go_wp2_with fail
   refine (fail_any w7 g s1.l s1.e 3 h.rd).mono ?_
   rintro e w8 ⟨rfl, hr', hx'⟩
   have h : WR w8 R g d (rFail s1 3) 0 := h.step (by rw [(rFail_l s1 3).1, (rFail_l s1 3).2]; exact hr') hx'
   have hZ := hZ.ext (msg_ne _ _) hx' (by simp only [Esc.just]; omega)
   replace hx := hx.trans hx' (fun i hi e => by have e : i = g := e; omega)
   clear hr' hx' hp
   have hp := h.p
   go_wp2_with fail
   refine (end_any w8 g (rFail s1 3) h.rd).mono ?_
   rintro e u1 ⟨rfl, rfl⟩
   obtain ⟨E, hE⟩ : ∃ E, E = rEnd (rFail s1 3) := ⟨_, rfl⟩
   rw [← hE]
   have HE := Lib.hid (show E ≠ 0 by rw [hE]; exact rFail_end s1 (by omega))
   have HWo := HW.out
   rw [HX.out] at HWo
   have HP := Lib.hid (show parseErr l = E by rw [parseErr_of H2.out HWo, ← hE, if_pos HE.out])
   clear HWo
   clear hE
   have q1 : (E != (0 : Int)) = true := by rw [bne_iff_ne]; exact HE.out
   go_upto_region 11 with fail
   refine wp_region_lit ?_
   refine wp_build0 rfl rfl ?_
   simp only [pz]
   refine wp_move (.int .i64 E) rfl rfl (by rfl) ?_
   simp only [pz]
   refine wp_store_msg rfl rfl (by rfl) (by rfl) hZ rfl (fun hF hxF => ?_)
   simp only [pz]
   have hx4 := hx.trans hxF (fun i hi e => by have e : i = gq := e; omega)
   generalize w8.setCells gq 0 (MsgR.zero.cells MsgA.zero) = wz at *
   go_wp2_with fail
   refine bodyPost_ret (v := .tuple #[MsgR.zero.val MsgA.zero, .int .i64 E]) ?_ rfl (parseEnd_bad (by rw [HP.out]; exact HE.out) (by rw [HP.out]) hx4)
   exact parse_results rfl _ _ (by rfl) (by rfl) hF
 ·have hk : 1 ≤ n ∧ n ≤ 5 := by omega
  have HW0 := Lib.hid (show wMsg X = wBody n s1 by rw [HWM.out, if_neg hbad])
  have d1 : decide (n < 1) = false := decF (by omega)
  have d2 : decide (5 < n) = false := decF (by omega)
  clear hbad HWM
  go_upto_region 8 with fail
  refine wp_region_lit ?_
  refine wp_move (.pointer (some ⟨R, 0, none⟩)) rfl rfl (by rfl) ?_
  simp only [pz]
  refine wp_load_msg (m := kindM n) (h := MsgA.zero) rfl rfl (by rfl) hM ?_
  simp only [pz]
  go_wp2_with fail
  have hml := hM.lt (msg_ne _ _)
  refine (rbody_any w7 R g s1 0 n hk h).mono ?_
  rintro e w8 ⟨ka, rfl, hKp, h', hx'⟩
  have hZ := hZ.ext (msg_ne _ _) hx' (fun e => by rcases e with e | e <;> omega)
  have hM := hM.ext (msg_ne _ _) hx' (fun e => by rcases e with e | e <;> omega)
  replace hx := hx.trans hx' (fun i hi e => by rcases e with e | e <;> omega)
  have hsx := hx'.size
  obtain ⟨m, hm⟩ : ∃ m, m = (wBody n s1).1 := ⟨_, rfl⟩
  obtain ⟨s2, hs2⟩ : ∃ q, q = (wBody n s1).2 := ⟨_, rfl⟩
  rw [← hm] at hKp
  rw [← hs2, ← hm] at h'
  rw [← hm]
  have HW := Lib.hid (show wMsg (one l).1 = (m, s2) by rw [← HX.out, HW0.out, hm, hs2])
  clear hm hs2 h hp hx' HW0 z0
  rename_i hK
  dsimp only
  refine hK _ _ ?_
  clear hK
  refine wp_store_msg (m := m) (h := ka) rfl rfl (by rfl) (by rfl) hM rfl (fun hM hxF => ?_)
  simp only [pz]
  have hZ := hZ.ext (msg_ne _ _) hxF (fun e => by have e : gq = gm := e; omega)
  have h := h'.new hxF (by omega) hdm
  replace hx := hx.trans hxF (fun i hi e => by have e : i = gm := e; omega)
  have hKx : Ext (fun k => k = gm ∨ k = gq) w8 _ := hxF.mono (fun _ _ e => .inl e)
  clear hxF h'
  generalize w8.setCells gm 0 (m.cells ka) = w9 at *
  have hp := h.p
  go_wp2_with fail
  refine (end_any w9 g s2 h.rd).mono ?_
  rintro e u1 ⟨rfl, rfl⟩
  have HPE := Lib.hid (parseErr_of H2.out HW.out)
  obtain ⟨E, hE⟩ : ∃ E, E = rEnd s2 := ⟨_, rfl⟩
  rw [← hE] at HPE ⊢
  clear hE
  by_cases hE0 : E = 0
  rotate_left
  ·have q1 : (E != (0 : Int)) = true := by rw [bne_iff_ne]; exact hE0
   have HE := Lib.hid hE0
   have HP := Lib.hid (show parseErr l = E by rw [HPE.out, if_pos hE0])
   clear hE0
   go_upto_region 11 with fail
   refine wp_region_lit ?_
   refine wp_build0 rfl rfl ?_
   simp only [pz]
   refine wp_move (.int .i64 E) rfl rfl (by rfl) ?_
   simp only [pz]
   refine wp_store_msg rfl rfl (by rfl) (by rfl) hZ rfl (fun hF hxF => ?_)
   simp only [pz]
   have hx4 := hx.trans hxF (fun i hi e => by have e : i = gq := e; omega)
   generalize w9.setCells gq 0 (MsgR.zero.cells MsgA.zero) = wz at *
   go_wp2_with fail
   refine bodyPost_ret (v := .tuple #[MsgR.zero.val MsgA.zero, .int .i64 E]) ?_ rfl (parseEnd_bad (by rw [HP.out]; exact HE.out) (by rw [HP.out]) hx4)
   exact parse_results rfl _ _ (by rfl) (by rfl) hF
  subst hE0
  have HPE2 := Lib.hid (show parseErr l = if 100 < m.rep.used.length then 4 else (msgErr m : Int) by rw [HPE.out, if_neg (fun h => h rfl)])
  clear HPE
  have z23 : w9.cell? ⟨gm, 23, none⟩ = some (.slice ka.r.u m.rep.used.length ka.r.uc) := hM.cell 23 _ rfl
  by_cases hu : 100 < m.rep.used.length
  ·have q1 : decide ((100 : Int) < (m.rep.used.length : Int)) = true := decT (by omega)
   have HP := Lib.hid (show parseErr l = 4 by rw [HPE2.out, if_pos hu])
   clear hu
   go_upto_region 13 with fail
   refine wp_region_lit ?_
   refine wp_build0 rfl rfl ?_
   simp only [pz]
   refine wp_store_msg rfl rfl (by rfl) (by rfl) hZ rfl (fun hF hxF => ?_)
   simp only [pz]
   have hx4 := hx.trans hxF (fun i hi e => by have e : i = gq := e; omega)
   generalize w9.setCells gq 0 (MsgR.zero.cells MsgA.zero) = wz at *
   go_wp2_with fail
   refine bodyPost_ret (v := .tuple #[MsgR.zero.val MsgA.zero, .int .i64 4]) ?_ rfl (parseEnd_bad (by rw [HP.out]; exact (by decide)) (by rw [HP.out]) hx4)
   exact parse_results rfl _ _ (by rfl) (by rfl) hF
  have q1 : decide ((100 : Int) < (m.rep.used.length : Int)) = false := decF (by omega)
  have HP := Lib.hid (show parseErr l = msgErr2 0 m by rw [HPE2.out, if_neg hu, msgErr2_zero])
  clear hu HPE2
  have he := h.e
  obtain ⟨E, hE⟩ : ∃ E, E = msgErr2 0 m := ⟨_, rfl⟩
  rw [← hE] at he HP
  clear hE
  by_cases hE0 : E = 0
  rotate_left
  ·have q2 : (E != (0 : Int)) = true := by rw [bne_iff_ne]; exact hE0
   have HE := Lib.hid hE0
   clear hE0
   go_upto_region 15 with fail
   refine wp_region_F [4] (looks [(4, fun z => z.cell? ⟨R, 1, none⟩ = some (.int .i64 E))]) (by kernel_rfl) ?_
   have hxd := Ext.drew no w9
   have he := hxd.keeps he (fun h => h)
   have hZ := hZ.ext (msg_ne _ _) hxd (fun h => h)
   replace hx := hx.comp hxd
   clear hxd z23 hp
   generalize w9.drew = wd at *
   have hT0 : ∀ k, looks [(4, fun z => z.cell? ⟨R, 1, none⟩ = some (.int .i64 E))] k (wd) := looks_all ⟨he, trivial⟩
   refine wpF_tk 0 (v := MsgR.zero.val MsgA.zero) rfl hT0 (by rfl) (fun wq => run_build0 rfl) ?_
   simp only [pz]
   refine wpF_tk 1 (v := ?_) rfl hT0 (by rfl) ?_ ?_
   rotate_left
   ·(intro wq; go_simp; try with_reducible rfl)
   simp only [pz]
   refine wpF_tk 2 (v := ?_) rfl hT0 (by rfl) ?_ ?_
   rotate_left
   ·(intro wq; go_simp; try with_reducible rfl)
   simp only [pz]
   refine wpF_tk 3 (v := ?_) rfl hT0 (by rfl) ?_ ?_
   rotate_left
   ·(intro wq; go_simp; try with_reducible rfl)
   simp only [pz]
   refine wpF_lk 4 (v := .int .i64 E) rfl hT0 (by rfl) (fun w hS => by have hS : w.cell? ⟨R, 1, none⟩ = some (.int .i64 E) := hS; go_simp) ?_
   simp only [pz]
   refine wpF_exec 5 rfl (by kernel_rfl) (by rfl) ?_
   intro K hK
   refine op_store_msg rfl (g := gq) (m := MsgR.zero) (h := MsgA.zero) (by rfl) (by rfl) hZ rfl (fun hF hxF => ?_)
   have hx4 := hx.trans hxF (fun i hi e => by have e : i = gq := e; omega)
   have he := hxF.keeps he (fun e => by have e : R = gq := e; omega)
   generalize wd.setCells gq 0 (MsgR.zero.cells MsgA.zero) = wz at *
   have hT1 : ∀ k, looks [(4, fun z => z.cell? ⟨R, 1, none⟩ = some (.int .i64 E))] k (wz) := looks_all ⟨he, trivial⟩
   refine hK _ _ (looks [(4, fun z => z.cell? ⟨R, 1, none⟩ = some (.int .i64 E))]) ⟨.inr (.inr (fun x h => h)), trivial⟩ hT1 ?_
   clear hK K
   try simp only [pz]
   refine wpF_tk 6 (v := ?_) rfl hT1 (by rfl) ?_ ?_
   rotate_left
   ·(intro wq; go_simp; try with_reducible rfl)
   simp only [pz]
   refine wpF_done (by kernel_rfl) ?_ _
   go_wp2_with fail
   refine bodyPost_ret (v := .tuple #[MsgR.zero.val MsgA.zero, .int .i64 E]) ?_ rfl (parseEnd_bad (by rw [HP.out]; exact HE.out) (by rw [HP.out]) hx4)
   exact parse_results rfl _ _ (by rfl) (by rfl) hF
  subst hE0
  go_upto_region 16 with fail
  refine wp_region_lit ?_
  refine wp_load_msg (m := m) (h := ka) rfl rfl (by rfl) hM ?_
  simp only [pz]
  refine wp_store_msg (m := m) (h := ka) rfl rfl (by rfl) (by rfl) hZ rfl (fun hF hxF => ?_)
  simp only [pz]
  replace hx := hx.trans hxF (fun i hi e => by have e : i = gq := e; omega)
  replace hKx := hKx.comp (hxF.mono (fun _ _ e => .inr e))
  generalize w9.setCells gq 0 (m.cells ka) = wz at *
  have hsz := hKx.size
  go_wp2_with fail
  refine bodyPost_ret (v := .tuple #[m.val ka, .int .i64 0]) ?_ rfl ⟨ka, by rw [HP.out, parseMsg_of HW.out HP.out], ?_, hx⟩
  ·exact parse_results rfl _ _ (by rfl) (by rfl) hF
  ·rw [parseMsg_of HW.out HP.out]
   intro S wy hy hS
   have hww := hx.size
   exact hKp (fun k => S k ∨ k = gm ∨ k = gq) wy ((hKx.mono (fun k _ e => .inr e)).comp (hy.mono (fun k _ e => .inl e))) (fun k hk => hk.elim (fun e => by have := hS k e; omega) (fun e => by rcases e with e | e <;> omega))
end Go.Proofs.YtddobhihjljcgaaGreat
