/- wire.Cmd, many, Bytes. -/
import Derived.Test.YtddobhihjljcgaaGreatWiCL
import Derived.Test.YtddobhihjljcgaaGreatMA
namespace Go.Proofs.YtddobhihjljcgaaGreat
open Go.RowKit Go.Esc
set_option linter.unusedVariables false
set_option linter.unusedSimpArgs false
theorem just_new {w w1 w2 : World} {g : Nat} (h1 : Ext no w w1) (h2 : Ext (just g) w1 w2) (hg : w.heap.size ≤ g) : Ext no w w2 := h1.trans h2 (fun k hk e => by have e : k = g := e; omega)
set_option maxRecDepth 100000 in
set_option maxHeartbeats 4000000 in
theorem many_any (w : World) (m : MsgR) (h : MsgA) :
  Calls Tryz.prog 43 #[m.val h] w fun e w' => e = .returned (.bool (manyM m)) ∧ Ext no w w' := by
 obtain ⟨V, hV⟩ : ∃ V, V = manyM m := ⟨_, rfl⟩
 rw [← hV]
 have HV := Lib.hid hV
 clear hV
 go_enter Tryz.func43, Tryz.ntmps43
 unfold MsgR.val
 go_upto_region 1 with fail
 have hC := Blk.lit w #[.int .i64 m.kind, .int .i64 m.dev, .int .i64 m.req, .int .i64 m.ver, .int .i64 m.pos, .int .i64 m.nxt, .slice h.b m.subs.length h.bc, .int .i64 m.err, .int .i64 m.cmd.kind, .int .i64 m.cmd.dev, .int .i64 m.cmd.ep, .int .i64 m.cmd.req, .int .i64 m.cmd.n, .slice h.c.w m.cmd.wants.length h.c.wc, .slice h.c.o m.cmd.ops.length h.c.oc, .int .i64 m.rep.err, .int .i64 m.rep.n, .int .i64 m.rep.dev, .int .i64 m.rep.ep, .int .i64 m.rep.til, .int .i64 m.rep.last, .slice h.r.s m.rep.slices.length h.r.sc, .slice h.r.i m.rep.ids.length h.r.ic, .slice h.r.u m.rep.used.length h.r.uc, .slice h.o m.ops.length h.oc] 36
 have hxa := Ext.alloc no w (.cells #[.int .i64 m.kind, .int .i64 m.dev, .int .i64 m.req, .int .i64 m.ver, .int .i64 m.pos, .int .i64 m.nxt, .slice h.b m.subs.length h.bc, .int .i64 m.err, .int .i64 m.cmd.kind, .int .i64 m.cmd.dev, .int .i64 m.cmd.ep, .int .i64 m.cmd.req, .int .i64 m.cmd.n, .slice h.c.w m.cmd.wants.length h.c.wc, .slice h.c.o m.cmd.ops.length h.c.oc, .int .i64 m.rep.err, .int .i64 m.rep.n, .int .i64 m.rep.dev, .int .i64 m.rep.ep, .int .i64 m.rep.til, .int .i64 m.rep.last, .slice h.r.s m.rep.slices.length h.r.sc, .slice h.r.i m.rep.ids.length h.r.ic, .slice h.r.u m.rep.used.length h.r.uc, .slice h.o m.ops.length h.oc] 36)
 generalize w.alloc (.cells #[.int .i64 m.kind, .int .i64 m.dev, .int .i64 m.req, .int .i64 m.ver, .int .i64 m.pos, .int .i64 m.nxt, .slice h.b m.subs.length h.bc, .int .i64 m.err, .int .i64 m.cmd.kind, .int .i64 m.cmd.dev, .int .i64 m.cmd.ep, .int .i64 m.cmd.req, .int .i64 m.cmd.n, .slice h.c.w m.cmd.wants.length h.c.wc, .slice h.c.o m.cmd.ops.length h.c.oc, .int .i64 m.rep.err, .int .i64 m.rep.n, .int .i64 m.rep.dev, .int .i64 m.rep.ep, .int .i64 m.rep.til, .int .i64 m.rep.last, .slice h.r.s m.rep.slices.length h.r.sc, .slice h.r.i m.rep.ids.length h.r.ic, .slice h.r.u m.rep.used.length h.r.uc, .slice h.o m.ops.length h.oc] 36) = w1 at *
 have z17 := hC.cell 17 _ rfl
 have z18 := hC.cell 18 _ rfl
 have z19 := hC.cell 19 _ rfl
 have z20 := hC.cell 20 _ rfl
 have z21 := hC.cell 21 _ rfl
 have z22 := hC.cell 22 _ rfl
 have z23 := hC.cell 23 _ rfl
 go_upto_region 2 with fail
 have hD := Blk.lit w1 #[.int .i64 m.rep.dev, .int .i64 m.rep.ep, .int .i64 m.rep.til, .int .i64 m.rep.last, .slice h.r.s m.rep.slices.length h.r.sc, .slice h.r.i m.rep.ids.length h.r.ic, .slice h.r.u m.rep.used.length h.r.uc] 32
 have hxb := Ext.alloc no w1 (.cells #[.int .i64 m.rep.dev, .int .i64 m.rep.ep, .int .i64 m.rep.til, .int .i64 m.rep.last, .slice h.r.s m.rep.slices.length h.r.sc, .slice h.r.i m.rep.ids.length h.r.ic, .slice h.r.u m.rep.used.length h.r.uc] 32)
 have hC2 := hC.ext (by simp) hxb (fun h => h)
 have hxx := hxa.comp hxb
 clear hC hxa hxb z17 z18 z19 z20 z21 z22 z23
 generalize w1.alloc (.cells #[.int .i64 m.rep.dev, .int .i64 m.rep.ep, .int .i64 m.rep.til, .int .i64 m.rep.last, .slice h.r.s m.rep.slices.length h.r.sc, .slice h.r.i m.rep.ids.length h.r.ic, .slice h.r.u m.rep.used.length h.r.uc] 32) = w2 at *
 have z0 := hC2.cell 0 _ rfl
 have z13 := hC2.cell 13 _ rfl
 have z14 := hC2.cell 14 _ rfl
 have z24 := hC2.cell 24 _ rfl
 have y4 := hD.cell 4 _ rfl
 have y5 := hD.cell 5 _ rfl
 have y6 := hD.cell 6 _ rfl
 have kT : ∀ k : Int, m.kind = k → (m.kind == k) = true := fun k e => by rw [beq_iff_eq]; exact e
 have kF : ∀ k : Int, m.kind ≠ k → (m.kind == k) = false := fun k e => by rw [beq_eq_false_iff_ne]; exact e
 have KT := Lib.hid kT
 have KF := Lib.hid kF
 clear kT kF
 by_cases h1 : m.kind = 1
 ·have t1 := KT.out 1 h1
  have HV' := Lib.hid (show V = decide (20 < m.cmd.wants.length ∨ 20 < m.cmd.ops.length) by rw [HV.out]; unfold manyM; rw [if_pos h1])
  clear h1
  by_cases g1 : 20 < m.cmd.wants.length
  ·have s1 : decide (20 < m.cmd.wants.length) = true := decT g1
   have s1' : decide ((20 : Int) < (m.cmd.wants.length : Int)) = true := decT (by omega)
   have HW := Lib.hid (show V = true by rw [HV'.out]; exact decT (.inl g1))
   clear g1
   go_wp2_with fail
   go_ret
   exact ⟨by rw [HW.out]; rfl, hxx⟩
  ·have s1 : decide (20 < m.cmd.wants.length) = false := decF g1
   have s1' : decide ((20 : Int) < (m.cmd.wants.length : Int)) = false := decF (by omega)
   have HW := Lib.hid (show V = decide ((20 : Int) < (m.cmd.ops.length : Int)) by rw [HV'.out]; exact decide_eq_decide.2 (by omega))
   clear g1
   go_wp2_with fail
   go_ret
   exact ⟨by rw [HW.out]; rfl, hxx⟩
 ·have t1 := KF.out 1 h1
  by_cases h2 : m.kind = 2
  ·have t2 := KT.out 2 h2
   have HV' := Lib.hid (show V = decide (20 < m.rep.slices.length ∨ 100 < m.rep.ids.length ∨ 100 < m.rep.used.length) by rw [HV.out]; unfold manyM; rw [if_neg h1, if_pos h2])
   clear h1 h2
   by_cases g1 : 20 < m.rep.slices.length
   ·have s1' : decide ((20 : Int) < (m.rep.slices.length : Int)) = true := decT (by omega)
    have HW := Lib.hid (show V = true by rw [HV'.out]; exact decT (.inl g1))
    clear g1
    go_wp2_with fail
    go_ret
    exact ⟨by rw [HW.out]; rfl, hxx⟩
   ·have s1' : decide ((20 : Int) < (m.rep.slices.length : Int)) = false := decF (by omega)
    by_cases g2 : 100 < m.rep.ids.length
    ·have s2' : decide ((100 : Int) < (m.rep.ids.length : Int)) = true := decT (by omega)
     have HW := Lib.hid (show V = true by rw [HV'.out]; exact decT (.inr (.inl g2)))
     clear g1 g2
     go_wp2_with fail
     go_ret
     exact ⟨by rw [HW.out]; rfl, hxx⟩
    ·have s2' : decide ((100 : Int) < (m.rep.ids.length : Int)) = false := decF (by omega)
     have HW := Lib.hid (show V = decide ((100 : Int) < (m.rep.used.length : Int)) by rw [HV'.out]; exact decide_eq_decide.2 (by omega))
     clear g1 g2
     go_wp2_with fail
     go_ret
     exact ⟨by rw [HW.out]; rfl, hxx⟩
  ·have t2 := KF.out 2 h2
   by_cases h4 : m.kind = 4
   ·have t4 := KT.out 4 h4
    have HW := Lib.hid (show V = decide ((20 : Int) < (m.ops.length : Int)) by rw [HV.out]; unfold manyM; rw [if_neg h1, if_neg h2, if_pos h4]; exact decide_eq_decide.2 (by omega))
    clear h1 h2 h4
    go_wp2_with fail
    go_ret
    exact ⟨by rw [HW.out]; rfl, hxx⟩
   ·have t4 := KF.out 4 h4
    have HW := Lib.hid (show V = false by rw [HV.out]; unfold manyM; rw [if_neg h1, if_neg h2, if_neg h4])
    clear h1 h2 h4
    go_wp2_with fail
    go_ret
    exact ⟨by rw [HW.out]; rfl, hxx⟩
def BytesEnd (w : World) (m : MsgR) (e : Ending) (w' : World) : Prop := ∃ a c, e = .returned (.tuple #[.slice a (bytesOf m).length c, .int .i64 (bytesErr m : Nat)]) ∧ Own w' w.heap.size a 1 (bytesOf m).length c (bs (bytesOf m)) ∧ Ext no w w'
theorem bytes_bad {m : MsgR} {w w' : World} {k : Nat} (h : bytesErr m = k) (hk : k ≠ 0) (hx : Ext no w w') {e : Ending} (he : e = .returned (.tuple #[.slice none 0 0, .int .i64 (k : Int)])) : BytesEnd w m e w' := by
 have hb : bytesOf m = [] := by unfold bytesOf; rw [if_neg (by rw [h]; exact hk)]
 refine ⟨none, 0, ?_, ?_, hx⟩
 ·rw [he, h, hb]; rfl
 ·rw [hb]; exact Own.nil _ _ _
theorem bytes_good {m : MsgR} {w w1 w' : World} {B : List UInt8} (h : bytesErr m = 0) (hB : B = bodyEnc m) {a : Option Addr} {c : Nat} (ho : Own w' w1.heap.size a 1 (frame B).length c (bs (frame B))) (h1 : w.heap.size ≤ w1.heap.size) (hx : Ext no w w') {e : Ending} (he : e = .returned (.tuple #[.slice a (frame B).length c, .int .i64 0])) : BytesEnd w m e w' := by
 have hb : bytesOf m = frame B := by unfold bytesOf; rw [if_pos h, hB]
 refine ⟨a, c, ?_, ?_, hx⟩
 ·rw [he, h, hb]; rfl
 ·rw [hb]; exact ho.mono h1
set_option maxRecDepth 100000 in
set_option maxHeartbeats 4000000 in
theorem wbytes_bad (w : World) (m : MsgR) (h : MsgA) (hin : m.In w h) (hok : m.ok) (hf : m.few2) (h0 : bytesErr m ≠ 0) :
  Calls Tryz.prog 14 #[m.val h] w (BytesEnd w m) := by
 have kT : ∀ k : Int, m.kind = k → (m.kind == k) = true := fun k e => by rw [beq_iff_eq]; exact e
 have kF : ∀ k : Int, m.kind ≠ k → (m.kind == k) = false := fun k e => by rw [beq_eq_false_iff_ne]; exact e
 have KT := Lib.hid kT
 have KF := Lib.hid kF
 clear kT kF
 have H0 := Lib.hid h0
 clear h0
 have hble := bodyEnc_le2 hok hf
 have hsub := hf.sub
 go_enter Tryz.func14, Tryz.ntmps14
 go_upto_region 0 with fail
 refine wp_region_lit ?_
 refine wp_box_msg rfl rfl (by rfl) (fun hC => ?_)
 simp only [pz]
 have hxa := Ext.alloc no w (.cells (m.cells h).toArray 36)
 have hi1 := hin.no hxa
 clear hin
 generalize w.alloc (.cells (m.cells h).toArray 36) = w1 at *
 obtain ⟨gm, hgm⟩ : ∃ gm, gm = w.heap.size := ⟨_, rfl⟩
 rw [← hgm] at hC ⊢
 have hgw : w.heap.size ≤ gm := by omega
 have hgl := hC.lt (msg_ne _ _)
 clear hgm
 have z0 := hC.cell 0 _ rfl
 have z1 := hC.cell 1 _ rfl
 have z2 := hC.cell 2 _ rfl
 have z3 := hC.cell 3 _ rfl
 have z4 := hC.cell 4 _ rfl
 have z5 := hC.cell 5 _ rfl
 have z6 := hC.cell 6 _ rfl
 have z7 := hC.cell 7 _ rfl
 have z8 := hC.cell 8 _ rfl
 have z9 := hC.cell 9 _ rfl
 have z10 := hC.cell 10 _ rfl
 have z11 := hC.cell 11 _ rfl
 have z12 := hC.cell 12 _ rfl
 have z13 := hC.cell 13 _ rfl
 have z14 := hC.cell 14 _ rfl
 have z15 := hC.cell 15 _ rfl
 have z16 := hC.cell 16 _ rfl
 have z17 := hC.cell 17 _ rfl
 have z18 := hC.cell 18 _ rfl
 have z19 := hC.cell 19 _ rfl
 have z20 := hC.cell 20 _ rfl
 have z21 := hC.cell 21 _ rfl
 have z22 := hC.cell 22 _ rfl
 have z23 := hC.cell 23 _ rfl
 have z24 := hC.cell 24 _ rfl
 by_cases hk : m.kind < 1 ∨ 5 < m.kind
 ·have HE := Lib.hid (show bytesErr m = 3 by unfold bytesErr; rw [if_pos hk])
  by_cases h1 : m.kind < 1
  ·have s1 : decide (m.kind < 1) = true := decT h1
   clear hk h1
   go_wp2_with fail
   go_ret2
   exact bytes_bad HE.out (by decide) hxa rfl
  ·have s1 : decide (m.kind < 1) = false := decF h1
   have s2 : decide (5 < m.kind) = true := decT (by omega)
   clear hk h1
   go_wp2_with fail
   go_ret2
   exact bytes_bad HE.out (by decide) hxa rfl
 ·have s1 : decide (m.kind < 1) = false := decF (by omega)
  have s2 : decide (5 < m.kind) = false := decF (by omega)
  by_cases hs : m.kind = 3 ∧ m.subs.length ≠ 3
  ·have HE := Lib.hid (show bytesErr m = 1 by unfold bytesErr; rw [if_neg hk, if_pos hs])
   have t3 := KT.out 3 hs.1
   have t4 : ((m.subs.length : Int) != 3) = true := by rw [bne_iff_ne]; have := hs.2; omega
   have t5 : (m.subs.length == 3) = false := by rw [beq_eq_false_iff_ne]; exact hs.2
   have t6 : ((m.subs.length : Int) == 3) = false := by rw [beq_eq_false_iff_ne]; have := hs.2; omega
   clear hk hs
   go_wp2_with fail
   go_ret2
   exact bytes_bad HE.out (by decide) hxa rfl
  ·have hmm : manyM m = true := by
    cases e : manyM m with
    | true => rfl
    | false => exact absurd (by unfold bytesErr; rw [if_neg hk, if_neg hs, if_neg (by rw [e]; simp)]) H0.out
   have HE := Lib.hid (show bytesErr m = 4 by unfold bytesErr; rw [if_neg hk, if_neg hs, if_pos hmm])
   by_cases h3 : m.kind = 3
   ·have t3 := KT.out 3 h3
    have h33 : m.subs.length = 3 := by
     by_cases e : m.subs.length = 3
     ·exact e
     ·exact absurd ⟨h3, e⟩ hs
    have t5 : (m.subs.length == 3) = true := by rw [beq_iff_eq]; exact h33
    have t6 : ((m.subs.length : Int) == 3) = true := by rw [beq_iff_eq]; omega
    clear h3 h33 hs hk H0
    go_upto_region 5 with fail
    refine wp_region_lit ?_
    refine wp_load_msg rfl rfl (by rfl) hC ?_
    simp only [pz]
    go_wp2_with fail
    refine (many_any w1 m h).mono ?_
    rintro e w2 ⟨rfl, hx2⟩
    rw [hmm]
    clear hmm
    go_wp2_with fail
    go_ret2
    exact bytes_bad HE.out (by decide) (hxa.comp hx2) rfl
   ·have t3 := KF.out 3 h3
    clear h3 hs hk H0
    go_upto_region 5 with fail
    refine wp_region_lit ?_
    refine wp_load_msg rfl rfl (by rfl) hC ?_
    simp only [pz]
    go_wp2_with fail
    refine (many_any w1 m h).mono ?_
    rintro e w2 ⟨rfl, hx2⟩
    rw [hmm]
    clear hmm
    go_wp2_with fail
    go_ret2
    exact bytes_bad HE.out (by decide) (hxa.comp hx2) rfl
set_option maxRecDepth 100000 in
set_option maxHeartbeats 4000000 in
theorem wbytes_1 (w : World) (m : MsgR) (h : MsgA) (hin : m.In w h) (hok : m.ok) (hf : m.few2) (h0 : bytesErr m = 0) (hk : m.kind = 1) :
  Calls Tryz.prog 14 #[m.val h] w (BytesEnd w m) := by
 have s1 : decide (m.kind < 1) = false := decF (by omega)
 have s2 : decide (5 < m.kind) = false := decF (by omega)
 have T1 := Lib.hid (show (m.kind == 1) = true by rw [beq_iff_eq]; omega)
 have T2 := Lib.hid (show (m.kind == 2) = false by rw [beq_eq_false_iff_ne]; omega)
 have T3 := Lib.hid (show (m.kind == 3) = false by rw [beq_eq_false_iff_ne]; omega)
 have T4 := Lib.hid (show (m.kind == 4) = false by rw [beq_eq_false_iff_ne]; omega)
 have T5 := Lib.hid (show (m.kind == 5) = false by rw [beq_eq_false_iff_ne]; omega)
 have t3 := T3.out
 have hmm : manyM m = false := by
  cases e : manyM m with
  | false => rfl
  | true =>
   unfold bytesErr at h0
   rw [if_neg (by omega)] at h0
   split at h0
   ·cases h0
   ·cases h0
 have Hb0 := Lib.hid (show bodyEnc m = encs [m.kind, m.dev] ++ (cmdEnc m.cmd) by unfold bodyEnc restEnc; rw [if_pos hk])
 have HE := Lib.hid h0
 have Hmm := Lib.hid hmm
 clear h0 hk hmm
 have hble := bodyEnc_le2 hok hf
 have hsub := hf.sub
 go_enter Tryz.func14, Tryz.ntmps14
 go_upto_region 0 with fail
 refine wp_region_lit ?_
 refine wp_box_msg rfl rfl (by rfl) (fun hC => ?_)
 simp only [pz]
 have hxa := Ext.alloc no w (.cells (m.cells h).toArray 36)
 have hi1 := hin.no hxa
 clear hin
 generalize w.alloc (.cells (m.cells h).toArray 36) = w1 at *
 obtain ⟨gm, hgm⟩ : ∃ gm, gm = w.heap.size := ⟨_, rfl⟩
 rw [← hgm] at hC ⊢
 have hgw : w.heap.size ≤ gm := by omega
 have hgl := hC.lt (msg_ne _ _)
 clear hgm
 have z0 := hC.cell 0 _ rfl
 have z1 := hC.cell 1 _ rfl
 have z2 := hC.cell 2 _ rfl
 have z3 := hC.cell 3 _ rfl
 have z4 := hC.cell 4 _ rfl
 have z5 := hC.cell 5 _ rfl
 have z6 := hC.cell 6 _ rfl
 have z7 := hC.cell 7 _ rfl
 have z8 := hC.cell 8 _ rfl
 have z9 := hC.cell 9 _ rfl
 have z10 := hC.cell 10 _ rfl
 have z11 := hC.cell 11 _ rfl
 have z12 := hC.cell 12 _ rfl
 have z13 := hC.cell 13 _ rfl
 have z14 := hC.cell 14 _ rfl
 have z15 := hC.cell 15 _ rfl
 have z16 := hC.cell 16 _ rfl
 have z17 := hC.cell 17 _ rfl
 have z18 := hC.cell 18 _ rfl
 have z19 := hC.cell 19 _ rfl
 have z20 := hC.cell 20 _ rfl
 have z21 := hC.cell 21 _ rfl
 have z22 := hC.cell 22 _ rfl
 have z23 := hC.cell 23 _ rfl
 have z24 := hC.cell 24 _ rfl
 go_upto_region 5 with fail
 refine wp_region_lit ?_
 refine wp_load_msg rfl rfl (by rfl) hC ?_
 simp only [pz]
 go_wp2_with fail
 refine (many_any w1 m h).mono ?_
 rintro e w2 ⟨rfl, hx2⟩
 rw [Hmm.out]
 have t1 := T1.out
 have t2 := T2.out
 have t4 := T4.out
 have t5 := T5.out
 have hi2 := hi1.no hx2
 have hC2 := hC.ext (msg_ne _ _) hx2 (fun h => h)
 have hxx := hxa.comp hx2
 have hsz := hx2.size
 clear hi1 hC hx2 hxa Hmm T1 T2 T3 T4 T5
 clear z0 z1 z2 z3 z4 z5 z6 z7 z8 z9 z10 z11 z12 z13 z14 z15 z16 z17 z18 z19 z20 z21 z22 z23 z24
 go_upto_region 8 with fail
 have hw3 := Wtr.new 95 w2
 have hxb := Ext.alloc no w2 (.cells #[.slice none 0 0] 95)
 have hC3 := hC2.ext (msg_ne _ _) hxb (fun h => h)
 have hi3 := hi2.no hxb
 have hx3 := hxx.comp hxb
 clear hC2 hi2 hxb
 generalize w2.alloc (.cells #[.slice none 0 0] 95) = w3 at *
 obtain ⟨g, hg⟩ : ∃ g, g = w2.heap.size := ⟨_, rfl⟩
 rw [← hg] at hw3 ⊢
 have hgw2 : w.heap.size ≤ g := by have := hxx.size; omega
 have hgne : gm ≠ g := by omega
 clear hg hxx
 have y0 := hC3.cell 0 _ rfl
 have y1 := hC3.cell 1 _ rfl
 go_wp2_with fail
 have hxq := Ext.alloc no w3 (.cells #[.int .i64 m.kind, .int .i64 m.dev] 3)
 refine (wints_any (w3.alloc (.cells #[.int .i64 m.kind, .int .i64 m.dev] 3)) g (some ⟨w3.heap.size, 0, none⟩) 2 [] [(m.kind : Int), (m.dev : Int)] (hw3.on hxq) (by simp) (Rd.lit w3 #[.int .i64 m.kind, .int .i64 m.dev] 3 (0, 0)) (by simp) (by simp [hok.kind, hok.dev])).mono ?_
 rintro e w4 ⟨rfl, hw4, hx4⟩
 have hxj := (hxq.mono (S' := just g) (fun _ _ h => absurd h (fun h => h))).comp hx4
 have hC4 := Wtr.blk hxj hC3 (msg_ne _ _) (hgne)
 have hi4 := hw3.msg hxj hi3
 have hE4 := just_new hx3 hxj hgw2
 clear hxq hx4 hxj hw3 hC3 hi3 hx3
 rw [List.nil_append] at hw4
 clear y0 y1
 obtain ⟨l1, hl1⟩ : ∃ l1, l1 = encs [m.kind, m.dev] := ⟨_, rfl⟩
 rw [← hl1] at hw4
 have hl1l : l1.length ≤ 20 := by rw [hl1]; exact encs_le (l := [m.kind, m.dev]) (by simp [hok.kind, hok.dev])
 have Hl1 := Lib.hid hl1
 clear hl1
 have z0 := hC4.cell 0 _ rfl
 have z1 := hC4.cell 1 _ rfl
 have z2 := hC4.cell 2 _ rfl
 have z3 := hC4.cell 3 _ rfl
 have z4 := hC4.cell 4 _ rfl
 have z5 := hC4.cell 5 _ rfl
 have z6 := hC4.cell 6 _ rfl
 have z7 := hC4.cell 7 _ rfl
 have z8 := hC4.cell 8 _ rfl
 have z9 := hC4.cell 9 _ rfl
 have z10 := hC4.cell 10 _ rfl
 have z11 := hC4.cell 11 _ rfl
 have z12 := hC4.cell 12 _ rfl
 have z13 := hC4.cell 13 _ rfl
 have z14 := hC4.cell 14 _ rfl
 have z15 := hC4.cell 15 _ rfl
 have z16 := hC4.cell 16 _ rfl
 have z17 := hC4.cell 17 _ rfl
 have z18 := hC4.cell 18 _ rfl
 have z19 := hC4.cell 19 _ rfl
 have z20 := hC4.cell 20 _ rfl
 have z21 := hC4.cell 21 _ rfl
 have z22 := hC4.cell 22 _ rfl
 have z23 := hC4.cell 23 _ rfl
 have z24 := hC4.cell 24 _ rfl
 have Hb := Lib.hid (show bodyEnc m = l1 ++ (cmdEnc m.cmd) by rw [Hb0.out, Hl1.out])
 clear Hb0
 go_wp2_with fail
 refine (wcmd_any w4 g m.cmd h.c l1 hw4 (by omega) hi4.c hok.cmd hf.cmd).mono ?_
 rintro e w5 ⟨rfl, hw5, hx5⟩
 clear z0 z1 z2 z3 z4 z5 z6 z7 z8 z9 z10 z11 z12 z13 z14 z15 z16 z17 z18 z19 z20 z21 z22 z23 z24
 obtain ⟨B, hB⟩ : ∃ B, B = (l1 ++ cmdEnc m.cmd) := ⟨_, rfl⟩
 rw [← hB] at hw5
 have HB := Lib.hid (show B = bodyEnc m from hB.trans (Hb.out.symm))
 have hBl : B.length ≤ 2800000 := by rw [HB.out]; omega
 clear hB
 obtain ⟨af, cf, k0, _, hrf⟩ := hw5.open
 go_wp2_with fail
 refine (fframe_any _ af cf B hrf (by omega)).mono ?_
 rintro e w9 ⟨a9, c9, rfl, ho9, hx9⟩
 go_wp2_with fail
 go_ret2
 exact bytes_good HE.out HB.out ho9 (just_new hE4 hx5 hgw2).size ((just_new hE4 hx5 hgw2).comp hx9) rfl
set_option maxRecDepth 100000 in
set_option maxHeartbeats 4000000 in
theorem wbytes_2 (w : World) (m : MsgR) (h : MsgA) (hin : m.In w h) (hok : m.ok) (hf : m.few2) (h0 : bytesErr m = 0) (hk : m.kind = 2) :
  Calls Tryz.prog 14 #[m.val h] w (BytesEnd w m) := by
 have s1 : decide (m.kind < 1) = false := decF (by omega)
 have s2 : decide (5 < m.kind) = false := decF (by omega)
 have T1 := Lib.hid (show (m.kind == 1) = false by rw [beq_eq_false_iff_ne]; omega)
 have T2 := Lib.hid (show (m.kind == 2) = true by rw [beq_iff_eq]; omega)
 have T3 := Lib.hid (show (m.kind == 3) = false by rw [beq_eq_false_iff_ne]; omega)
 have T4 := Lib.hid (show (m.kind == 4) = false by rw [beq_eq_false_iff_ne]; omega)
 have T5 := Lib.hid (show (m.kind == 5) = false by rw [beq_eq_false_iff_ne]; omega)
 have t3 := T3.out
 have hmm : manyM m = false := by
  cases e : manyM m with
  | false => rfl
  | true =>
   unfold bytesErr at h0
   rw [if_neg (by omega)] at h0
   split at h0
   ·cases h0
   ·cases h0
 have Hb0 := Lib.hid (show bodyEnc m = encs [m.kind, m.dev] ++ (encs [m.req, m.pos] ++ replyEnc m.rep) by unfold bodyEnc restEnc; rw [if_neg (by omega), if_pos hk])
 have HE := Lib.hid h0
 have Hmm := Lib.hid hmm
 clear h0 hk hmm
 have hble := bodyEnc_le2 hok hf
 have hsub := hf.sub
 go_enter Tryz.func14, Tryz.ntmps14
 go_upto_region 0 with fail
 refine wp_region_lit ?_
 refine wp_box_msg rfl rfl (by rfl) (fun hC => ?_)
 simp only [pz]
 have hxa := Ext.alloc no w (.cells (m.cells h).toArray 36)
 have hi1 := hin.no hxa
 clear hin
 generalize w.alloc (.cells (m.cells h).toArray 36) = w1 at *
 obtain ⟨gm, hgm⟩ : ∃ gm, gm = w.heap.size := ⟨_, rfl⟩
 rw [← hgm] at hC ⊢
 have hgw : w.heap.size ≤ gm := by omega
 have hgl := hC.lt (msg_ne _ _)
 clear hgm
 have z0 := hC.cell 0 _ rfl
 have z1 := hC.cell 1 _ rfl
 have z2 := hC.cell 2 _ rfl
 have z3 := hC.cell 3 _ rfl
 have z4 := hC.cell 4 _ rfl
 have z5 := hC.cell 5 _ rfl
 have z6 := hC.cell 6 _ rfl
 have z7 := hC.cell 7 _ rfl
 have z8 := hC.cell 8 _ rfl
 have z9 := hC.cell 9 _ rfl
 have z10 := hC.cell 10 _ rfl
 have z11 := hC.cell 11 _ rfl
 have z12 := hC.cell 12 _ rfl
 have z13 := hC.cell 13 _ rfl
 have z14 := hC.cell 14 _ rfl
 have z15 := hC.cell 15 _ rfl
 have z16 := hC.cell 16 _ rfl
 have z17 := hC.cell 17 _ rfl
 have z18 := hC.cell 18 _ rfl
 have z19 := hC.cell 19 _ rfl
 have z20 := hC.cell 20 _ rfl
 have z21 := hC.cell 21 _ rfl
 have z22 := hC.cell 22 _ rfl
 have z23 := hC.cell 23 _ rfl
 have z24 := hC.cell 24 _ rfl
 go_upto_region 5 with fail
 refine wp_region_lit ?_
 refine wp_load_msg rfl rfl (by rfl) hC ?_
 simp only [pz]
 go_wp2_with fail
 refine (many_any w1 m h).mono ?_
 rintro e w2 ⟨rfl, hx2⟩
 rw [Hmm.out]
 have t1 := T1.out
 have t2 := T2.out
 have t4 := T4.out
 have t5 := T5.out
 have hi2 := hi1.no hx2
 have hC2 := hC.ext (msg_ne _ _) hx2 (fun h => h)
 have hxx := hxa.comp hx2
 have hsz := hx2.size
 clear hi1 hC hx2 hxa Hmm T1 T2 T3 T4 T5
 clear z0 z1 z2 z3 z4 z5 z6 z7 z8 z9 z10 z11 z12 z13 z14 z15 z16 z17 z18 z19 z20 z21 z22 z23 z24
 go_upto_region 8 with fail
 have hw3 := Wtr.new 95 w2
 have hxb := Ext.alloc no w2 (.cells #[.slice none 0 0] 95)
 have hC3 := hC2.ext (msg_ne _ _) hxb (fun h => h)
 have hi3 := hi2.no hxb
 have hx3 := hxx.comp hxb
 clear hC2 hi2 hxb
 generalize w2.alloc (.cells #[.slice none 0 0] 95) = w3 at *
 obtain ⟨g, hg⟩ : ∃ g, g = w2.heap.size := ⟨_, rfl⟩
 rw [← hg] at hw3 ⊢
 have hgw2 : w.heap.size ≤ g := by have := hxx.size; omega
 have hgne : gm ≠ g := by omega
 clear hg hxx
 have y0 := hC3.cell 0 _ rfl
 have y1 := hC3.cell 1 _ rfl
 go_wp2_with fail
 have hxq := Ext.alloc no w3 (.cells #[.int .i64 m.kind, .int .i64 m.dev] 3)
 refine (wints_any (w3.alloc (.cells #[.int .i64 m.kind, .int .i64 m.dev] 3)) g (some ⟨w3.heap.size, 0, none⟩) 2 [] [(m.kind : Int), (m.dev : Int)] (hw3.on hxq) (by simp) (Rd.lit w3 #[.int .i64 m.kind, .int .i64 m.dev] 3 (0, 0)) (by simp) (by simp [hok.kind, hok.dev])).mono ?_
 rintro e w4 ⟨rfl, hw4, hx4⟩
 have hxj := (hxq.mono (S' := just g) (fun _ _ h => absurd h (fun h => h))).comp hx4
 have hC4 := Wtr.blk hxj hC3 (msg_ne _ _) (hgne)
 have hi4 := hw3.msg hxj hi3
 have hE4 := just_new hx3 hxj hgw2
 clear hxq hx4 hxj hw3 hC3 hi3 hx3
 rw [List.nil_append] at hw4
 clear y0 y1
 obtain ⟨l1, hl1⟩ : ∃ l1, l1 = encs [m.kind, m.dev] := ⟨_, rfl⟩
 rw [← hl1] at hw4
 have hl1l : l1.length ≤ 20 := by rw [hl1]; exact encs_le (l := [m.kind, m.dev]) (by simp [hok.kind, hok.dev])
 have Hl1 := Lib.hid hl1
 clear hl1
 have z0 := hC4.cell 0 _ rfl
 have z1 := hC4.cell 1 _ rfl
 have z2 := hC4.cell 2 _ rfl
 have z3 := hC4.cell 3 _ rfl
 have z4 := hC4.cell 4 _ rfl
 have z5 := hC4.cell 5 _ rfl
 have z6 := hC4.cell 6 _ rfl
 have z7 := hC4.cell 7 _ rfl
 have z8 := hC4.cell 8 _ rfl
 have z9 := hC4.cell 9 _ rfl
 have z10 := hC4.cell 10 _ rfl
 have z11 := hC4.cell 11 _ rfl
 have z12 := hC4.cell 12 _ rfl
 have z13 := hC4.cell 13 _ rfl
 have z14 := hC4.cell 14 _ rfl
 have z15 := hC4.cell 15 _ rfl
 have z16 := hC4.cell 16 _ rfl
 have z17 := hC4.cell 17 _ rfl
 have z18 := hC4.cell 18 _ rfl
 have z19 := hC4.cell 19 _ rfl
 have z20 := hC4.cell 20 _ rfl
 have z21 := hC4.cell 21 _ rfl
 have z22 := hC4.cell 22 _ rfl
 have z23 := hC4.cell 23 _ rfl
 have z24 := hC4.cell 24 _ rfl
 have Hb := Lib.hid (show bodyEnc m = l1 ++ (encs [m.req, m.pos] ++ replyEnc m.rep) by rw [Hb0.out, Hl1.out])
 clear Hb0
 go_wp2_with fail
 have hxq := Ext.alloc no w4 (.cells #[.int .i64 m.req, .int .i64 m.pos] 3)
 refine (wints_any (w4.alloc (.cells #[.int .i64 m.req, .int .i64 m.pos] 3)) g (some ⟨w4.heap.size, 0, none⟩) 2 l1 [(m.req : Int), (m.pos : Int)] (hw4.on hxq) (by omega) (Rd.lit w4 #[.int .i64 m.req, .int .i64 m.pos] 3 (0, 0)) (by simp) (by simp [hok.req, hok.pos])).mono ?_
 rintro e w5 ⟨rfl, hw5, hx5⟩
 have hxj := (hxq.mono (S' := just g) (fun _ _ h => absurd h (fun h => h))).comp hx5
 have hC5 := Wtr.blk hxj hC4 (msg_ne _ _) (hgne)
 have hi5 := hw4.msg hxj hi4
 have hE5 := just_new hE4 hxj hgw2
 clear hxq hx5 hxj hw4 hC4 hi4 hE4
 clear z0 z1 z2 z3 z4 z5 z6 z7 z8 z9 z10 z11 z12 z13 z14 z15 z16 z17 z18 z19 z20 z21 z22 z23 z24
 have hl2 : (l1 ++ encs [m.req, m.pos]).length ≤ 60 := by rw [List.length_append]; have := encs_le (l := [m.req, m.pos]) (by simp [hok.req, hok.pos]); simp only [List.length_cons, List.length_nil] at this; omega
 obtain ⟨l2, hl2e⟩ : ∃ l2, l2 = l1 ++ encs [m.req, m.pos] := ⟨_, rfl⟩
 rw [← hl2e] at hw5 hl2
 have Hl2 := Lib.hid hl2e
 clear hl2e
 have z15 := hC5.cell 15 _ rfl
 have z16 := hC5.cell 16 _ rfl
 have z17 := hC5.cell 17 _ rfl
 have z18 := hC5.cell 18 _ rfl
 have z19 := hC5.cell 19 _ rfl
 have z20 := hC5.cell 20 _ rfl
 have z21 := hC5.cell 21 _ rfl
 have z22 := hC5.cell 22 _ rfl
 have z23 := hC5.cell 23 _ rfl
 go_wp2_with fail
 refine (wreply_any w5 g m.rep h.r l2 hw5 (by omega) hi5.r hok.rep hf.rep).mono ?_
 rintro e w6 ⟨rfl, hw6, hx6⟩
 clear z15 z16 z17 z18 z19 z20 z21 z22 z23
 obtain ⟨B, hB⟩ : ∃ B, B = (l2 ++ replyEnc m.rep) := ⟨_, rfl⟩
 rw [← hB] at hw6
 have HB := Lib.hid (show B = bodyEnc m from hB.trans (by rw [Hl2.out, Hb.out, List.append_assoc]))
 have hBl : B.length ≤ 2800000 := by rw [HB.out]; omega
 clear hB
 obtain ⟨af, cf, k0, _, hrf⟩ := hw6.open
 go_wp2_with fail
 refine (fframe_any _ af cf B hrf (by omega)).mono ?_
 rintro e w9 ⟨a9, c9, rfl, ho9, hx9⟩
 go_wp2_with fail
 go_ret2
 exact bytes_good HE.out HB.out ho9 (just_new hE5 hx6 hgw2).size ((just_new hE5 hx6 hgw2).comp hx9) rfl
set_option maxRecDepth 100000 in
set_option maxHeartbeats 4000000 in
theorem wbytes_3 (w : World) (m : MsgR) (h : MsgA) (hin : m.In w h) (hok : m.ok) (hf : m.few2) (h0 : bytesErr m = 0) (hk : m.kind = 3) :
  Calls Tryz.prog 14 #[m.val h] w (BytesEnd w m) := by
 have s1 : decide (m.kind < 1) = false := decF (by omega)
 have s2 : decide (5 < m.kind) = false := decF (by omega)
 have T1 := Lib.hid (show (m.kind == 1) = false by rw [beq_eq_false_iff_ne]; omega)
 have T2 := Lib.hid (show (m.kind == 2) = false by rw [beq_eq_false_iff_ne]; omega)
 have T3 := Lib.hid (show (m.kind == 3) = true by rw [beq_iff_eq]; omega)
 have T4 := Lib.hid (show (m.kind == 4) = false by rw [beq_eq_false_iff_ne]; omega)
 have T5 := Lib.hid (show (m.kind == 5) = false by rw [beq_eq_false_iff_ne]; omega)
 have t3 := T3.out
 have hmm : manyM m = false := by
  cases e : manyM m with
  | false => rfl
  | true =>
   unfold bytesErr at h0
   rw [if_neg (by omega)] at h0
   split at h0
   ·cases h0
   ·cases h0
 have h33 : m.subs.length = 3 := by
  by_cases e : m.subs.length = 3
  ·exact e
  ·unfold bytesErr at h0; rw [if_neg (by omega), if_pos ⟨hk, e⟩] at h0; cases h0
 have q5 : (m.subs.length == 3) = true := by rw [beq_iff_eq]; exact h33
 have q6 : ((m.subs.length : Int) == 3) = true := by rw [beq_iff_eq]; omega
 clear h33
 have Hb0 := Lib.hid (show bodyEnc m = encs [m.kind, m.dev] ++ (encs [m.ver, m.pos] ++ encs (m.subs.map bit1)) by unfold bodyEnc restEnc; rw [if_neg (by omega), if_neg (by omega), if_pos hk])
 have HE := Lib.hid h0
 have Hmm := Lib.hid hmm
 clear h0 hk hmm
 have hble := bodyEnc_le2 hok hf
 have hsub := hf.sub
 go_enter Tryz.func14, Tryz.ntmps14
 go_upto_region 0 with fail
 refine wp_region_lit ?_
 refine wp_box_msg rfl rfl (by rfl) (fun hC => ?_)
 simp only [pz]
 have hxa := Ext.alloc no w (.cells (m.cells h).toArray 36)
 have hi1 := hin.no hxa
 clear hin
 generalize w.alloc (.cells (m.cells h).toArray 36) = w1 at *
 obtain ⟨gm, hgm⟩ : ∃ gm, gm = w.heap.size := ⟨_, rfl⟩
 rw [← hgm] at hC ⊢
 have hgw : w.heap.size ≤ gm := by omega
 have hgl := hC.lt (msg_ne _ _)
 clear hgm
 have z0 := hC.cell 0 _ rfl
 have z1 := hC.cell 1 _ rfl
 have z2 := hC.cell 2 _ rfl
 have z3 := hC.cell 3 _ rfl
 have z4 := hC.cell 4 _ rfl
 have z5 := hC.cell 5 _ rfl
 have z6 := hC.cell 6 _ rfl
 have z7 := hC.cell 7 _ rfl
 have z8 := hC.cell 8 _ rfl
 have z9 := hC.cell 9 _ rfl
 have z10 := hC.cell 10 _ rfl
 have z11 := hC.cell 11 _ rfl
 have z12 := hC.cell 12 _ rfl
 have z13 := hC.cell 13 _ rfl
 have z14 := hC.cell 14 _ rfl
 have z15 := hC.cell 15 _ rfl
 have z16 := hC.cell 16 _ rfl
 have z17 := hC.cell 17 _ rfl
 have z18 := hC.cell 18 _ rfl
 have z19 := hC.cell 19 _ rfl
 have z20 := hC.cell 20 _ rfl
 have z21 := hC.cell 21 _ rfl
 have z22 := hC.cell 22 _ rfl
 have z23 := hC.cell 23 _ rfl
 have z24 := hC.cell 24 _ rfl
 go_upto_region 5 with fail
 refine wp_region_lit ?_
 refine wp_load_msg rfl rfl (by rfl) hC ?_
 simp only [pz]
 go_wp2_with fail
 refine (many_any w1 m h).mono ?_
 rintro e w2 ⟨rfl, hx2⟩
 rw [Hmm.out]
 have t1 := T1.out
 have t2 := T2.out
 have t4 := T4.out
 have t5 := T5.out
 have hi2 := hi1.no hx2
 have hC2 := hC.ext (msg_ne _ _) hx2 (fun h => h)
 have hxx := hxa.comp hx2
 have hsz := hx2.size
 clear hi1 hC hx2 hxa Hmm T1 T2 T3 T4 T5
 clear z0 z1 z2 z3 z4 z5 z6 z7 z8 z9 z10 z11 z12 z13 z14 z15 z16 z17 z18 z19 z20 z21 z22 z23 z24
 go_upto_region 8 with fail
 have hw3 := Wtr.new 95 w2
 have hxb := Ext.alloc no w2 (.cells #[.slice none 0 0] 95)
 have hC3 := hC2.ext (msg_ne _ _) hxb (fun h => h)
 have hi3 := hi2.no hxb
 have hx3 := hxx.comp hxb
 clear hC2 hi2 hxb
 generalize w2.alloc (.cells #[.slice none 0 0] 95) = w3 at *
 obtain ⟨g, hg⟩ : ∃ g, g = w2.heap.size := ⟨_, rfl⟩
 rw [← hg] at hw3 ⊢
 have hgw2 : w.heap.size ≤ g := by have := hxx.size; omega
 have hgne : gm ≠ g := by omega
 clear hg hxx
 have y0 := hC3.cell 0 _ rfl
 have y1 := hC3.cell 1 _ rfl
 go_wp2_with fail
 have hxq := Ext.alloc no w3 (.cells #[.int .i64 m.kind, .int .i64 m.dev] 3)
 refine (wints_any (w3.alloc (.cells #[.int .i64 m.kind, .int .i64 m.dev] 3)) g (some ⟨w3.heap.size, 0, none⟩) 2 [] [(m.kind : Int), (m.dev : Int)] (hw3.on hxq) (by simp) (Rd.lit w3 #[.int .i64 m.kind, .int .i64 m.dev] 3 (0, 0)) (by simp) (by simp [hok.kind, hok.dev])).mono ?_
 rintro e w4 ⟨rfl, hw4, hx4⟩
 have hxj := (hxq.mono (S' := just g) (fun _ _ h => absurd h (fun h => h))).comp hx4
 have hC4 := Wtr.blk hxj hC3 (msg_ne _ _) (hgne)
 have hi4 := hw3.msg hxj hi3
 have hE4 := just_new hx3 hxj hgw2
 clear hxq hx4 hxj hw3 hC3 hi3 hx3
 rw [List.nil_append] at hw4
 clear y0 y1
 obtain ⟨l1, hl1⟩ : ∃ l1, l1 = encs [m.kind, m.dev] := ⟨_, rfl⟩
 rw [← hl1] at hw4
 have hl1l : l1.length ≤ 20 := by rw [hl1]; exact encs_le (l := [m.kind, m.dev]) (by simp [hok.kind, hok.dev])
 have Hl1 := Lib.hid hl1
 clear hl1
 have z0 := hC4.cell 0 _ rfl
 have z1 := hC4.cell 1 _ rfl
 have z2 := hC4.cell 2 _ rfl
 have z3 := hC4.cell 3 _ rfl
 have z4 := hC4.cell 4 _ rfl
 have z5 := hC4.cell 5 _ rfl
 have z6 := hC4.cell 6 _ rfl
 have z7 := hC4.cell 7 _ rfl
 have z8 := hC4.cell 8 _ rfl
 have z9 := hC4.cell 9 _ rfl
 have z10 := hC4.cell 10 _ rfl
 have z11 := hC4.cell 11 _ rfl
 have z12 := hC4.cell 12 _ rfl
 have z13 := hC4.cell 13 _ rfl
 have z14 := hC4.cell 14 _ rfl
 have z15 := hC4.cell 15 _ rfl
 have z16 := hC4.cell 16 _ rfl
 have z17 := hC4.cell 17 _ rfl
 have z18 := hC4.cell 18 _ rfl
 have z19 := hC4.cell 19 _ rfl
 have z20 := hC4.cell 20 _ rfl
 have z21 := hC4.cell 21 _ rfl
 have z22 := hC4.cell 22 _ rfl
 have z23 := hC4.cell 23 _ rfl
 have z24 := hC4.cell 24 _ rfl
 have Hb := Lib.hid (show bodyEnc m = l1 ++ (encs [m.ver, m.pos] ++ encs (m.subs.map bit1)) by rw [Hb0.out, Hl1.out])
 clear Hb0
 go_wp2_with fail
 have hxq := Ext.alloc no w4 (.cells #[.int .i64 m.ver, .int .i64 m.pos] 3)
 refine (wints_any (w4.alloc (.cells #[.int .i64 m.ver, .int .i64 m.pos] 3)) g (some ⟨w4.heap.size, 0, none⟩) 2 l1 [(m.ver : Int), (m.pos : Int)] (hw4.on hxq) (by omega) (Rd.lit w4 #[.int .i64 m.ver, .int .i64 m.pos] 3 (0, 0)) (by simp) (by simp [hok.ver, hok.pos])).mono ?_
 rintro e w5 ⟨rfl, hw5, hx5⟩
 have hxj := (hxq.mono (S' := just g) (fun _ _ h => absurd h (fun h => h))).comp hx5
 have hC5 := Wtr.blk hxj hC4 (msg_ne _ _) (hgne)
 have hi5 := hw4.msg hxj hi4
 have hE5 := just_new hE4 hxj hgw2
 clear hxq hx5 hxj hw4 hC4 hi4 hE4
 clear z0 z1 z2 z3 z4 z5 z6 z7 z8 z9 z10 z11 z12 z13 z14 z15 z16 z17 z18 z19 z20 z21 z22 z23 z24
 have hl2 : (l1 ++ encs [m.ver, m.pos]).length ≤ 60 := by rw [List.length_append]; have := encs_le (l := [m.ver, m.pos]) (by simp [hok.ver, hok.pos]); simp only [List.length_cons, List.length_nil] at this; omega
 obtain ⟨l2, hl2e⟩ : ∃ l2, l2 = l1 ++ encs [m.ver, m.pos] := ⟨_, rfl⟩
 rw [← hl2e] at hw5 hl2
 have Hl2 := Lib.hid hl2e
 clear hl2e
 have z6 := hC5.cell 6 _ rfl
 go_wp2_with fail
 clear z6
 have hrb := hi5.b
 go_loopw [72] (fun s wr => ∃ j : Nat, s = .int .i64 j ∧ j ≤ m.subs.length ∧ Wtr 95 wr g (l2 ++ encs ((m.subs.take j).map bit1)) ∧ Ext (just g) w5 wr) (fun s _ => m.subs.length - (intOf s).toNat)
 case atStart => exact ⟨0, rfl, Nat.zero_le _, by simpa [encs] using hw5, Ext.refl _ _⟩
 case round =>
  obtain ⟨j, rfl, hj, hwr, hx⟩ := hrel
  have hrr := hw5.keeps hx hrb (plain_bls _)
  obtain ⟨M, hM⟩ : ∃ M, M = l2 ++ encs ((m.subs.take j).map bit1) := ⟨_, rfl⟩
  rw [← hM] at hwr
  have hMl : M.length ≤ 1000 := by
   rw [hM, List.length_append]
   have := encs_le (l := (m.subs.take j).map bit1) (by intro n hn; obtain ⟨b, _, rfl⟩ := List.mem_map.1 hn; exact bit1_ok b)
   rw [List.length_map, List.length_take] at this
   omega
  have HM := Lib.hid hM
  clear hM
  by_cases hjl : j < m.subs.length
  ·have d1 : decide (j < m.subs.length) = true := decT hjl
   obtain ⟨x, hxm⟩ : ∃ x, m.subs[j]? = some x := ⟨_, List.getElem?_eq_getElem hjl⟩
   obtain ⟨ad, hsb, _⟩ := hrr.ne (by simp; omega)
   have q0 : wr.cell? (ad.add j) = some (.bool x) := by rw [hsb] at hrr; exact hrr.get (j := j) (v := .bool x) (by simp [bls, hxm])
   rw [hsb]
   have Hn := Lib.hid (show l2 ++ encs ((m.subs.take (j + 1)).map bit1) = M ++ encs [bit1 x] by rw [List.take_add_one, hxm, List.map_append, encs_app, HM.out, List.append_assoc]; rfl)
   clear HM hsb hxm
   cases x with
   | true =>
    go_wp2_with fail
    have hxq := Ext.alloc no wr (.cells #[.int .i64 1] 3)
    refine (wints_any (wr.alloc (.cells #[.int .i64 1] 3)) g (some ⟨wr.heap.size, 0, none⟩) 1 M [(1 : Int)] (hwr.on hxq) (by omega) (Rd.lit wr #[.int .i64 1] 3 (0, 0)) (by simp) (by intro n hn; simp at hn; subst hn; unfold I64ok; omega)).mono ?_
    rintro e w6 ⟨rfl, hw6, hx6⟩
    have hxj := (hxq.mono (S' := just g) (fun _ _ h => absurd h (fun h => h))).comp hx6
    have hx6a := hx.comp hxj
    clear hxq hx6 hxj hwr hx
    go_wp2_with fail
    go_roundw
    case rel => exact ⟨j + 1, by go_num, by omega, hw6.cast (by rw [Hn.out]; rfl), hx6a⟩
    case measure => simp [intOf]; omega
   | false =>
    go_wp2_with fail
    have hxq := Ext.alloc no wr (.cells #[.int .i64 0] 3)
    refine (wints_any (wr.alloc (.cells #[.int .i64 0] 3)) g (some ⟨wr.heap.size, 0, none⟩) 1 M [(0 : Int)] (hwr.on hxq) (by omega) (Rd.lit wr #[.int .i64 0] 3 (0, 0)) (by simp) (by intro n hn; simp at hn; subst hn; unfold I64ok; omega)).mono ?_
    rintro e w6 ⟨rfl, hw6, hx6⟩
    have hxj := (hxq.mono (S' := just g) (fun _ _ h => absurd h (fun h => h))).comp hx6
    have hx6a := hx.comp hxj
    clear hxq hx6 hxj hwr hx
    go_wp2_with fail
    go_roundw
    case rel => exact ⟨j + 1, by go_num, by omega, hw6.cast (by rw [Hn.out]; rfl), hx6a⟩
    case measure => simp [intOf]; omega
  ·have d1 : decide (j < m.subs.length) = false := decF hjl
   have HEE := Lib.hid (show M = l2 ++ encs (m.subs.map bit1) by rw [HM.out, List.take_of_length_le (by omega)])
   obtain ⟨B, hB⟩ : ∃ B, B = M := ⟨_, rfl⟩
   rw [← hB] at hwr
   have HB := Lib.hid (show B = bodyEnc m from hB.trans (by rw [HEE.out, Hl2.out, Hb.out, List.append_assoc]))
   have hBl : B.length ≤ 2800000 := by rw [HB.out]; omega
   clear hB
   obtain ⟨af, cf, k0, _, hrf⟩ := hwr.open
   go_wp2_with fail
   refine (fframe_any _ af cf B hrf (by omega)).mono ?_
   rintro e w9 ⟨a9, c9, rfl, ho9, hx9⟩
   go_wp2_with fail
   go_ret2
   exact bytes_good HE.out HB.out ho9 (just_new hE5 hx hgw2).size ((just_new hE5 hx hgw2).comp hx9) rfl
set_option maxRecDepth 100000 in
set_option maxHeartbeats 4000000 in
theorem wbytes_4 (w : World) (m : MsgR) (h : MsgA) (hin : m.In w h) (hok : m.ok) (hf : m.few2) (h0 : bytesErr m = 0) (hk : m.kind = 4) :
  Calls Tryz.prog 14 #[m.val h] w (BytesEnd w m) := by
 have s1 : decide (m.kind < 1) = false := decF (by omega)
 have s2 : decide (5 < m.kind) = false := decF (by omega)
 have T1 := Lib.hid (show (m.kind == 1) = false by rw [beq_eq_false_iff_ne]; omega)
 have T2 := Lib.hid (show (m.kind == 2) = false by rw [beq_eq_false_iff_ne]; omega)
 have T3 := Lib.hid (show (m.kind == 3) = false by rw [beq_eq_false_iff_ne]; omega)
 have T4 := Lib.hid (show (m.kind == 4) = true by rw [beq_iff_eq]; omega)
 have T5 := Lib.hid (show (m.kind == 5) = false by rw [beq_eq_false_iff_ne]; omega)
 have t3 := T3.out
 have hmm : manyM m = false := by
  cases e : manyM m with
  | false => rfl
  | true =>
   unfold bytesErr at h0
   rw [if_neg (by omega)] at h0
   split at h0
   ·cases h0
   ·cases h0
 have Hb0 := Lib.hid (show bodyEnc m = encs [m.kind, m.dev] ++ (encs [m.pos, m.nxt] ++ opsEnc m.ops) by unfold bodyEnc restEnc; rw [if_neg (by omega), if_neg (by omega), if_neg (by omega), if_pos hk])
 have HE := Lib.hid h0
 have Hmm := Lib.hid hmm
 clear h0 hk hmm
 have hble := bodyEnc_le2 hok hf
 have hsub := hf.sub
 go_enter Tryz.func14, Tryz.ntmps14
 go_upto_region 0 with fail
 refine wp_region_lit ?_
 refine wp_box_msg rfl rfl (by rfl) (fun hC => ?_)
 simp only [pz]
 have hxa := Ext.alloc no w (.cells (m.cells h).toArray 36)
 have hi1 := hin.no hxa
 clear hin
 generalize w.alloc (.cells (m.cells h).toArray 36) = w1 at *
 obtain ⟨gm, hgm⟩ : ∃ gm, gm = w.heap.size := ⟨_, rfl⟩
 rw [← hgm] at hC ⊢
 have hgw : w.heap.size ≤ gm := by omega
 have hgl := hC.lt (msg_ne _ _)
 clear hgm
 have z0 := hC.cell 0 _ rfl
 have z1 := hC.cell 1 _ rfl
 have z2 := hC.cell 2 _ rfl
 have z3 := hC.cell 3 _ rfl
 have z4 := hC.cell 4 _ rfl
 have z5 := hC.cell 5 _ rfl
 have z6 := hC.cell 6 _ rfl
 have z7 := hC.cell 7 _ rfl
 have z8 := hC.cell 8 _ rfl
 have z9 := hC.cell 9 _ rfl
 have z10 := hC.cell 10 _ rfl
 have z11 := hC.cell 11 _ rfl
 have z12 := hC.cell 12 _ rfl
 have z13 := hC.cell 13 _ rfl
 have z14 := hC.cell 14 _ rfl
 have z15 := hC.cell 15 _ rfl
 have z16 := hC.cell 16 _ rfl
 have z17 := hC.cell 17 _ rfl
 have z18 := hC.cell 18 _ rfl
 have z19 := hC.cell 19 _ rfl
 have z20 := hC.cell 20 _ rfl
 have z21 := hC.cell 21 _ rfl
 have z22 := hC.cell 22 _ rfl
 have z23 := hC.cell 23 _ rfl
 have z24 := hC.cell 24 _ rfl
 go_upto_region 5 with fail
 refine wp_region_lit ?_
 refine wp_load_msg rfl rfl (by rfl) hC ?_
 simp only [pz]
 go_wp2_with fail
 refine (many_any w1 m h).mono ?_
 rintro e w2 ⟨rfl, hx2⟩
 rw [Hmm.out]
 have t1 := T1.out
 have t2 := T2.out
 have t4 := T4.out
 have t5 := T5.out
 have hi2 := hi1.no hx2
 have hC2 := hC.ext (msg_ne _ _) hx2 (fun h => h)
 have hxx := hxa.comp hx2
 have hsz := hx2.size
 clear hi1 hC hx2 hxa Hmm T1 T2 T3 T4 T5
 clear z0 z1 z2 z3 z4 z5 z6 z7 z8 z9 z10 z11 z12 z13 z14 z15 z16 z17 z18 z19 z20 z21 z22 z23 z24
 go_upto_region 8 with fail
 have hw3 := Wtr.new 95 w2
 have hxb := Ext.alloc no w2 (.cells #[.slice none 0 0] 95)
 have hC3 := hC2.ext (msg_ne _ _) hxb (fun h => h)
 have hi3 := hi2.no hxb
 have hx3 := hxx.comp hxb
 clear hC2 hi2 hxb
 generalize w2.alloc (.cells #[.slice none 0 0] 95) = w3 at *
 obtain ⟨g, hg⟩ : ∃ g, g = w2.heap.size := ⟨_, rfl⟩
 rw [← hg] at hw3 ⊢
 have hgw2 : w.heap.size ≤ g := by have := hxx.size; omega
 have hgne : gm ≠ g := by omega
 clear hg hxx
 have y0 := hC3.cell 0 _ rfl
 have y1 := hC3.cell 1 _ rfl
 go_wp2_with fail
 have hxq := Ext.alloc no w3 (.cells #[.int .i64 m.kind, .int .i64 m.dev] 3)
 refine (wints_any (w3.alloc (.cells #[.int .i64 m.kind, .int .i64 m.dev] 3)) g (some ⟨w3.heap.size, 0, none⟩) 2 [] [(m.kind : Int), (m.dev : Int)] (hw3.on hxq) (by simp) (Rd.lit w3 #[.int .i64 m.kind, .int .i64 m.dev] 3 (0, 0)) (by simp) (by simp [hok.kind, hok.dev])).mono ?_
 rintro e w4 ⟨rfl, hw4, hx4⟩
 have hxj := (hxq.mono (S' := just g) (fun _ _ h => absurd h (fun h => h))).comp hx4
 have hC4 := Wtr.blk hxj hC3 (msg_ne _ _) (hgne)
 have hi4 := hw3.msg hxj hi3
 have hE4 := just_new hx3 hxj hgw2
 clear hxq hx4 hxj hw3 hC3 hi3 hx3
 rw [List.nil_append] at hw4
 clear y0 y1
 obtain ⟨l1, hl1⟩ : ∃ l1, l1 = encs [m.kind, m.dev] := ⟨_, rfl⟩
 rw [← hl1] at hw4
 have hl1l : l1.length ≤ 20 := by rw [hl1]; exact encs_le (l := [m.kind, m.dev]) (by simp [hok.kind, hok.dev])
 have Hl1 := Lib.hid hl1
 clear hl1
 have z0 := hC4.cell 0 _ rfl
 have z1 := hC4.cell 1 _ rfl
 have z2 := hC4.cell 2 _ rfl
 have z3 := hC4.cell 3 _ rfl
 have z4 := hC4.cell 4 _ rfl
 have z5 := hC4.cell 5 _ rfl
 have z6 := hC4.cell 6 _ rfl
 have z7 := hC4.cell 7 _ rfl
 have z8 := hC4.cell 8 _ rfl
 have z9 := hC4.cell 9 _ rfl
 have z10 := hC4.cell 10 _ rfl
 have z11 := hC4.cell 11 _ rfl
 have z12 := hC4.cell 12 _ rfl
 have z13 := hC4.cell 13 _ rfl
 have z14 := hC4.cell 14 _ rfl
 have z15 := hC4.cell 15 _ rfl
 have z16 := hC4.cell 16 _ rfl
 have z17 := hC4.cell 17 _ rfl
 have z18 := hC4.cell 18 _ rfl
 have z19 := hC4.cell 19 _ rfl
 have z20 := hC4.cell 20 _ rfl
 have z21 := hC4.cell 21 _ rfl
 have z22 := hC4.cell 22 _ rfl
 have z23 := hC4.cell 23 _ rfl
 have z24 := hC4.cell 24 _ rfl
 have Hb := Lib.hid (show bodyEnc m = l1 ++ (encs [m.pos, m.nxt] ++ opsEnc m.ops) by rw [Hb0.out, Hl1.out])
 clear Hb0
 go_wp2_with fail
 have hxq := Ext.alloc no w4 (.cells #[.int .i64 m.pos, .int .i64 m.nxt] 3)
 refine (wints_any (w4.alloc (.cells #[.int .i64 m.pos, .int .i64 m.nxt] 3)) g (some ⟨w4.heap.size, 0, none⟩) 2 l1 [(m.pos : Int), (m.nxt : Int)] (hw4.on hxq) (by omega) (Rd.lit w4 #[.int .i64 m.pos, .int .i64 m.nxt] 3 (0, 0)) (by simp) (by simp [hok.pos, hok.nxt])).mono ?_
 rintro e w5 ⟨rfl, hw5, hx5⟩
 have hxj := (hxq.mono (S' := just g) (fun _ _ h => absurd h (fun h => h))).comp hx5
 have hC5 := Wtr.blk hxj hC4 (msg_ne _ _) (hgne)
 have hi5 := hw4.msg hxj hi4
 have hE5 := just_new hE4 hxj hgw2
 clear hxq hx5 hxj hw4 hC4 hi4 hE4
 clear z0 z1 z2 z3 z4 z5 z6 z7 z8 z9 z10 z11 z12 z13 z14 z15 z16 z17 z18 z19 z20 z21 z22 z23 z24
 have hl2 : (l1 ++ encs [m.pos, m.nxt]).length ≤ 60 := by rw [List.length_append]; have := encs_le (l := [m.pos, m.nxt]) (by simp [hok.pos, hok.nxt]); simp only [List.length_cons, List.length_nil] at this; omega
 obtain ⟨l2, hl2e⟩ : ∃ l2, l2 = l1 ++ encs [m.pos, m.nxt] := ⟨_, rfl⟩
 rw [← hl2e] at hw5 hl2
 have Hl2 := Lib.hid hl2e
 clear hl2e
 have z24 := hC5.cell 24 _ rfl
 go_wp2_with fail
 refine (wops_any w5 g h.o h.oc l2 m.ops hw5 (by omega) hi5.o hf.ol hok.ops hf.of).mono ?_
 rintro e w6 ⟨rfl, hw6, hx6⟩
 clear z24
 obtain ⟨B, hB⟩ : ∃ B, B = (l2 ++ opsEnc m.ops) := ⟨_, rfl⟩
 rw [← hB] at hw6
 have HB := Lib.hid (show B = bodyEnc m from hB.trans (by rw [Hl2.out, Hb.out, List.append_assoc]))
 have hBl : B.length ≤ 2800000 := by rw [HB.out]; omega
 clear hB
 obtain ⟨af, cf, k0, _, hrf⟩ := hw6.open
 go_wp2_with fail
 refine (fframe_any _ af cf B hrf (by omega)).mono ?_
 rintro e w9 ⟨a9, c9, rfl, ho9, hx9⟩
 go_wp2_with fail
 go_ret2
 exact bytes_good HE.out HB.out ho9 (just_new hE5 hx6 hgw2).size ((just_new hE5 hx6 hgw2).comp hx9) rfl
set_option maxRecDepth 100000 in
set_option maxHeartbeats 4000000 in
theorem wbytes_5 (w : World) (m : MsgR) (h : MsgA) (hin : m.In w h) (hok : m.ok) (hf : m.few2) (h0 : bytesErr m = 0) (hk : m.kind = 5) :
  Calls Tryz.prog 14 #[m.val h] w (BytesEnd w m) := by
 have s1 : decide (m.kind < 1) = false := decF (by omega)
 have s2 : decide (5 < m.kind) = false := decF (by omega)
 have T1 := Lib.hid (show (m.kind == 1) = false by rw [beq_eq_false_iff_ne]; omega)
 have T2 := Lib.hid (show (m.kind == 2) = false by rw [beq_eq_false_iff_ne]; omega)
 have T3 := Lib.hid (show (m.kind == 3) = false by rw [beq_eq_false_iff_ne]; omega)
 have T4 := Lib.hid (show (m.kind == 4) = false by rw [beq_eq_false_iff_ne]; omega)
 have T5 := Lib.hid (show (m.kind == 5) = true by rw [beq_iff_eq]; omega)
 have t3 := T3.out
 have hmm : manyM m = false := by
  cases e : manyM m with
  | false => rfl
  | true =>
   unfold bytesErr at h0
   rw [if_neg (by omega)] at h0
   split at h0
   ·cases h0
   ·cases h0
 have Hb0 := Lib.hid (show bodyEnc m = encs [m.kind, m.dev] ++ (encs [m.req, m.err]) by unfold bodyEnc restEnc; rw [if_neg (by omega), if_neg (by omega), if_neg (by omega), if_neg (by omega)])
 have HE := Lib.hid h0
 have Hmm := Lib.hid hmm
 clear h0 hk hmm
 have hble := bodyEnc_le2 hok hf
 have hsub := hf.sub
 go_enter Tryz.func14, Tryz.ntmps14
 go_upto_region 0 with fail
 refine wp_region_lit ?_
 refine wp_box_msg rfl rfl (by rfl) (fun hC => ?_)
 simp only [pz]
 have hxa := Ext.alloc no w (.cells (m.cells h).toArray 36)
 have hi1 := hin.no hxa
 clear hin
 generalize w.alloc (.cells (m.cells h).toArray 36) = w1 at *
 obtain ⟨gm, hgm⟩ : ∃ gm, gm = w.heap.size := ⟨_, rfl⟩
 rw [← hgm] at hC ⊢
 have hgw : w.heap.size ≤ gm := by omega
 have hgl := hC.lt (msg_ne _ _)
 clear hgm
 have z0 := hC.cell 0 _ rfl
 have z1 := hC.cell 1 _ rfl
 have z2 := hC.cell 2 _ rfl
 have z3 := hC.cell 3 _ rfl
 have z4 := hC.cell 4 _ rfl
 have z5 := hC.cell 5 _ rfl
 have z6 := hC.cell 6 _ rfl
 have z7 := hC.cell 7 _ rfl
 have z8 := hC.cell 8 _ rfl
 have z9 := hC.cell 9 _ rfl
 have z10 := hC.cell 10 _ rfl
 have z11 := hC.cell 11 _ rfl
 have z12 := hC.cell 12 _ rfl
 have z13 := hC.cell 13 _ rfl
 have z14 := hC.cell 14 _ rfl
 have z15 := hC.cell 15 _ rfl
 have z16 := hC.cell 16 _ rfl
 have z17 := hC.cell 17 _ rfl
 have z18 := hC.cell 18 _ rfl
 have z19 := hC.cell 19 _ rfl
 have z20 := hC.cell 20 _ rfl
 have z21 := hC.cell 21 _ rfl
 have z22 := hC.cell 22 _ rfl
 have z23 := hC.cell 23 _ rfl
 have z24 := hC.cell 24 _ rfl
 go_upto_region 5 with fail
 refine wp_region_lit ?_
 refine wp_load_msg rfl rfl (by rfl) hC ?_
 simp only [pz]
 go_wp2_with fail
 refine (many_any w1 m h).mono ?_
 rintro e w2 ⟨rfl, hx2⟩
 rw [Hmm.out]
 have t1 := T1.out
 have t2 := T2.out
 have t4 := T4.out
 have t5 := T5.out
 have hi2 := hi1.no hx2
 have hC2 := hC.ext (msg_ne _ _) hx2 (fun h => h)
 have hxx := hxa.comp hx2
 have hsz := hx2.size
 clear hi1 hC hx2 hxa Hmm T1 T2 T3 T4 T5
 clear z0 z1 z2 z3 z4 z5 z6 z7 z8 z9 z10 z11 z12 z13 z14 z15 z16 z17 z18 z19 z20 z21 z22 z23 z24
 go_upto_region 8 with fail
 have hw3 := Wtr.new 95 w2
 have hxb := Ext.alloc no w2 (.cells #[.slice none 0 0] 95)
 have hC3 := hC2.ext (msg_ne _ _) hxb (fun h => h)
 have hi3 := hi2.no hxb
 have hx3 := hxx.comp hxb
 clear hC2 hi2 hxb
 generalize w2.alloc (.cells #[.slice none 0 0] 95) = w3 at *
 obtain ⟨g, hg⟩ : ∃ g, g = w2.heap.size := ⟨_, rfl⟩
 rw [← hg] at hw3 ⊢
 have hgw2 : w.heap.size ≤ g := by have := hxx.size; omega
 have hgne : gm ≠ g := by omega
 clear hg hxx
 have y0 := hC3.cell 0 _ rfl
 have y1 := hC3.cell 1 _ rfl
 go_wp2_with fail
 have hxq := Ext.alloc no w3 (.cells #[.int .i64 m.kind, .int .i64 m.dev] 3)
 refine (wints_any (w3.alloc (.cells #[.int .i64 m.kind, .int .i64 m.dev] 3)) g (some ⟨w3.heap.size, 0, none⟩) 2 [] [(m.kind : Int), (m.dev : Int)] (hw3.on hxq) (by simp) (Rd.lit w3 #[.int .i64 m.kind, .int .i64 m.dev] 3 (0, 0)) (by simp) (by simp [hok.kind, hok.dev])).mono ?_
 rintro e w4 ⟨rfl, hw4, hx4⟩
 have hxj := (hxq.mono (S' := just g) (fun _ _ h => absurd h (fun h => h))).comp hx4
 have hC4 := Wtr.blk hxj hC3 (msg_ne _ _) (hgne)
 have hi4 := hw3.msg hxj hi3
 have hE4 := just_new hx3 hxj hgw2
 clear hxq hx4 hxj hw3 hC3 hi3 hx3
 rw [List.nil_append] at hw4
 clear y0 y1
 obtain ⟨l1, hl1⟩ : ∃ l1, l1 = encs [m.kind, m.dev] := ⟨_, rfl⟩
 rw [← hl1] at hw4
 have hl1l : l1.length ≤ 20 := by rw [hl1]; exact encs_le (l := [m.kind, m.dev]) (by simp [hok.kind, hok.dev])
 have Hl1 := Lib.hid hl1
 clear hl1
 have z0 := hC4.cell 0 _ rfl
 have z1 := hC4.cell 1 _ rfl
 have z2 := hC4.cell 2 _ rfl
 have z3 := hC4.cell 3 _ rfl
 have z4 := hC4.cell 4 _ rfl
 have z5 := hC4.cell 5 _ rfl
 have z6 := hC4.cell 6 _ rfl
 have z7 := hC4.cell 7 _ rfl
 have z8 := hC4.cell 8 _ rfl
 have z9 := hC4.cell 9 _ rfl
 have z10 := hC4.cell 10 _ rfl
 have z11 := hC4.cell 11 _ rfl
 have z12 := hC4.cell 12 _ rfl
 have z13 := hC4.cell 13 _ rfl
 have z14 := hC4.cell 14 _ rfl
 have z15 := hC4.cell 15 _ rfl
 have z16 := hC4.cell 16 _ rfl
 have z17 := hC4.cell 17 _ rfl
 have z18 := hC4.cell 18 _ rfl
 have z19 := hC4.cell 19 _ rfl
 have z20 := hC4.cell 20 _ rfl
 have z21 := hC4.cell 21 _ rfl
 have z22 := hC4.cell 22 _ rfl
 have z23 := hC4.cell 23 _ rfl
 have z24 := hC4.cell 24 _ rfl
 have Hb := Lib.hid (show bodyEnc m = l1 ++ (encs [m.req, m.err]) by rw [Hb0.out, Hl1.out])
 clear Hb0
 go_wp2_with fail
 have hxq := Ext.alloc no w4 (.cells #[.int .i64 m.req, .int .i64 m.err] 3)
 refine (wints_any (w4.alloc (.cells #[.int .i64 m.req, .int .i64 m.err] 3)) g (some ⟨w4.heap.size, 0, none⟩) 2 l1 [(m.req : Int), (m.err : Int)] (hw4.on hxq) (by omega) (Rd.lit w4 #[.int .i64 m.req, .int .i64 m.err] 3 (0, 0)) (by simp) (by simp [hok.req, hok.err])).mono ?_
 rintro e w5 ⟨rfl, hw5, hx5⟩
 have hxj := (hxq.mono (S' := just g) (fun _ _ h => absurd h (fun h => h))).comp hx5
 have hC5 := Wtr.blk hxj hC4 (msg_ne _ _) (hgne)
 have hi5 := hw4.msg hxj hi4
 have hE5 := just_new hE4 hxj hgw2
 clear hxq hx5 hxj hw4 hC4 hi4 hE4
 clear z0 z1 z2 z3 z4 z5 z6 z7 z8 z9 z10 z11 z12 z13 z14 z15 z16 z17 z18 z19 z20 z21 z22 z23 z24
 obtain ⟨B, hB⟩ : ∃ B, B = (l1 ++ encs [m.req, m.err]) := ⟨_, rfl⟩
 rw [← hB] at hw5
 have HB := Lib.hid (show B = bodyEnc m from hB.trans (Hb.out.symm))
 have hBl : B.length ≤ 2800000 := by rw [HB.out]; omega
 clear hB
 obtain ⟨af, cf, k0, _, hrf⟩ := hw5.open
 go_wp2_with fail
 refine (fframe_any _ af cf B hrf (by omega)).mono ?_
 rintro e w9 ⟨a9, c9, rfl, ho9, hx9⟩
 go_wp2_with fail
 go_ret2
 exact bytes_good HE.out HB.out ho9 (hE5).size ((hE5).comp hx9) rfl
theorem wbytes_any (w : World) (m : MsgR) (h : MsgA) (hin : m.In w h) (hok : m.ok) (hf : m.few2) :
  Calls Tryz.prog 14 #[m.val h] w (BytesEnd w m) := by
 by_cases h0 : bytesErr m = 0
 ·have hr : ¬ (m.kind < 1 ∨ 5 < m.kind) := fun e => by unfold bytesErr at h0; rw [if_pos e] at h0; cases h0
  by_cases h1 : m.kind = 1
  ·exact wbytes_1 w m h hin hok hf h0 h1
  ·by_cases h2 : m.kind = 2
   ·exact wbytes_2 w m h hin hok hf h0 h2
   ·by_cases h3 : m.kind = 3
    ·exact wbytes_3 w m h hin hok hf h0 h3
    ·by_cases h4 : m.kind = 4
     ·exact wbytes_4 w m h hin hok hf h0 h4
     ·exact wbytes_5 w m h hin hok hf h0 (by omega)
 ·exact wbytes_bad w m h hin hok hf h0
end Go.Proofs.YtddobhihjljcgaaGreat
