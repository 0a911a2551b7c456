/- A message as the document's; two of one and the same, held against one another. -/
import Derived.Test.YtddobhihjljcgaaGreatWxM
import Derived.Test.YtddobhihjljcgaaGreatWxI
namespace Go.Proofs.YtddobhihjljcgaaGreat
open Go.RowKit Go.Esc
set_option linter.unusedVariables false
set_option linter.unusedSimpArgs false
theorem run_load_row {op : Oper} {x : Operand} {a : Act} {w : World} {T : TypeId} {g o : Nat} {cs : List Value} {d : TypeDesc} (ho : op.op = .load T x) (hx : a.eval x = .pointer (some ⟨g, o, none⟩)) (hC : w.rangeAt g o cs) (hu : Tryz.prog.underlying T = some d) (hd : d.isRow = true) (hi : (Tryz.prog.info? T).map (·.size) = some cs.length) : (execOp a.eval op).run Tryz.prog w = .ok (.value (.agg cs.toArray)) w := by
 unfold execOp
 simp only [ho, hx, run_loadAt_mid (P := Tryz.prog) w g o T cs d hC hu hd hi, Sem.run_bind, Sem.run_pure, Result.andThen_ok]
theorem mid_range {w : World} {g : Nat} {pre cs post : List Value} (h : Blk w g (pre ++ cs ++ post)) : w.rangeAt g pre.length cs := fun j v hv => h.cell (pre.length + j) v (by
 have hj := (List.getElem?_eq_some_iff.1 hv).1
 rw [List.getElem?_append_left (by rw [List.length_append]; omega), List.getElem?_append_right (by omega), Nat.add_sub_cancel_left]
 exact hv)
set_option maxRecDepth 100000 in
set_option maxHeartbeats 4000000 in
theorem of_any (w : World) (m : MsgR) (h : MsgA) :
  Calls Tryz.prog 7 #[m.val h] w fun e w' => e = .returned (m.val h) ∧ Ext no w w' := by
 go_enter Tryz.func7, Tryz.ntmps7
 go_upto_region 0 with fail
 refine wp_region_lit ?_
 refine wp_box_msg (m := m) (h := h) rfl rfl (by rfl) (fun hC => ?_)
 simp only [pz]
 have hx := Ext.alloc no w (.cells (m.cells h).toArray 36)
 obtain ⟨g, hg⟩ : ∃ v, v = w.heap.size := ⟨_, rfl⟩
 rw [← hg] at hC ⊢
 have hwg : w.heap.size ≤ g := by omega
 clear hg
 generalize w.alloc (.cells (m.cells h).toArray 36) = w1 at *
 refine wp_alloc_rmsg rfl rfl (fun hZ => ?_)
 simp only [pz]
 have hy := Ext.alloc no w1 (.cells (MsgR.zero.cells MsgA.zero).toArray 42)
 have hgl := hC.lt (msg_ne _ _)
 have hC := hC.ext (msg_ne _ _) hy (fun h => h)
 obtain ⟨q, hq⟩ : ∃ v, v = w1.heap.size := ⟨_, rfl⟩
 rw [← hq] at hZ ⊢
 have hwq : w.heap.size ≤ q := by omega
 replace hx := hx.comp hy
 clear hq hy
 generalize w1.alloc (.cells (MsgR.zero.cells MsgA.zero).toArray 42) = w2 at *
 go_upto_region 1 with fail
 refine wp_region_lit ?_
 have z0 := hC.cell 0 _ rfl
 have z1 := hC.cell 1 _ rfl
 have z2 := hC.cell 2 _ rfl
 have z3 := hC.cell 3 _ rfl
 have z4 := hC.cell 4 _ rfl
 have z5 := hC.cell 5 _ rfl
 have z6 := hC.cell 6 _ rfl
 have z7 := hC.cell 7 _ rfl
 have z24 := hC.cell 24 _ rfl
 have hR8 : w2.rangeAt g 8 (m.cmd.cells h.c) := mid_range (pre := [.int .i64 m.kind, .int .i64 m.dev, .int .i64 m.req, .int .i64 m.ver, .int .i64 m.pos, .int .i64 m.nxt, .slice h.b m.subs.length h.bc, .int .i64 m.err]) (post := [.int .i64 m.rep.err, .int .i64 m.rep.n, .int .i64 m.rep.dev, .int .i64 m.rep.ep, .int .i64 m.rep.til, .int .i64 m.rep.last, .slice h.r.s m.rep.slices.length h.r.sc, .slice h.r.i m.rep.ids.length h.r.ic, .slice h.r.u m.rep.used.length h.r.uc, .slice h.o m.ops.length h.oc]) hC
 have hR15 : w2.rangeAt g 15 (m.rep.cells h.r) := mid_range (pre := [.int .i64 m.kind, .int .i64 m.dev, .int .i64 m.req, .int .i64 m.ver, .int .i64 m.pos, .int .i64 m.nxt, .slice h.b m.subs.length h.bc, .int .i64 m.err, .int .i64 m.cmd.kind, .int .i64 m.cmd.dev, .int .i64 m.cmd.ep, .int .i64 m.cmd.req, .int .i64 m.cmd.n, .slice h.c.w m.cmd.wants.length h.c.wc, .slice h.c.o m.cmd.ops.length h.c.oc]) (post := [.slice h.o m.ops.length h.oc]) hC
 refine wp_val (by rfl) (.pointer (some ⟨g, 0, none⟩)) (by go_simp) ?_
 simp only [pz]
 refine wp_val (by rfl) (.int .i64 m.kind) (by go_simp) ?_
 simp only [pz]
 refine wp_val (by rfl) (.pointer (some ⟨g, 1, none⟩)) (by go_simp) ?_
 simp only [pz]
 refine wp_val (by rfl) (.int .i64 m.dev) (by go_simp) ?_
 simp only [pz]
 refine wp_val (by rfl) (.pointer (some ⟨g, 2, none⟩)) (by go_simp) ?_
 simp only [pz]
 refine wp_val (by rfl) (.int .i64 m.req) (by go_simp) ?_
 simp only [pz]
 refine wp_val (by rfl) (.pointer (some ⟨g, 3, none⟩)) (by go_simp) ?_
 simp only [pz]
 refine wp_val (by rfl) (.int .i64 m.ver) (by go_simp) ?_
 simp only [pz]
 refine wp_val (by rfl) (.pointer (some ⟨g, 4, none⟩)) (by go_simp) ?_
 simp only [pz]
 refine wp_val (by rfl) (.int .i64 m.pos) (by go_simp) ?_
 simp only [pz]
 refine wp_val (by rfl) (.pointer (some ⟨g, 5, none⟩)) (by go_simp) ?_
 simp only [pz]
 refine wp_val (by rfl) (.int .i64 m.nxt) (by go_simp) ?_
 simp only [pz]
 refine wp_val (by rfl) (.pointer (some ⟨g, 6, none⟩)) (by go_simp) ?_
 simp only [pz]
 refine wp_val (by rfl) (.slice h.b m.subs.length h.bc) (by go_simp) ?_
 simp only [pz]
 refine wp_val (by rfl) (.pointer (some ⟨g, 7, none⟩)) (by go_simp) ?_
 simp only [pz]
 refine wp_val (by rfl) (.int .i64 m.err) (by go_simp) ?_
 simp only [pz]
 refine wp_val (by rfl) (.pointer (some ⟨g, 8, none⟩)) (by go_simp) ?_
 simp only [pz]
 refine wp_val (by rfl) (m.cmd.val h.c) (run_load_row rfl (by rfl) hR8 Tryz.underlying27 rfl (by kernel_rfl)) ?_
 simp only [pz]
 refine wp_val (by rfl) (.pointer (some ⟨g, 15, none⟩)) (by go_simp) ?_
 simp only [pz]
 refine wp_val (by rfl) (m.rep.val h.r) (run_load_row rfl (by rfl) hR15 Tryz.underlying34 rfl (by kernel_rfl)) ?_
 simp only [pz]
 refine wp_val (by rfl) (.pointer (some ⟨g, 24, none⟩)) (by go_simp) ?_
 simp only [pz]
 refine wp_val (by rfl) (.slice h.o m.ops.length h.oc) (by go_simp) ?_
 simp only [pz]
 refine wp_val (by rfl) (m.val h) (by kernel_rfl) ?_
 simp only [pz]
 refine wp_store_rmsg (m := m) (h := h) rfl rfl (by rfl) (by rfl) hZ rfl (fun hF hy => ?_)
 simp only [pz]
 have hx4 := hx.fresh hy hwq
 generalize w2.setCells q 0 (m.cells h) = wz at *
 go_wp2_with fail
 refine bodyPost_ret (v := m.val h) ?_ rfl ⟨rfl, hx4⟩
 exact rmsg_result rfl _ _ (by rfl) hF
structure ShortM (a : MsgR) : Prop where
 cw : a.cmd.wants.length ≤ 1000000
 co : a.cmd.ops.length ≤ 1000000
 cd : ∀ o ∈ a.cmd.ops, o.dots.length ≤ 1099511627776
 rs : a.rep.slices.length ≤ 1000000
 ri : a.rep.ids.length ≤ 1000000
 ru : a.rep.used.length ≤ 1000000
 mo : a.ops.length ≤ 1000000
 md : ∀ o ∈ a.ops, o.dots.length ≤ 1099511627776
 sb : a.subs.length ≤ 1000000
set_option maxRecDepth 100000 in
set_option maxHeartbeats 4000000 in
theorem refsame_1 (w : World) (m : MsgR) (h k : MsgA) (ha : m.In w h) (hb : m.In w k) (hs : ShortM m) (hk : m.kind = 1) :
  Calls Tryz.prog 13 #[m.val h, m.val k] w fun e w' => e = .returned (.bool true) ∧ Ext no w w' := by
 go_enter Tryz.func13, Tryz.ntmps13
 go_upto_region 0 with fail
 refine wp_region_lit ?_
 refine wp_box_rmsg (m := m) (h := h) rfl rfl (by rfl) (fun hb1 => ?_)
 simp only [pz]
 have hx := Ext.alloc no w (.cells (m.cells h).toArray 42)
 generalize w.alloc (.cells (m.cells h).toArray 42) = w1 at *
 generalize w.heap.size = g1 at hb1 ⊢
 refine wp_box_rmsg (m := m) (h := k) rfl rfl (by rfl) (fun hb2 => ?_)
 simp only [pz]
 have hy := Ext.alloc no w1 (.cells (m.cells k).toArray 42)
 have hb1 := hb1.ext (msg_ne _ _) hy (fun h => h)
 replace hx := hx.comp hy
 clear hy
 generalize w1.alloc (.cells (m.cells k).toArray 42) = w2 at *
 generalize w1.heap.size = g2 at hb2 ⊢
 have ha := ha.no hx
 have hb := hb.no hx
 have p0 := hb1.cell 0 _ rfl
 have r0 := hb2.cell 0 _ rfl
 have p1 := hb1.cell 1 _ rfl
 have r1 := hb2.cell 1 _ rfl
 have p2 := hb1.cell 2 _ rfl
 have r2 := hb2.cell 2 _ rfl
 have p3 := hb1.cell 3 _ rfl
 have r3 := hb2.cell 3 _ rfl
 have p4 := hb1.cell 4 _ rfl
 have r4 := hb2.cell 4 _ rfl
 have p5 := hb1.cell 5 _ rfl
 have r5 := hb2.cell 5 _ rfl
 have p6 := hb1.cell 6 _ rfl
 have r6 := hb2.cell 6 _ rfl
 have p7 := hb1.cell 7 _ rfl
 have r7 := hb2.cell 7 _ rfl
 have p8 := hb1.cell 8 _ rfl
 have r8 := hb2.cell 8 _ rfl
 have p9 := hb1.cell 9 _ rfl
 have r9 := hb2.cell 9 _ rfl
 have p10 := hb1.cell 10 _ rfl
 have r10 := hb2.cell 10 _ rfl
 have p11 := hb1.cell 11 _ rfl
 have r11 := hb2.cell 11 _ rfl
 have p12 := hb1.cell 12 _ rfl
 have r12 := hb2.cell 12 _ rfl
 have p13 := hb1.cell 13 _ rfl
 have r13 := hb2.cell 13 _ rfl
 have p14 := hb1.cell 14 _ rfl
 have r14 := hb2.cell 14 _ rfl
 have p15 := hb1.cell 15 _ rfl
 have r15 := hb2.cell 15 _ rfl
 have p16 := hb1.cell 16 _ rfl
 have r16 := hb2.cell 16 _ rfl
 have p17 := hb1.cell 17 _ rfl
 have r17 := hb2.cell 17 _ rfl
 have p18 := hb1.cell 18 _ rfl
 have r18 := hb2.cell 18 _ rfl
 have p19 := hb1.cell 19 _ rfl
 have r19 := hb2.cell 19 _ rfl
 have p20 := hb1.cell 20 _ rfl
 have r20 := hb2.cell 20 _ rfl
 have p21 := hb1.cell 21 _ rfl
 have r21 := hb2.cell 21 _ rfl
 have p22 := hb1.cell 22 _ rfl
 have r22 := hb2.cell 22 _ rfl
 have p23 := hb1.cell 23 _ rfl
 have r23 := hb2.cell 23 _ rfl
 have p24 := hb1.cell 24 _ rfl
 have r24 := hb2.cell 24 _ rfl
 rw [hk] at p0 r0
 clear hk
 go_wp2_with fail
 refine (samecmd_eq w2 m.cmd h.c k.c ha.c hb.c hs.cw hs.co hs.cd).mono ?_
 rintro e w3 ⟨rfl, hy⟩
 go_wp2_with fail
 go_ret
 exact ⟨rfl, hx.comp hy⟩
set_option maxRecDepth 100000 in
set_option maxHeartbeats 4000000 in
theorem refsame_2 (w : World) (m : MsgR) (h k : MsgA) (ha : m.In w h) (hb : m.In w k) (hs : ShortM m) (hk : m.kind = 2) :
  Calls Tryz.prog 13 #[m.val h, m.val k] w fun e w' => e = .returned (.bool true) ∧ Ext no w w' := by
 go_enter Tryz.func13, Tryz.ntmps13
 go_upto_region 0 with fail
 refine wp_region_lit ?_
 refine wp_box_rmsg (m := m) (h := h) rfl rfl (by rfl) (fun hb1 => ?_)
 simp only [pz]
 have hx := Ext.alloc no w (.cells (m.cells h).toArray 42)
 generalize w.alloc (.cells (m.cells h).toArray 42) = w1 at *
 generalize w.heap.size = g1 at hb1 ⊢
 refine wp_box_rmsg (m := m) (h := k) rfl rfl (by rfl) (fun hb2 => ?_)
 simp only [pz]
 have hy := Ext.alloc no w1 (.cells (m.cells k).toArray 42)
 have hb1 := hb1.ext (msg_ne _ _) hy (fun h => h)
 replace hx := hx.comp hy
 clear hy
 generalize w1.alloc (.cells (m.cells k).toArray 42) = w2 at *
 generalize w1.heap.size = g2 at hb2 ⊢
 have ha := ha.no hx
 have hb := hb.no hx
 have p0 := hb1.cell 0 _ rfl
 have r0 := hb2.cell 0 _ rfl
 have p1 := hb1.cell 1 _ rfl
 have r1 := hb2.cell 1 _ rfl
 have p2 := hb1.cell 2 _ rfl
 have r2 := hb2.cell 2 _ rfl
 have p3 := hb1.cell 3 _ rfl
 have r3 := hb2.cell 3 _ rfl
 have p4 := hb1.cell 4 _ rfl
 have r4 := hb2.cell 4 _ rfl
 have p5 := hb1.cell 5 _ rfl
 have r5 := hb2.cell 5 _ rfl
 have p6 := hb1.cell 6 _ rfl
 have r6 := hb2.cell 6 _ rfl
 have p7 := hb1.cell 7 _ rfl
 have r7 := hb2.cell 7 _ rfl
 have p8 := hb1.cell 8 _ rfl
 have r8 := hb2.cell 8 _ rfl
 have p9 := hb1.cell 9 _ rfl
 have r9 := hb2.cell 9 _ rfl
 have p10 := hb1.cell 10 _ rfl
 have r10 := hb2.cell 10 _ rfl
 have p11 := hb1.cell 11 _ rfl
 have r11 := hb2.cell 11 _ rfl
 have p12 := hb1.cell 12 _ rfl
 have r12 := hb2.cell 12 _ rfl
 have p13 := hb1.cell 13 _ rfl
 have r13 := hb2.cell 13 _ rfl
 have p14 := hb1.cell 14 _ rfl
 have r14 := hb2.cell 14 _ rfl
 have p15 := hb1.cell 15 _ rfl
 have r15 := hb2.cell 15 _ rfl
 have p16 := hb1.cell 16 _ rfl
 have r16 := hb2.cell 16 _ rfl
 have p17 := hb1.cell 17 _ rfl
 have r17 := hb2.cell 17 _ rfl
 have p18 := hb1.cell 18 _ rfl
 have r18 := hb2.cell 18 _ rfl
 have p19 := hb1.cell 19 _ rfl
 have r19 := hb2.cell 19 _ rfl
 have p20 := hb1.cell 20 _ rfl
 have r20 := hb2.cell 20 _ rfl
 have p21 := hb1.cell 21 _ rfl
 have r21 := hb2.cell 21 _ rfl
 have p22 := hb1.cell 22 _ rfl
 have r22 := hb2.cell 22 _ rfl
 have p23 := hb1.cell 23 _ rfl
 have r23 := hb2.cell 23 _ rfl
 have p24 := hb1.cell 24 _ rfl
 have r24 := hb2.cell 24 _ rfl
 rw [hk] at p0 r0
 clear hk
 go_wp2_with fail
 refine (refreply_eq w2 m.rep h.r k.r ha.r hb.r hs.rs hs.ri hs.ru).mono ?_
 rintro e w3 ⟨rfl, hy⟩
 go_wp2_with fail
 go_ret
 exact ⟨rfl, hx.comp hy⟩
set_option maxRecDepth 100000 in
set_option maxHeartbeats 4000000 in
theorem refsame_3 (w : World) (m : MsgR) (h k : MsgA) (ha : m.In w h) (hb : m.In w k) (hs : ShortM m) (hk : m.kind = 3) :
  Calls Tryz.prog 13 #[m.val h, m.val k] w fun e w' => e = .returned (.bool true) ∧ Ext no w w' := by
 go_enter Tryz.func13, Tryz.ntmps13
 go_upto_region 0 with fail
 refine wp_region_lit ?_
 refine wp_box_rmsg (m := m) (h := h) rfl rfl (by rfl) (fun hb1 => ?_)
 simp only [pz]
 have hx := Ext.alloc no w (.cells (m.cells h).toArray 42)
 generalize w.alloc (.cells (m.cells h).toArray 42) = w1 at *
 generalize w.heap.size = g1 at hb1 ⊢
 refine wp_box_rmsg (m := m) (h := k) rfl rfl (by rfl) (fun hb2 => ?_)
 simp only [pz]
 have hy := Ext.alloc no w1 (.cells (m.cells k).toArray 42)
 have hb1 := hb1.ext (msg_ne _ _) hy (fun h => h)
 replace hx := hx.comp hy
 clear hy
 generalize w1.alloc (.cells (m.cells k).toArray 42) = w2 at *
 generalize w1.heap.size = g2 at hb2 ⊢
 have ha := ha.no hx
 have hb := hb.no hx
 have p0 := hb1.cell 0 _ rfl
 have r0 := hb2.cell 0 _ rfl
 have p1 := hb1.cell 1 _ rfl
 have r1 := hb2.cell 1 _ rfl
 have p2 := hb1.cell 2 _ rfl
 have r2 := hb2.cell 2 _ rfl
 have p3 := hb1.cell 3 _ rfl
 have r3 := hb2.cell 3 _ rfl
 have p4 := hb1.cell 4 _ rfl
 have r4 := hb2.cell 4 _ rfl
 have p5 := hb1.cell 5 _ rfl
 have r5 := hb2.cell 5 _ rfl
 have p6 := hb1.cell 6 _ rfl
 have r6 := hb2.cell 6 _ rfl
 have p7 := hb1.cell 7 _ rfl
 have r7 := hb2.cell 7 _ rfl
 have p8 := hb1.cell 8 _ rfl
 have r8 := hb2.cell 8 _ rfl
 have p9 := hb1.cell 9 _ rfl
 have r9 := hb2.cell 9 _ rfl
 have p10 := hb1.cell 10 _ rfl
 have r10 := hb2.cell 10 _ rfl
 have p11 := hb1.cell 11 _ rfl
 have r11 := hb2.cell 11 _ rfl
 have p12 := hb1.cell 12 _ rfl
 have r12 := hb2.cell 12 _ rfl
 have p13 := hb1.cell 13 _ rfl
 have r13 := hb2.cell 13 _ rfl
 have p14 := hb1.cell 14 _ rfl
 have r14 := hb2.cell 14 _ rfl
 have p15 := hb1.cell 15 _ rfl
 have r15 := hb2.cell 15 _ rfl
 have p16 := hb1.cell 16 _ rfl
 have r16 := hb2.cell 16 _ rfl
 have p17 := hb1.cell 17 _ rfl
 have r17 := hb2.cell 17 _ rfl
 have p18 := hb1.cell 18 _ rfl
 have r18 := hb2.cell 18 _ rfl
 have p19 := hb1.cell 19 _ rfl
 have r19 := hb2.cell 19 _ rfl
 have p20 := hb1.cell 20 _ rfl
 have r20 := hb2.cell 20 _ rfl
 have p21 := hb1.cell 21 _ rfl
 have r21 := hb2.cell 21 _ rfl
 have p22 := hb1.cell 22 _ rfl
 have r22 := hb2.cell 22 _ rfl
 have p23 := hb1.cell 23 _ rfl
 have r23 := hb2.cell 23 _ rfl
 have p24 := hb1.cell 24 _ rfl
 have r24 := hb2.cell 24 _ rfl
 rw [hk] at p0 r0
 clear hk
 go_wp2_with fail
 refine (refbools_eq w2 h.b k.b h.bc k.bc m.subs ha.b hb.b hs.sb).mono ?_
 rintro e w3 ⟨rfl, hy⟩
 go_wp2_with fail
 go_ret
 exact ⟨rfl, hx.comp hy⟩
set_option maxRecDepth 100000 in
set_option maxHeartbeats 4000000 in
theorem refsame_4 (w : World) (m : MsgR) (h k : MsgA) (ha : m.In w h) (hb : m.In w k) (hs : ShortM m) (hk : m.kind = 4) :
  Calls Tryz.prog 13 #[m.val h, m.val k] w fun e w' => e = .returned (.bool true) ∧ Ext no w w' := by
 go_enter Tryz.func13, Tryz.ntmps13
 go_upto_region 0 with fail
 refine wp_region_lit ?_
 refine wp_box_rmsg (m := m) (h := h) rfl rfl (by rfl) (fun hb1 => ?_)
 simp only [pz]
 have hx := Ext.alloc no w (.cells (m.cells h).toArray 42)
 generalize w.alloc (.cells (m.cells h).toArray 42) = w1 at *
 generalize w.heap.size = g1 at hb1 ⊢
 refine wp_box_rmsg (m := m) (h := k) rfl rfl (by rfl) (fun hb2 => ?_)
 simp only [pz]
 have hy := Ext.alloc no w1 (.cells (m.cells k).toArray 42)
 have hb1 := hb1.ext (msg_ne _ _) hy (fun h => h)
 replace hx := hx.comp hy
 clear hy
 generalize w1.alloc (.cells (m.cells k).toArray 42) = w2 at *
 generalize w1.heap.size = g2 at hb2 ⊢
 have ha := ha.no hx
 have hb := hb.no hx
 have p0 := hb1.cell 0 _ rfl
 have r0 := hb2.cell 0 _ rfl
 have p1 := hb1.cell 1 _ rfl
 have r1 := hb2.cell 1 _ rfl
 have p2 := hb1.cell 2 _ rfl
 have r2 := hb2.cell 2 _ rfl
 have p3 := hb1.cell 3 _ rfl
 have r3 := hb2.cell 3 _ rfl
 have p4 := hb1.cell 4 _ rfl
 have r4 := hb2.cell 4 _ rfl
 have p5 := hb1.cell 5 _ rfl
 have r5 := hb2.cell 5 _ rfl
 have p6 := hb1.cell 6 _ rfl
 have r6 := hb2.cell 6 _ rfl
 have p7 := hb1.cell 7 _ rfl
 have r7 := hb2.cell 7 _ rfl
 have p8 := hb1.cell 8 _ rfl
 have r8 := hb2.cell 8 _ rfl
 have p9 := hb1.cell 9 _ rfl
 have r9 := hb2.cell 9 _ rfl
 have p10 := hb1.cell 10 _ rfl
 have r10 := hb2.cell 10 _ rfl
 have p11 := hb1.cell 11 _ rfl
 have r11 := hb2.cell 11 _ rfl
 have p12 := hb1.cell 12 _ rfl
 have r12 := hb2.cell 12 _ rfl
 have p13 := hb1.cell 13 _ rfl
 have r13 := hb2.cell 13 _ rfl
 have p14 := hb1.cell 14 _ rfl
 have r14 := hb2.cell 14 _ rfl
 have p15 := hb1.cell 15 _ rfl
 have r15 := hb2.cell 15 _ rfl
 have p16 := hb1.cell 16 _ rfl
 have r16 := hb2.cell 16 _ rfl
 have p17 := hb1.cell 17 _ rfl
 have r17 := hb2.cell 17 _ rfl
 have p18 := hb1.cell 18 _ rfl
 have r18 := hb2.cell 18 _ rfl
 have p19 := hb1.cell 19 _ rfl
 have r19 := hb2.cell 19 _ rfl
 have p20 := hb1.cell 20 _ rfl
 have r20 := hb2.cell 20 _ rfl
 have p21 := hb1.cell 21 _ rfl
 have r21 := hb2.cell 21 _ rfl
 have p22 := hb1.cell 22 _ rfl
 have r22 := hb2.cell 22 _ rfl
 have p23 := hb1.cell 23 _ rfl
 have r23 := hb2.cell 23 _ rfl
 have p24 := hb1.cell 24 _ rfl
 have r24 := hb2.cell 24 _ rfl
 rw [hk] at p0 r0
 clear hk
 go_wp2_with fail
 refine (sameops_eq w2 h.o k.o h.oc k.oc m.ops ha.o hb.o hs.mo hs.md).mono ?_
 rintro e w3 ⟨rfl, hy⟩
 go_wp2_with fail
 go_ret
 exact ⟨rfl, hx.comp hy⟩
set_option maxRecDepth 100000 in
set_option maxHeartbeats 4000000 in
theorem refsame_5 (w : World) (m : MsgR) (h k : MsgA) (ha : m.In w h) (hb : m.In w k) (hs : ShortM m) (hk : m.kind = 5) :
  Calls Tryz.prog 13 #[m.val h, m.val k] w fun e w' => e = .returned (.bool true) ∧ Ext no w w' := by
 go_enter Tryz.func13, Tryz.ntmps13
 go_upto_region 0 with fail
 refine wp_region_lit ?_
 refine wp_box_rmsg (m := m) (h := h) rfl rfl (by rfl) (fun hb1 => ?_)
 simp only [pz]
 have hx := Ext.alloc no w (.cells (m.cells h).toArray 42)
 generalize w.alloc (.cells (m.cells h).toArray 42) = w1 at *
 generalize w.heap.size = g1 at hb1 ⊢
 refine wp_box_rmsg (m := m) (h := k) rfl rfl (by rfl) (fun hb2 => ?_)
 simp only [pz]
 have hy := Ext.alloc no w1 (.cells (m.cells k).toArray 42)
 have hb1 := hb1.ext (msg_ne _ _) hy (fun h => h)
 replace hx := hx.comp hy
 clear hy
 generalize w1.alloc (.cells (m.cells k).toArray 42) = w2 at *
 generalize w1.heap.size = g2 at hb2 ⊢
 have ha := ha.no hx
 have hb := hb.no hx
 have p0 := hb1.cell 0 _ rfl
 have r0 := hb2.cell 0 _ rfl
 have p1 := hb1.cell 1 _ rfl
 have r1 := hb2.cell 1 _ rfl
 have p2 := hb1.cell 2 _ rfl
 have r2 := hb2.cell 2 _ rfl
 have p3 := hb1.cell 3 _ rfl
 have r3 := hb2.cell 3 _ rfl
 have p4 := hb1.cell 4 _ rfl
 have r4 := hb2.cell 4 _ rfl
 have p5 := hb1.cell 5 _ rfl
 have r5 := hb2.cell 5 _ rfl
 have p6 := hb1.cell 6 _ rfl
 have r6 := hb2.cell 6 _ rfl
 have p7 := hb1.cell 7 _ rfl
 have r7 := hb2.cell 7 _ rfl
 have p8 := hb1.cell 8 _ rfl
 have r8 := hb2.cell 8 _ rfl
 have p9 := hb1.cell 9 _ rfl
 have r9 := hb2.cell 9 _ rfl
 have p10 := hb1.cell 10 _ rfl
 have r10 := hb2.cell 10 _ rfl
 have p11 := hb1.cell 11 _ rfl
 have r11 := hb2.cell 11 _ rfl
 have p12 := hb1.cell 12 _ rfl
 have r12 := hb2.cell 12 _ rfl
 have p13 := hb1.cell 13 _ rfl
 have r13 := hb2.cell 13 _ rfl
 have p14 := hb1.cell 14 _ rfl
 have r14 := hb2.cell 14 _ rfl
 have p15 := hb1.cell 15 _ rfl
 have r15 := hb2.cell 15 _ rfl
 have p16 := hb1.cell 16 _ rfl
 have r16 := hb2.cell 16 _ rfl
 have p17 := hb1.cell 17 _ rfl
 have r17 := hb2.cell 17 _ rfl
 have p18 := hb1.cell 18 _ rfl
 have r18 := hb2.cell 18 _ rfl
 have p19 := hb1.cell 19 _ rfl
 have r19 := hb2.cell 19 _ rfl
 have p20 := hb1.cell 20 _ rfl
 have r20 := hb2.cell 20 _ rfl
 have p21 := hb1.cell 21 _ rfl
 have r21 := hb2.cell 21 _ rfl
 have p22 := hb1.cell 22 _ rfl
 have r22 := hb2.cell 22 _ rfl
 have p23 := hb1.cell 23 _ rfl
 have r23 := hb2.cell 23 _ rfl
 have p24 := hb1.cell 24 _ rfl
 have r24 := hb2.cell 24 _ rfl
 rw [hk] at p0 r0
 clear hk
 go_wp2_with fail
 go_ret
 exact ⟨rfl, hx⟩
set_option maxRecDepth 100000 in
set_option maxHeartbeats 4000000 in
theorem refsame_0 (w : World) (m : MsgR) (h k : MsgA) (ha : m.In w h) (hb : m.In w k) (hs : ShortM m) (hk : m.kind = 0) :
  Calls Tryz.prog 13 #[m.val h, m.val k] w fun e w' => e = .returned (.bool true) ∧ Ext no w w' := by
 go_enter Tryz.func13, Tryz.ntmps13
 go_upto_region 0 with fail
 refine wp_region_lit ?_
 refine wp_box_rmsg (m := m) (h := h) rfl rfl (by rfl) (fun hb1 => ?_)
 simp only [pz]
 have hx := Ext.alloc no w (.cells (m.cells h).toArray 42)
 generalize w.alloc (.cells (m.cells h).toArray 42) = w1 at *
 generalize w.heap.size = g1 at hb1 ⊢
 refine wp_box_rmsg (m := m) (h := k) rfl rfl (by rfl) (fun hb2 => ?_)
 simp only [pz]
 have hy := Ext.alloc no w1 (.cells (m.cells k).toArray 42)
 have hb1 := hb1.ext (msg_ne _ _) hy (fun h => h)
 replace hx := hx.comp hy
 clear hy
 generalize w1.alloc (.cells (m.cells k).toArray 42) = w2 at *
 generalize w1.heap.size = g2 at hb2 ⊢
 have ha := ha.no hx
 have hb := hb.no hx
 have p0 := hb1.cell 0 _ rfl
 have r0 := hb2.cell 0 _ rfl
 have p1 := hb1.cell 1 _ rfl
 have r1 := hb2.cell 1 _ rfl
 have p2 := hb1.cell 2 _ rfl
 have r2 := hb2.cell 2 _ rfl
 have p3 := hb1.cell 3 _ rfl
 have r3 := hb2.cell 3 _ rfl
 have p4 := hb1.cell 4 _ rfl
 have r4 := hb2.cell 4 _ rfl
 have p5 := hb1.cell 5 _ rfl
 have r5 := hb2.cell 5 _ rfl
 have p6 := hb1.cell 6 _ rfl
 have r6 := hb2.cell 6 _ rfl
 have p7 := hb1.cell 7 _ rfl
 have r7 := hb2.cell 7 _ rfl
 have p8 := hb1.cell 8 _ rfl
 have r8 := hb2.cell 8 _ rfl
 have p9 := hb1.cell 9 _ rfl
 have r9 := hb2.cell 9 _ rfl
 have p10 := hb1.cell 10 _ rfl
 have r10 := hb2.cell 10 _ rfl
 have p11 := hb1.cell 11 _ rfl
 have r11 := hb2.cell 11 _ rfl
 have p12 := hb1.cell 12 _ rfl
 have r12 := hb2.cell 12 _ rfl
 have p13 := hb1.cell 13 _ rfl
 have r13 := hb2.cell 13 _ rfl
 have p14 := hb1.cell 14 _ rfl
 have r14 := hb2.cell 14 _ rfl
 have p15 := hb1.cell 15 _ rfl
 have r15 := hb2.cell 15 _ rfl
 have p16 := hb1.cell 16 _ rfl
 have r16 := hb2.cell 16 _ rfl
 have p17 := hb1.cell 17 _ rfl
 have r17 := hb2.cell 17 _ rfl
 have p18 := hb1.cell 18 _ rfl
 have r18 := hb2.cell 18 _ rfl
 have p19 := hb1.cell 19 _ rfl
 have r19 := hb2.cell 19 _ rfl
 have p20 := hb1.cell 20 _ rfl
 have r20 := hb2.cell 20 _ rfl
 have p21 := hb1.cell 21 _ rfl
 have r21 := hb2.cell 21 _ rfl
 have p22 := hb1.cell 22 _ rfl
 have r22 := hb2.cell 22 _ rfl
 have p23 := hb1.cell 23 _ rfl
 have r23 := hb2.cell 23 _ rfl
 have p24 := hb1.cell 24 _ rfl
 have r24 := hb2.cell 24 _ rfl
 rw [hk] at p0 r0
 clear hk
 go_wp2_with fail
 go_ret
 exact ⟨rfl, hx⟩
theorem refsame_msg (w : World) (m : MsgR) (h k : MsgA) (ha : m.In w h) (hb : m.In w k) (hs : ShortM m) (hk : 0 ≤ m.kind ∧ m.kind ≤ 5) :
  Calls Tryz.prog 13 #[m.val h, m.val k] w fun e w' => e = .returned (.bool true) ∧ Ext no w w' := by
 rcases (show m.kind = 0 ∨ m.kind = 1 ∨ m.kind = 2 ∨ m.kind = 3 ∨ m.kind = 4 ∨ m.kind = 5 by omega) with e | e | e | e | e | e
 ·exact refsame_0 w m h k ha hb hs e
 ·exact refsame_1 w m h k ha hb hs e
 ·exact refsame_2 w m h k ha hb hs e
 ·exact refsame_3 w m h k ha hb hs e
 ·exact refsame_4 w m h k ha hb hs e
 ·exact refsame_5 w m h k ha hb hs e
end Go.Proofs.YtddobhihjljcgaaGreat
