/- What a register, an identifier says: coll.Reg, coll.Bound. -/
import Derived.Test.YtejmmkjpncpedaaGreatDoorCoL
import Derived.Test.YtejmmkjpncpedaaGreatDoorCoU
import Derived.Test.YtejmmkjpncpedaaGreatDoorScE
namespace Go.Proofs.YtejmmkjpncpedaaGreatDoor
open Go.RowKit Go.Esc
set_option linter.unusedVariables false
set_option linter.unusedSimpArgs false

def regsay (C : CollR) (key : List UInt8) (ver : Int) : List UInt8 × Nat := match Go.Esc.look RegR.key key C.regs with
  | some x => (up x.text x.ver ver, upErr x.ver ver)
  | none => ([], 2)
set_option maxRecDepth 100000 in
set_option maxHeartbeats 2000000 in
theorem regsay_any (w : World) (C : CollR) (h : Six) (key : List UInt8) (ver : Int) (hr : Rd w h.r (rows RegR.cells C.regs)) (hl : C.regs.length ≤ 1099511627776) (ho : InOrd RegR.key Op.bytesLess C.regs) (hv : I64ok ver) (hall : ∀ x ∈ C.regs, x.text.length ≤ 1099511627776 ∧ I64ok x.ver) :
    Calls Tryz.prog 10 #[C.val h, .string (str key), .int .i64 ver] w fun e w' => e = .returned (.tuple #[.string (str (regsay C key ver).1), .int .i64 ((regsay C key ver).2 : Nat)]) ∧ Ext no w w' := by
  obtain ⟨V, hV⟩ : ∃ V, V = regsay C key ver := ⟨_, rfl⟩
  rw [← hV]
  have HV := Lib.hid hV
  clear hV
  go_enter Tryz.func10, Tryz.ntmps10
  unfold CollR.val
  go_upto_region 1 with fail
  have hC := Blk.lit w #[.slice h.v C.v.length h.vc, .slice h.r C.regs.length h.rc, .slice h.e C.elems.length h.ec, .slice h.g C.gone.length h.gc, .slice h.s C.sums.length h.sc, .slice h.b C.binds.length h.bc] 31
  have hx1 := Ext.alloc no w (.cells #[.slice h.v C.v.length h.vc, .slice h.r C.regs.length h.rc, .slice h.e C.elems.length h.ec, .slice h.g C.gone.length h.gc, .slice h.s C.sums.length h.sc, .slice h.b C.binds.length h.bc] 31)
  generalize w.alloc (.cells #[.slice h.v C.v.length h.vc, .slice h.r C.regs.length h.rc, .slice h.e C.elems.length h.ec, .slice h.g C.gone.length h.gc, .slice h.s C.sums.length h.sc, .slice h.b C.binds.length h.bc] 31) = w1 at *
  have c0 := hC.cell 0 _ rfl
  have c1 := hC.cell 1 _ rfl
  have c2 := hC.cell 2 _ rfl
  have c3 := hC.cell 3 _ rfl
  have c4 := hC.cell 4 _ rfl
  have c5 := hC.cell 5 _ rfl
  have hr1 := hr.ext hx1 (fun _ _ h => h)
  go_wp2_with fail
  refine (reg_any w1 C h key hr1 hl ho).mono ?_
  rintro e w2 ⟨rfl, hx2⟩
  have hC2 := hC.ext (by simp) hx2 (fun h => h)
  have hr2 := hr1.ext hx2 (fun _ _ h => h)
  have hxx := hx1.comp hx2
  clear c0 c1 c2 c3 c4 c5
  have hlk := look_at bytesOrd key C.regs ho
  cases his : isAt RegR.key Op.bytesLess key C.regs with
  | true =>
    obtain ⟨x, hx, hxk⟩ := isAt_some his
    rw [his, if_pos rfl, hx] at hlk
    have HV' := Lib.hid (show V = (up x.text x.ver ver, upErr x.ver ver) by rw [HV.out]; unfold regsay; rw [hlk])
    generalize posOf RegR.key Op.bytesLess key C.regs = pp at *
    have hpl : pp < C.regs.length := (List.getElem?_eq_some_iff.1 hx).1
    have hxa := hall x (List.mem_of_getElem? hx)
    obtain ⟨b, off, hsb, _⟩ := rows_shape kReg (by omega) hr2 (by omega)
    rw [hsb] at hC2 hr2
    have c1 := hC2.cell 1 _ rfl
    have y1 : w2.cell? ⟨b, off + pp * 7 + 1, none⟩ = some (.string (str x.text)) := rows_cell kReg hr2 hx 1 _ rfl
    have y2 : w2.cell? ⟨b, off + pp * 7 + 2, none⟩ = some (.int .i64 x.ver) := rows_cell kReg hr2 hx 2 _ rfl
    clear his hxk hx hlk HV
    go_upto_region 4 with fail
    refine wp_region_F [1, 5, 7, 11] (looks [(1, fun z => Ext no w2 z), (5, fun z => Ext no w2 z), (7, fun z => Ext no w2 z), (11, fun z => Ext no w2 z)]) (by kernel_rfl) ?_
    have hT0 : ∀ k, looks [(1, fun z => Ext no w2 z), (5, fun z => Ext no w2 z), (7, fun z => Ext no w2 z), (11, fun z => Ext no w2 z)] k (w2.drew) := looks_all ⟨Ext.drew no w2, Ext.drew no w2, Ext.drew no w2, Ext.drew no w2, trivial⟩
    refine wpF_take 0 (v := ?_) rfl (by kernel_rfl) (by kernel_rfl) (by kernel_rfl) (fun _ _ _ h => h) hT0 (by rfl) ?_ ?_
    rotate_left
    · (intro wq; go_simp; try with_reducible rfl)
    simp only [Act.put, List.setIfInBounds_toArray, List.set_cons_zero, List.set_cons_succ]
    refine wpF_look 1 (v := .slice (some ⟨b, off, none⟩) C.regs.length h.rc) rfl rfl (by kernel_rfl) (by kernel_rfl) (by kernel_rfl) (by kernel_rfl) (fun _ _ _ h => h) hT0 (by rfl) (fun w hS => by have hS : Ext no w2 w := hS; have q0 := hS.keeps c1 (fun h => h); go_simp) ?_
    simp only [Act.put, List.setIfInBounds_toArray, List.set_cons_zero, List.set_cons_succ]
    refine wpF_take 2 (v := ?_) rfl (by kernel_rfl) (by kernel_rfl) (by kernel_rfl) (fun _ _ _ h => h) hT0 (by rfl) ?_ ?_
    rotate_left
    · (intro wq; go_simp; try with_reducible rfl)
    simp only [Act.put, List.setIfInBounds_toArray, List.set_cons_zero, List.set_cons_succ]
    refine wpF_take 3 (v := .pointer (some ⟨b, off + pp * 7, none⟩)) rfl (by kernel_rfl) (by kernel_rfl) (by kernel_rfl) (fun _ _ _ h => h) hT0 (by rfl) (by intro wq; go_simp) ?_
    simp only [Act.put, List.setIfInBounds_toArray, List.set_cons_zero, List.set_cons_succ]
    refine wpF_take 4 (v := ?_) rfl (by kernel_rfl) (by kernel_rfl) (by kernel_rfl) (fun _ _ _ h => h) hT0 (by rfl) ?_ ?_
    rotate_left
    · (intro wq; go_simp; try with_reducible rfl)
    simp only [Act.put, List.setIfInBounds_toArray, List.set_cons_zero, List.set_cons_succ]
    refine wpF_look 5 (v := .string (str x.text)) rfl rfl (by kernel_rfl) (by kernel_rfl) (by kernel_rfl) (by kernel_rfl) (fun _ _ _ h => h) hT0 (by rfl) (fun w hS => by have hS : Ext no w2 w := hS; have q0 := hS.keeps y1 (fun h => h); go_simp) ?_
    simp only [Act.put, List.setIfInBounds_toArray, List.set_cons_zero, List.set_cons_succ]
    refine wpF_take 6 (v := ?_) rfl (by kernel_rfl) (by kernel_rfl) (by kernel_rfl) (fun _ _ _ h => h) hT0 (by rfl) ?_ ?_
    rotate_left
    · (intro wq; go_simp; try with_reducible rfl)
    simp only [Act.put, List.setIfInBounds_toArray, List.set_cons_zero, List.set_cons_succ]
    refine wpF_look 7 (v := .slice (some ⟨b, off, none⟩) C.regs.length h.rc) rfl rfl (by kernel_rfl) (by kernel_rfl) (by kernel_rfl) (by kernel_rfl) (fun _ _ _ h => h) hT0 (by rfl) (fun w hS => by have hS : Ext no w2 w := hS; have q0 := hS.keeps c1 (fun h => h); go_simp) ?_
    simp only [Act.put, List.setIfInBounds_toArray, List.set_cons_zero, List.set_cons_succ]
    refine wpF_take 8 (v := ?_) rfl (by kernel_rfl) (by kernel_rfl) (by kernel_rfl) (fun _ _ _ h => h) hT0 (by rfl) ?_ ?_
    rotate_left
    · (intro wq; go_simp; try with_reducible rfl)
    simp only [Act.put, List.setIfInBounds_toArray, List.set_cons_zero, List.set_cons_succ]
    refine wpF_take 9 (v := .pointer (some ⟨b, off + pp * 7, none⟩)) rfl (by kernel_rfl) (by kernel_rfl) (by kernel_rfl) (fun _ _ _ h => h) hT0 (by rfl) (by intro wq; go_simp) ?_
    simp only [Act.put, List.setIfInBounds_toArray, List.set_cons_zero, List.set_cons_succ]
    refine wpF_take 10 (v := ?_) rfl (by kernel_rfl) (by kernel_rfl) (by kernel_rfl) (fun _ _ _ h => h) hT0 (by rfl) ?_ ?_
    rotate_left
    · (intro wq; go_simp; try with_reducible rfl)
    simp only [Act.put, List.setIfInBounds_toArray, List.set_cons_zero, List.set_cons_succ]
    refine wpF_look 11 (v := .int .i64 x.ver) rfl rfl (by kernel_rfl) (by kernel_rfl) (by kernel_rfl) (by kernel_rfl) (fun _ _ _ h => h) hT0 (by rfl) (fun w hS => by have hS : Ext no w2 w := hS; have q0 := hS.keeps y2 (fun h => h); go_simp) ?_
    simp only [Act.put, List.setIfInBounds_toArray, List.set_cons_zero, List.set_cons_succ]
    refine wpF_take 12 (v := ?_) rfl (by kernel_rfl) (by kernel_rfl) (by kernel_rfl) (fun _ _ _ h => h) hT0 (by rfl) ?_ ?_
    rotate_left
    · (intro wq; go_simp; try with_reducible rfl)
    simp only [Act.put, List.setIfInBounds_toArray, List.set_cons_zero, List.set_cons_succ]
    refine wpF_exec 13 rfl (by kernel_rfl) (by rfl) ?_
    intro K hK
    go_simp
    refine (up_any _ x.text hxa.1 x.ver ver hxa.2 hv).mono ?_
    rintro e w3 ⟨rfl, hx3⟩
    have hT1 : ∀ k, looks [(1, fun z => Ext no w2 z), (5, fun z => Ext no w2 z), (7, fun z => Ext no w2 z), (11, fun z => Ext no w2 z)] k (w3) := looks_all ⟨(Ext.drew no w2).comp hx3, (Ext.drew no w2).comp hx3, (Ext.drew no w2).comp hx3, (Ext.drew no w2).comp hx3, trivial⟩
    refine hK _ _ (looks [(1, fun z => Ext no w2 z), (5, fun z => Ext no w2 z), (7, fun z => Ext no w2 z), (11, fun z => Ext no w2 z)]) ⟨.inr (.inl (by kernel_rfl)), .inr (.inl (by kernel_rfl)), .inr (.inl (by kernel_rfl)), .inr (.inl (by kernel_rfl)), trivial⟩ hT1 ?_
    clear hK K
    try simp only [Act.put, List.setIfInBounds_toArray, List.set_cons_zero, List.set_cons_succ]
    refine wpF_take 14 (v := ?_) rfl (by kernel_rfl) (by kernel_rfl) (by kernel_rfl) (fun _ _ _ h => h) hT1 (by rfl) ?_ ?_
    rotate_left
    · (intro wq; go_simp; try with_reducible rfl)
    simp only [Act.put, List.setIfInBounds_toArray, List.set_cons_zero, List.set_cons_succ]
    refine wpF_take 15 (v := ?_) rfl (by kernel_rfl) (by kernel_rfl) (by kernel_rfl) (fun _ _ _ h => h) hT1 (by rfl) ?_ ?_
    rotate_left
    · (intro wq; go_simp; try with_reducible rfl)
    simp only [Act.put, List.setIfInBounds_toArray, List.set_cons_zero, List.set_cons_succ]
    refine wpF_take 16 (v := ?_) rfl (by kernel_rfl) (by kernel_rfl) (by kernel_rfl) (fun _ _ _ h => h) hT1 (by rfl) ?_ ?_
    rotate_left
    · (intro wq; go_simp; try with_reducible rfl)
    simp only [Act.put, List.setIfInBounds_toArray, List.set_cons_zero, List.set_cons_succ]
    refine wpF_take 17 (v := ?_) rfl (by kernel_rfl) (by kernel_rfl) (by kernel_rfl) (fun _ _ _ h => h) hT1 (by rfl) ?_ ?_
    rotate_left
    · (intro wq; go_simp; try with_reducible rfl)
    simp only [Act.put, List.setIfInBounds_toArray, List.set_cons_zero, List.set_cons_succ]
    refine wpF_done (by kernel_rfl) ?_ _
    go_wp2_with fail
    go_ret2
    exact ⟨by rw [HV'.out]; rfl, hxx.comp ((Ext.drew no w2).comp hx3)⟩
  | false =>
    rw [his] at hlk
    have HV' := Lib.hid (show V = ([], 2) by rw [HV.out]; unfold regsay; rw [hlk]; rfl)
    generalize posOf RegR.key Op.bytesLess key C.regs = pp at *
    clear his hlk HV
    go_wp2_with fail
    go_ret2
    exact ⟨by rw [HV'.out]; rfl, hxx⟩

def bindsay (C : CollR) (key : Int) (ver : Int) : List UInt8 × Nat := match Go.Esc.look BindR.id key C.binds with
  | some x => (up x.text x.ver ver, upErr x.ver ver)
  | none => ([], 2)
set_option maxRecDepth 100000 in
set_option maxHeartbeats 2000000 in
theorem bindsay_any (w : World) (C : CollR) (h : Six) (key : Int) (ver : Int) (hr : Rd w h.b (rows BindR.cells C.binds)) (hl : C.binds.length ≤ 1099511627776) (ho : InOrd BindR.id intLt C.binds) (hv : I64ok ver) (hall : ∀ x ∈ C.binds, x.text.length ≤ 1099511627776 ∧ I64ok x.ver) :
    Calls Tryz.prog 11 #[C.val h, .int .i64 key, .int .i64 ver] w fun e w' => e = .returned (.tuple #[.string (str (bindsay C key ver).1), .int .i64 ((bindsay C key ver).2 : Nat)]) ∧ Ext no w w' := by
  obtain ⟨V, hV⟩ : ∃ V, V = bindsay C key ver := ⟨_, rfl⟩
  rw [← hV]
  have HV := Lib.hid hV
  clear hV
  go_enter Tryz.func11, Tryz.ntmps11
  unfold CollR.val
  go_upto_region 1 with fail
  have hC := Blk.lit w #[.slice h.v C.v.length h.vc, .slice h.r C.regs.length h.rc, .slice h.e C.elems.length h.ec, .slice h.g C.gone.length h.gc, .slice h.s C.sums.length h.sc, .slice h.b C.binds.length h.bc] 31
  have hx1 := Ext.alloc no w (.cells #[.slice h.v C.v.length h.vc, .slice h.r C.regs.length h.rc, .slice h.e C.elems.length h.ec, .slice h.g C.gone.length h.gc, .slice h.s C.sums.length h.sc, .slice h.b C.binds.length h.bc] 31)
  generalize w.alloc (.cells #[.slice h.v C.v.length h.vc, .slice h.r C.regs.length h.rc, .slice h.e C.elems.length h.ec, .slice h.g C.gone.length h.gc, .slice h.s C.sums.length h.sc, .slice h.b C.binds.length h.bc] 31) = w1 at *
  have c0 := hC.cell 0 _ rfl
  have c1 := hC.cell 1 _ rfl
  have c2 := hC.cell 2 _ rfl
  have c3 := hC.cell 3 _ rfl
  have c4 := hC.cell 4 _ rfl
  have c5 := hC.cell 5 _ rfl
  have hr1 := hr.ext hx1 (fun _ _ h => h)
  go_wp2_with fail
  refine (bind_any w1 C h key hr1 hl ho).mono ?_
  rintro e w2 ⟨rfl, hx2⟩
  have hC2 := hC.ext (by simp) hx2 (fun h => h)
  have hr2 := hr1.ext hx2 (fun _ _ h => h)
  have hxx := hx1.comp hx2
  clear c0 c1 c2 c3 c4 c5
  have hlk := look_at intOrd key C.binds ho
  cases his : isAt BindR.id intLt key C.binds with
  | true =>
    obtain ⟨x, hx, hxk⟩ := isAt_some his
    rw [his, if_pos rfl, hx] at hlk
    have HV' := Lib.hid (show V = (up x.text x.ver ver, upErr x.ver ver) by rw [HV.out]; unfold bindsay; rw [hlk])
    generalize posOf BindR.id intLt key C.binds = pp at *
    have hpl : pp < C.binds.length := (List.getElem?_eq_some_iff.1 hx).1
    have hxa := hall x (List.mem_of_getElem? hx)
    obtain ⟨b, off, hsb, _⟩ := rows_shape kBind (by omega) hr2 (by omega)
    rw [hsb] at hC2 hr2
    have c5 := hC2.cell 5 _ rfl
    have y1 : w2.cell? ⟨b, off + pp * 6 + 1, none⟩ = some (.string (str x.text)) := rows_cell kBind hr2 hx 1 _ rfl
    have y2 : w2.cell? ⟨b, off + pp * 6 + 2, none⟩ = some (.int .i64 x.ver) := rows_cell kBind hr2 hx 2 _ rfl
    clear his hxk hx hlk HV
    go_upto_region 4 with fail
    refine wp_region_F [1, 5, 7, 11] (looks [(1, fun z => Ext no w2 z), (5, fun z => Ext no w2 z), (7, fun z => Ext no w2 z), (11, fun z => Ext no w2 z)]) (by kernel_rfl) ?_
    have hT0 : ∀ k, looks [(1, fun z => Ext no w2 z), (5, fun z => Ext no w2 z), (7, fun z => Ext no w2 z), (11, fun z => Ext no w2 z)] k (w2.drew) := looks_all ⟨Ext.drew no w2, Ext.drew no w2, Ext.drew no w2, Ext.drew no w2, trivial⟩
    refine wpF_take 0 (v := ?_) rfl (by kernel_rfl) (by kernel_rfl) (by kernel_rfl) (fun _ _ _ h => h) hT0 (by rfl) ?_ ?_
    rotate_left
    · (intro wq; go_simp; try with_reducible rfl)
    simp only [Act.put, List.setIfInBounds_toArray, List.set_cons_zero, List.set_cons_succ]
    refine wpF_look 1 (v := .slice (some ⟨b, off, none⟩) C.binds.length h.bc) rfl rfl (by kernel_rfl) (by kernel_rfl) (by kernel_rfl) (by kernel_rfl) (fun _ _ _ h => h) hT0 (by rfl) (fun w hS => by have hS : Ext no w2 w := hS; have q0 := hS.keeps c5 (fun h => h); go_simp) ?_
    simp only [Act.put, List.setIfInBounds_toArray, List.set_cons_zero, List.set_cons_succ]
    refine wpF_take 2 (v := ?_) rfl (by kernel_rfl) (by kernel_rfl) (by kernel_rfl) (fun _ _ _ h => h) hT0 (by rfl) ?_ ?_
    rotate_left
    · (intro wq; go_simp; try with_reducible rfl)
    simp only [Act.put, List.setIfInBounds_toArray, List.set_cons_zero, List.set_cons_succ]
    refine wpF_take 3 (v := .pointer (some ⟨b, off + pp * 6, none⟩)) rfl (by kernel_rfl) (by kernel_rfl) (by kernel_rfl) (fun _ _ _ h => h) hT0 (by rfl) (by intro wq; go_simp) ?_
    simp only [Act.put, List.setIfInBounds_toArray, List.set_cons_zero, List.set_cons_succ]
    refine wpF_take 4 (v := ?_) rfl (by kernel_rfl) (by kernel_rfl) (by kernel_rfl) (fun _ _ _ h => h) hT0 (by rfl) ?_ ?_
    rotate_left
    · (intro wq; go_simp; try with_reducible rfl)
    simp only [Act.put, List.setIfInBounds_toArray, List.set_cons_zero, List.set_cons_succ]
    refine wpF_look 5 (v := .string (str x.text)) rfl rfl (by kernel_rfl) (by kernel_rfl) (by kernel_rfl) (by kernel_rfl) (fun _ _ _ h => h) hT0 (by rfl) (fun w hS => by have hS : Ext no w2 w := hS; have q0 := hS.keeps y1 (fun h => h); go_simp) ?_
    simp only [Act.put, List.setIfInBounds_toArray, List.set_cons_zero, List.set_cons_succ]
    refine wpF_take 6 (v := ?_) rfl (by kernel_rfl) (by kernel_rfl) (by kernel_rfl) (fun _ _ _ h => h) hT0 (by rfl) ?_ ?_
    rotate_left
    · (intro wq; go_simp; try with_reducible rfl)
    simp only [Act.put, List.setIfInBounds_toArray, List.set_cons_zero, List.set_cons_succ]
    refine wpF_look 7 (v := .slice (some ⟨b, off, none⟩) C.binds.length h.bc) rfl rfl (by kernel_rfl) (by kernel_rfl) (by kernel_rfl) (by kernel_rfl) (fun _ _ _ h => h) hT0 (by rfl) (fun w hS => by have hS : Ext no w2 w := hS; have q0 := hS.keeps c5 (fun h => h); go_simp) ?_
    simp only [Act.put, List.setIfInBounds_toArray, List.set_cons_zero, List.set_cons_succ]
    refine wpF_take 8 (v := ?_) rfl (by kernel_rfl) (by kernel_rfl) (by kernel_rfl) (fun _ _ _ h => h) hT0 (by rfl) ?_ ?_
    rotate_left
    · (intro wq; go_simp; try with_reducible rfl)
    simp only [Act.put, List.setIfInBounds_toArray, List.set_cons_zero, List.set_cons_succ]
    refine wpF_take 9 (v := .pointer (some ⟨b, off + pp * 6, none⟩)) rfl (by kernel_rfl) (by kernel_rfl) (by kernel_rfl) (fun _ _ _ h => h) hT0 (by rfl) (by intro wq; go_simp) ?_
    simp only [Act.put, List.setIfInBounds_toArray, List.set_cons_zero, List.set_cons_succ]
    refine wpF_take 10 (v := ?_) rfl (by kernel_rfl) (by kernel_rfl) (by kernel_rfl) (fun _ _ _ h => h) hT0 (by rfl) ?_ ?_
    rotate_left
    · (intro wq; go_simp; try with_reducible rfl)
    simp only [Act.put, List.setIfInBounds_toArray, List.set_cons_zero, List.set_cons_succ]
    refine wpF_look 11 (v := .int .i64 x.ver) rfl rfl (by kernel_rfl) (by kernel_rfl) (by kernel_rfl) (by kernel_rfl) (fun _ _ _ h => h) hT0 (by rfl) (fun w hS => by have hS : Ext no w2 w := hS; have q0 := hS.keeps y2 (fun h => h); go_simp) ?_
    simp only [Act.put, List.setIfInBounds_toArray, List.set_cons_zero, List.set_cons_succ]
    refine wpF_take 12 (v := ?_) rfl (by kernel_rfl) (by kernel_rfl) (by kernel_rfl) (fun _ _ _ h => h) hT0 (by rfl) ?_ ?_
    rotate_left
    · (intro wq; go_simp; try with_reducible rfl)
    simp only [Act.put, List.setIfInBounds_toArray, List.set_cons_zero, List.set_cons_succ]
    refine wpF_exec 13 rfl (by kernel_rfl) (by rfl) ?_
    intro K hK
    go_simp
    refine (up_any _ x.text hxa.1 x.ver ver hxa.2 hv).mono ?_
    rintro e w3 ⟨rfl, hx3⟩
    have hT1 : ∀ k, looks [(1, fun z => Ext no w2 z), (5, fun z => Ext no w2 z), (7, fun z => Ext no w2 z), (11, fun z => Ext no w2 z)] k (w3) := looks_all ⟨(Ext.drew no w2).comp hx3, (Ext.drew no w2).comp hx3, (Ext.drew no w2).comp hx3, (Ext.drew no w2).comp hx3, trivial⟩
    refine hK _ _ (looks [(1, fun z => Ext no w2 z), (5, fun z => Ext no w2 z), (7, fun z => Ext no w2 z), (11, fun z => Ext no w2 z)]) ⟨.inr (.inl (by kernel_rfl)), .inr (.inl (by kernel_rfl)), .inr (.inl (by kernel_rfl)), .inr (.inl (by kernel_rfl)), trivial⟩ hT1 ?_
    clear hK K
    try simp only [Act.put, List.setIfInBounds_toArray, List.set_cons_zero, List.set_cons_succ]
    refine wpF_take 14 (v := ?_) rfl (by kernel_rfl) (by kernel_rfl) (by kernel_rfl) (fun _ _ _ h => h) hT1 (by rfl) ?_ ?_
    rotate_left
    · (intro wq; go_simp; try with_reducible rfl)
    simp only [Act.put, List.setIfInBounds_toArray, List.set_cons_zero, List.set_cons_succ]
    refine wpF_take 15 (v := ?_) rfl (by kernel_rfl) (by kernel_rfl) (by kernel_rfl) (fun _ _ _ h => h) hT1 (by rfl) ?_ ?_
    rotate_left
    · (intro wq; go_simp; try with_reducible rfl)
    simp only [Act.put, List.setIfInBounds_toArray, List.set_cons_zero, List.set_cons_succ]
    refine wpF_take 16 (v := ?_) rfl (by kernel_rfl) (by kernel_rfl) (by kernel_rfl) (fun _ _ _ h => h) hT1 (by rfl) ?_ ?_
    rotate_left
    · (intro wq; go_simp; try with_reducible rfl)
    simp only [Act.put, List.setIfInBounds_toArray, List.set_cons_zero, List.set_cons_succ]
    refine wpF_take 17 (v := ?_) rfl (by kernel_rfl) (by kernel_rfl) (by kernel_rfl) (fun _ _ _ h => h) hT1 (by rfl) ?_ ?_
    rotate_left
    · (intro wq; go_simp; try with_reducible rfl)
    simp only [Act.put, List.setIfInBounds_toArray, List.set_cons_zero, List.set_cons_succ]
    refine wpF_done (by kernel_rfl) ?_ _
    go_wp2_with fail
    go_ret2
    exact ⟨by rw [HV'.out]; rfl, hxx.comp ((Ext.drew no w2).comp hx3)⟩
  | false =>
    rw [his] at hlk
    have HV' := Lib.hid (show V = ([], 2) by rw [HV.out]; unfold bindsay; rw [hlk]; rfl)
    generalize posOf BindR.id intLt key C.binds = pp at *
    clear his hlk HV
    go_wp2_with fail
    go_ret2
    exact ⟨by rw [HV'.out]; rfl, hxx⟩

end Go.Proofs.YtejmmkjpncpedaaGreatDoor
