/- The walk of CollVers. -/
import Derived.Test.YtejmmkjpncpedaaGreatDoorCoV
import Derived.Test.YtejmmkjpncpedaaGreatDoorMeC
namespace Go.Proofs.YtejmmkjpncpedaaGreatDoor
open Go.RowKit Go.Esc
set_option linter.unusedVariables false
set_option linter.unusedSimpArgs false

theorem isMem_one {x : ElemR} {key : List UInt8} {ver : Int} {L : List (List UInt8)} (h : isMem [x] key ver L) (hk : x.key = key) : L = [up x.text x.ver ver] := by
  obtain ⟨ss, rfl, h1, h2⟩ := h
  have hm : ∀ t, t ∈ ss ↔ t = up x.text x.ver ver := by
    intro t
    rw [h2]
    unfold memTexts
    simp [hk]
  have hs : ss = [up x.text x.ver ver] := by
    match ss, h1, hm with
    | [], _, hm => have := (hm _).2 rfl; cases this
    | [a], _, hm => rw [(hm a).1 (by simp)]
    | a :: b :: l, h1, hm =>
      have ha := (hm a).1 (by simp)
      have hb := (hm b).1 (by simp)
      rw [ha, hb] at h1
      simp at h1
  rw [hs]
  exact List.mergeSort_singleton _
def versOp (v k : Int) : OpR := ⟨⟨0, 1, 1⟩, 0, v, k, [107], [32, 65, 97, 32], 5, 0, []⟩

set_option maxRecDepth 100000 in
set_option maxHeartbeats 2000000 in
theorem cvers_011 (w : World) (n0 n1 n2 : Int) (h0 : I64ok n0) (h1 : I64ok n1) (h2 : I64ok n2) (e0 : n0 % 3 = 0) (e1 : n1 % 3 = 0) (e2 : n2 % 3 = 0) :
    Calls Tryz.prog 6 #[.int .i64 n0, .int .i64 n1, .int .i64 n2] w fun e w' => e = .returned (.bool true) ∧ Ext no w w' := by
  have k0 := fun w => cowithin_any n0 3 w (by omega) (by omega) h0
  have k1 := fun w => cowithin_any n1 3 w (by omega) (by omega) h1
  have k2 := fun w => cowithin_any n2 3 w (by omega) (by omega) h2
  rw [e0] at k0
  rw [e1] at k1
  rw [e2] at k2
  have K0 := Lib.hid k0
  have K1 := Lib.hid k1
  have K2 := Lib.hid k2
  clear k0 k1 k2 e0 e1 e2
  go_enter Tryz.func6, Tryz.ntmps6
  go_wp2_with fail
  refine (known_any w).mono ?_
  rintro e w0 ⟨rfl, hx0⟩
  go_wp2_with fail
  refine (K0.out w0).mono ?_
  rintro e w1 ⟨rfl, rfl⟩
  go_wp2_with fail
  refine (K1.out w0).mono ?_
  rintro e w1 ⟨rfl, rfl⟩
  go_wp2_with fail
  refine (K2.out _).mono ?_
  rintro e w1 ⟨rfl, rfl⟩
  have hxs := Ext.alloc no w0 (.cells #[.int .i64 1, .int .i64 2, .int .i64 5] 3)
  have hS := Blk.lit w0 #[.int .i64 1, .int .i64 2, .int .i64 5] 3
  have s0 := hS.cell 0 _ rfl
  go_wp2_with fail
  refine (apply_any _ CollR.nil six0 (versOp 1 1) none 0 (nil_in _) (CollR.small_nil.mono (by omega)) CollR.fine_nil.ok (Rd.nil _ _) (Nat.zero_le _) (by decide) (by decide)).mono ?_
  rintro e w2 ⟨k1, rfl, hm2, hx2⟩
  have hf := CollR.fine_nil.apply (versOp 1 1)
  have hsm := CollR.small_nil.apply (versOp 1 1)
  have he : applyErr CollR.nil (versOp 1 1) = 0 := by decide
  rw [he]
  have hc : (applyC CollR.nil (versOp 1 1)).regs = [⟨[107], [32, 65, 97, 32], 1, 0, ⟨0, 1, 1⟩⟩] := rfl
  generalize applyC CollR.nil (versOp 1 1) = C1 at *
  have Hc := Lib.hid hc
  unfold CollR.val
  have hxx := (hx0.comp hxs).comp hx2
  clear he hc hS s0 hxs hx0 hx2
  obtain ⟨gc, hgc⟩ : ∃ gc, gc = w2.heap.size := ⟨_, rfl⟩
  go_upto_region 6 with fail
  rw [← hgc]
  have hC := Blk.at w2 #[.slice k1.v C1.v.length k1.vc, .slice k1.r C1.regs.length k1.rc, .slice k1.e C1.elems.length k1.ec, .slice k1.g C1.gone.length k1.gc, .slice k1.s C1.sums.length k1.sc, .slice k1.b C1.binds.length k1.bc] 31 gc hgc
  have hxb := Ext.alloc no w2 (.cells #[.slice k1.v C1.v.length k1.vc, .slice k1.r C1.regs.length k1.rc, .slice k1.e C1.elems.length k1.ec, .slice k1.g C1.gone.length k1.gc, .slice k1.s C1.sums.length k1.sc, .slice k1.b C1.binds.length k1.bc] 31)
  have hm3 := hm2.no hxb
  have hx3 := hxx.comp hxb
  generalize w2.alloc (.cells #[.slice k1.v C1.v.length k1.vc, .slice k1.r C1.regs.length k1.rc, .slice k1.e C1.elems.length k1.ec, .slice k1.g C1.gone.length k1.gc, .slice k1.s C1.sums.length k1.sc, .slice k1.b C1.binds.length k1.bc] 31) = w3 at *
  clear hm2 hxx hxb hgc
  have c0 := hC.cell 0 _ rfl
  have c1 := hC.cell 1 _ rfl
  have c2 := hC.cell 2 _ rfl
  have c3 := hC.cell 3 _ rfl
  have c4 := hC.cell 4 _ rfl
  have c5 := hC.cell 5 _ rfl
  go_wp2_with fail
  refine (regsay_any w3 C1 k1 [107] 1 hm3.r.rd (by have := hsm.r; omega) hf.ok.r (by unfold I64ok; omega) (fun x hx => by rw [Hc.out] at hx; rw [List.mem_singleton.1 hx]; exact ⟨by decide, by unfold I64ok; decide⟩)).mono ?_
  rintro e w4 ⟨rfl, hx4⟩
  have hsay : regsay C1 [107] 1 = ([32, 65, 97, 32], 0) := by unfold regsay; rw [Hc.out]; rfl
  rw [hsay]
  clear hsay
  have t0 : ((str [32, 65, 97, 32]).toList == ([32, 65, 97, 32] : List UInt8)) = true := by rw [toList_str]; rfl
  go_wp2_with fail
  go_ret
  exact ⟨rfl, hx3.comp hx4⟩

set_option maxRecDepth 100000 in
set_option maxHeartbeats 2000000 in
theorem cvers_012 (w : World) (n0 n1 n2 : Int) (h0 : I64ok n0) (h1 : I64ok n1) (h2 : I64ok n2) (e0 : n0 % 3 = 0) (e1 : n1 % 3 = 1) (e2 : n2 % 3 = 0) :
    Calls Tryz.prog 6 #[.int .i64 n0, .int .i64 n1, .int .i64 n2] w fun e w' => e = .returned (.bool true) ∧ Ext no w w' := by
  have k0 := fun w => cowithin_any n0 3 w (by omega) (by omega) h0
  have k1 := fun w => cowithin_any n1 3 w (by omega) (by omega) h1
  have k2 := fun w => cowithin_any n2 3 w (by omega) (by omega) h2
  rw [e0] at k0
  rw [e1] at k1
  rw [e2] at k2
  have K0 := Lib.hid k0
  have K1 := Lib.hid k1
  have K2 := Lib.hid k2
  clear k0 k1 k2 e0 e1 e2
  go_enter Tryz.func6, Tryz.ntmps6
  go_wp2_with fail
  refine (known_any w).mono ?_
  rintro e w0 ⟨rfl, hx0⟩
  go_wp2_with fail
  refine (K0.out w0).mono ?_
  rintro e w1 ⟨rfl, rfl⟩
  go_wp2_with fail
  refine (K1.out w0).mono ?_
  rintro e w1 ⟨rfl, rfl⟩
  go_wp2_with fail
  refine (K2.out _).mono ?_
  rintro e w1 ⟨rfl, rfl⟩
  have hxs := Ext.alloc no w0 (.cells #[.int .i64 1, .int .i64 2, .int .i64 5] 3)
  have hS := Blk.lit w0 #[.int .i64 1, .int .i64 2, .int .i64 5] 3
  have s0 := hS.cell 0 _ rfl
  go_wp2_with fail
  refine (apply_any _ CollR.nil six0 (versOp 1 1) none 0 (nil_in _) (CollR.small_nil.mono (by omega)) CollR.fine_nil.ok (Rd.nil _ _) (Nat.zero_le _) (by decide) (by decide)).mono ?_
  rintro e w2 ⟨k1, rfl, hm2, hx2⟩
  have hf := CollR.fine_nil.apply (versOp 1 1)
  have hsm := CollR.small_nil.apply (versOp 1 1)
  have he : applyErr CollR.nil (versOp 1 1) = 0 := by decide
  rw [he]
  have hc : (applyC CollR.nil (versOp 1 1)).regs = [⟨[107], [32, 65, 97, 32], 1, 0, ⟨0, 1, 1⟩⟩] := rfl
  generalize applyC CollR.nil (versOp 1 1) = C1 at *
  have Hc := Lib.hid hc
  unfold CollR.val
  have hxx := (hx0.comp hxs).comp hx2
  clear he hc hS s0 hxs hx0 hx2
  obtain ⟨gc, hgc⟩ : ∃ gc, gc = w2.heap.size := ⟨_, rfl⟩
  go_upto_region 6 with fail
  rw [← hgc]
  have hC := Blk.at w2 #[.slice k1.v C1.v.length k1.vc, .slice k1.r C1.regs.length k1.rc, .slice k1.e C1.elems.length k1.ec, .slice k1.g C1.gone.length k1.gc, .slice k1.s C1.sums.length k1.sc, .slice k1.b C1.binds.length k1.bc] 31 gc hgc
  have hxb := Ext.alloc no w2 (.cells #[.slice k1.v C1.v.length k1.vc, .slice k1.r C1.regs.length k1.rc, .slice k1.e C1.elems.length k1.ec, .slice k1.g C1.gone.length k1.gc, .slice k1.s C1.sums.length k1.sc, .slice k1.b C1.binds.length k1.bc] 31)
  have hm3 := hm2.no hxb
  have hx3 := hxx.comp hxb
  generalize w2.alloc (.cells #[.slice k1.v C1.v.length k1.vc, .slice k1.r C1.regs.length k1.rc, .slice k1.e C1.elems.length k1.ec, .slice k1.g C1.gone.length k1.gc, .slice k1.s C1.sums.length k1.sc, .slice k1.b C1.binds.length k1.bc] 31) = w3 at *
  clear hm2 hxx hxb hgc
  have c0 := hC.cell 0 _ rfl
  have c1 := hC.cell 1 _ rfl
  have c2 := hC.cell 2 _ rfl
  have c3 := hC.cell 3 _ rfl
  have c4 := hC.cell 4 _ rfl
  have c5 := hC.cell 5 _ rfl
  go_wp2_with fail
  refine (regsay_any w3 C1 k1 [107] 2 hm3.r.rd (by have := hsm.r; omega) hf.ok.r (by unfold I64ok; omega) (fun x hx => by rw [Hc.out] at hx; rw [List.mem_singleton.1 hx]; exact ⟨by decide, by unfold I64ok; decide⟩)).mono ?_
  rintro e w4 ⟨rfl, hx4⟩
  have hsay : regsay C1 [107] 2 = ([32, 97, 97, 32], 0) := by unfold regsay; rw [Hc.out]; rfl
  rw [hsay]
  clear hsay
  have t0 : ((str [32, 97, 97, 32]).toList == ([32, 97, 97, 32] : List UInt8)) = true := by rw [toList_str]; rfl
  go_wp2_with fail
  go_ret
  exact ⟨rfl, hx3.comp hx4⟩

set_option maxRecDepth 100000 in
set_option maxHeartbeats 2000000 in
theorem cvers_013 (w : World) (n0 n1 n2 : Int) (h0 : I64ok n0) (h1 : I64ok n1) (h2 : I64ok n2) (e0 : n0 % 3 = 0) (e1 : n1 % 3 = 2) (e2 : n2 % 3 = 0) :
    Calls Tryz.prog 6 #[.int .i64 n0, .int .i64 n1, .int .i64 n2] w fun e w' => e = .returned (.bool true) ∧ Ext no w w' := by
  have k0 := fun w => cowithin_any n0 3 w (by omega) (by omega) h0
  have k1 := fun w => cowithin_any n1 3 w (by omega) (by omega) h1
  have k2 := fun w => cowithin_any n2 3 w (by omega) (by omega) h2
  rw [e0] at k0
  rw [e1] at k1
  rw [e2] at k2
  have K0 := Lib.hid k0
  have K1 := Lib.hid k1
  have K2 := Lib.hid k2
  clear k0 k1 k2 e0 e1 e2
  have hcut : ∀ w, (Instr.sliceAt 9 (.string { data := #[32, 97, 97, 32] }) (some (.int .i64 1)) (some (.int .i64 3)) none).run Tryz.prog w = .ok (.string { data := #[97, 97] }) w := fun w => by kernel_rfl
  go_enter Tryz.func6, Tryz.ntmps6
  go_wp2_with fail
  refine (known_any w).mono ?_
  rintro e w0 ⟨rfl, hx0⟩
  go_wp2_with fail
  refine (K0.out w0).mono ?_
  rintro e w1 ⟨rfl, rfl⟩
  go_wp2_with fail
  refine (K1.out w0).mono ?_
  rintro e w1 ⟨rfl, rfl⟩
  go_wp2_with fail
  refine (K2.out _).mono ?_
  rintro e w1 ⟨rfl, rfl⟩
  have hxs := Ext.alloc no w0 (.cells #[.int .i64 1, .int .i64 2, .int .i64 5] 3)
  have hS := Blk.lit w0 #[.int .i64 1, .int .i64 2, .int .i64 5] 3
  have s0 := hS.cell 0 _ rfl
  go_wp2_with fail
  refine (apply_any _ CollR.nil six0 (versOp 1 1) none 0 (nil_in _) (CollR.small_nil.mono (by omega)) CollR.fine_nil.ok (Rd.nil _ _) (Nat.zero_le _) (by decide) (by decide)).mono ?_
  rintro e w2 ⟨k1, rfl, hm2, hx2⟩
  have hf := CollR.fine_nil.apply (versOp 1 1)
  have hsm := CollR.small_nil.apply (versOp 1 1)
  have he : applyErr CollR.nil (versOp 1 1) = 0 := by decide
  rw [he]
  have hc : (applyC CollR.nil (versOp 1 1)).regs = [⟨[107], [32, 65, 97, 32], 1, 0, ⟨0, 1, 1⟩⟩] := rfl
  generalize applyC CollR.nil (versOp 1 1) = C1 at *
  have Hc := Lib.hid hc
  unfold CollR.val
  have hxx := (hx0.comp hxs).comp hx2
  clear he hc hS s0 hxs hx0 hx2
  obtain ⟨gc, hgc⟩ : ∃ gc, gc = w2.heap.size := ⟨_, rfl⟩
  go_upto_region 6 with fail
  rw [← hgc]
  have hC := Blk.at w2 #[.slice k1.v C1.v.length k1.vc, .slice k1.r C1.regs.length k1.rc, .slice k1.e C1.elems.length k1.ec, .slice k1.g C1.gone.length k1.gc, .slice k1.s C1.sums.length k1.sc, .slice k1.b C1.binds.length k1.bc] 31 gc hgc
  have hxb := Ext.alloc no w2 (.cells #[.slice k1.v C1.v.length k1.vc, .slice k1.r C1.regs.length k1.rc, .slice k1.e C1.elems.length k1.ec, .slice k1.g C1.gone.length k1.gc, .slice k1.s C1.sums.length k1.sc, .slice k1.b C1.binds.length k1.bc] 31)
  have hm3 := hm2.no hxb
  have hx3 := hxx.comp hxb
  generalize w2.alloc (.cells #[.slice k1.v C1.v.length k1.vc, .slice k1.r C1.regs.length k1.rc, .slice k1.e C1.elems.length k1.ec, .slice k1.g C1.gone.length k1.gc, .slice k1.s C1.sums.length k1.sc, .slice k1.b C1.binds.length k1.bc] 31) = w3 at *
  clear hm2 hxx hxb hgc
  have c0 := hC.cell 0 _ rfl
  have c1 := hC.cell 1 _ rfl
  have c2 := hC.cell 2 _ rfl
  have c3 := hC.cell 3 _ rfl
  have c4 := hC.cell 4 _ rfl
  have c5 := hC.cell 5 _ rfl
  go_wp2_with fail
  refine (regsay_any w3 C1 k1 [107] 3 hm3.r.rd (by have := hsm.r; omega) hf.ok.r (by unfold I64ok; omega) (fun x hx => by rw [Hc.out] at hx; rw [List.mem_singleton.1 hx]; exact ⟨by decide, by unfold I64ok; decide⟩)).mono ?_
  rintro e w4 ⟨rfl, hx4⟩
  have hsay : regsay C1 [107] 3 = ([97, 97], 0) := by unfold regsay; rw [Hc.out]; rfl
  rw [hsay]
  clear hsay
  have t0 : ((str [97, 97]).toList == ([97, 97] : List UInt8)) = true := by rw [toList_str]; rfl
  go_wp2_with fail
  go_ret
  exact ⟨rfl, hx3.comp hx4⟩

set_option maxRecDepth 100000 in
set_option maxHeartbeats 2000000 in
theorem cvers_021 (w : World) (n0 n1 n2 : Int) (h0 : I64ok n0) (h1 : I64ok n1) (h2 : I64ok n2) (e0 : n0 % 3 = 1) (e1 : n1 % 3 = 0) (e2 : n2 % 3 = 0) :
    Calls Tryz.prog 6 #[.int .i64 n0, .int .i64 n1, .int .i64 n2] w fun e w' => e = .returned (.bool true) ∧ Ext no w w' := by
  have k0 := fun w => cowithin_any n0 3 w (by omega) (by omega) h0
  have k1 := fun w => cowithin_any n1 3 w (by omega) (by omega) h1
  have k2 := fun w => cowithin_any n2 3 w (by omega) (by omega) h2
  rw [e0] at k0
  rw [e1] at k1
  rw [e2] at k2
  have K0 := Lib.hid k0
  have K1 := Lib.hid k1
  have K2 := Lib.hid k2
  clear k0 k1 k2 e0 e1 e2
  go_enter Tryz.func6, Tryz.ntmps6
  go_wp2_with fail
  refine (known_any w).mono ?_
  rintro e w0 ⟨rfl, hx0⟩
  go_wp2_with fail
  refine (K0.out w0).mono ?_
  rintro e w1 ⟨rfl, rfl⟩
  go_wp2_with fail
  refine (K1.out w0).mono ?_
  rintro e w1 ⟨rfl, rfl⟩
  go_wp2_with fail
  refine (K2.out _).mono ?_
  rintro e w1 ⟨rfl, rfl⟩
  have hxs := Ext.alloc no w0 (.cells #[.int .i64 1, .int .i64 2, .int .i64 5] 3)
  have hS := Blk.lit w0 #[.int .i64 1, .int .i64 2, .int .i64 5] 3
  have s0 := hS.cell 0 _ rfl
  go_wp2_with fail
  refine (apply_any _ CollR.nil six0 (versOp 2 1) none 0 (nil_in _) (CollR.small_nil.mono (by omega)) CollR.fine_nil.ok (Rd.nil _ _) (Nat.zero_le _) (by decide) (by decide)).mono ?_
  rintro e w2 ⟨k1, rfl, hm2, hx2⟩
  have hf := CollR.fine_nil.apply (versOp 2 1)
  have hsm := CollR.small_nil.apply (versOp 2 1)
  have he : applyErr CollR.nil (versOp 2 1) = 0 := by decide
  rw [he]
  have hc : (applyC CollR.nil (versOp 2 1)).regs = [⟨[107], [32, 65, 97, 32], 2, 0, ⟨0, 1, 1⟩⟩] := rfl
  generalize applyC CollR.nil (versOp 2 1) = C1 at *
  have Hc := Lib.hid hc
  unfold CollR.val
  have hxx := (hx0.comp hxs).comp hx2
  clear he hc hS s0 hxs hx0 hx2
  obtain ⟨gc, hgc⟩ : ∃ gc, gc = w2.heap.size := ⟨_, rfl⟩
  go_upto_region 6 with fail
  rw [← hgc]
  have hC := Blk.at w2 #[.slice k1.v C1.v.length k1.vc, .slice k1.r C1.regs.length k1.rc, .slice k1.e C1.elems.length k1.ec, .slice k1.g C1.gone.length k1.gc, .slice k1.s C1.sums.length k1.sc, .slice k1.b C1.binds.length k1.bc] 31 gc hgc
  have hxb := Ext.alloc no w2 (.cells #[.slice k1.v C1.v.length k1.vc, .slice k1.r C1.regs.length k1.rc, .slice k1.e C1.elems.length k1.ec, .slice k1.g C1.gone.length k1.gc, .slice k1.s C1.sums.length k1.sc, .slice k1.b C1.binds.length k1.bc] 31)
  have hm3 := hm2.no hxb
  have hx3 := hxx.comp hxb
  generalize w2.alloc (.cells #[.slice k1.v C1.v.length k1.vc, .slice k1.r C1.regs.length k1.rc, .slice k1.e C1.elems.length k1.ec, .slice k1.g C1.gone.length k1.gc, .slice k1.s C1.sums.length k1.sc, .slice k1.b C1.binds.length k1.bc] 31) = w3 at *
  clear hm2 hxx hxb hgc
  have c0 := hC.cell 0 _ rfl
  have c1 := hC.cell 1 _ rfl
  have c2 := hC.cell 2 _ rfl
  have c3 := hC.cell 3 _ rfl
  have c4 := hC.cell 4 _ rfl
  have c5 := hC.cell 5 _ rfl
  go_wp2_with fail
  refine (regsay_any w3 C1 k1 [107] 1 hm3.r.rd (by have := hsm.r; omega) hf.ok.r (by unfold I64ok; omega) (fun x hx => by rw [Hc.out] at hx; rw [List.mem_singleton.1 hx]; exact ⟨by decide, by unfold I64ok; decide⟩)).mono ?_
  rintro e w4 ⟨rfl, hx4⟩
  have hsay : regsay C1 [107] 1 = ([], 13) := by unfold regsay; rw [Hc.out]; rfl
  rw [hsay]
  clear hsay
  have t0 : (str []).toList.isEmpty = true := beqEmptyT rfl
  go_wp2_with fail
  go_ret
  exact ⟨rfl, hx3.comp hx4⟩

set_option maxRecDepth 100000 in
set_option maxHeartbeats 2000000 in
theorem cvers_022 (w : World) (n0 n1 n2 : Int) (h0 : I64ok n0) (h1 : I64ok n1) (h2 : I64ok n2) (e0 : n0 % 3 = 1) (e1 : n1 % 3 = 1) (e2 : n2 % 3 = 0) :
    Calls Tryz.prog 6 #[.int .i64 n0, .int .i64 n1, .int .i64 n2] w fun e w' => e = .returned (.bool true) ∧ Ext no w w' := by
  have k0 := fun w => cowithin_any n0 3 w (by omega) (by omega) h0
  have k1 := fun w => cowithin_any n1 3 w (by omega) (by omega) h1
  have k2 := fun w => cowithin_any n2 3 w (by omega) (by omega) h2
  rw [e0] at k0
  rw [e1] at k1
  rw [e2] at k2
  have K0 := Lib.hid k0
  have K1 := Lib.hid k1
  have K2 := Lib.hid k2
  clear k0 k1 k2 e0 e1 e2
  go_enter Tryz.func6, Tryz.ntmps6
  go_wp2_with fail
  refine (known_any w).mono ?_
  rintro e w0 ⟨rfl, hx0⟩
  go_wp2_with fail
  refine (K0.out w0).mono ?_
  rintro e w1 ⟨rfl, rfl⟩
  go_wp2_with fail
  refine (K1.out w0).mono ?_
  rintro e w1 ⟨rfl, rfl⟩
  go_wp2_with fail
  refine (K2.out _).mono ?_
  rintro e w1 ⟨rfl, rfl⟩
  have hxs := Ext.alloc no w0 (.cells #[.int .i64 1, .int .i64 2, .int .i64 5] 3)
  have hS := Blk.lit w0 #[.int .i64 1, .int .i64 2, .int .i64 5] 3
  have s0 := hS.cell 0 _ rfl
  go_wp2_with fail
  refine (apply_any _ CollR.nil six0 (versOp 2 1) none 0 (nil_in _) (CollR.small_nil.mono (by omega)) CollR.fine_nil.ok (Rd.nil _ _) (Nat.zero_le _) (by decide) (by decide)).mono ?_
  rintro e w2 ⟨k1, rfl, hm2, hx2⟩
  have hf := CollR.fine_nil.apply (versOp 2 1)
  have hsm := CollR.small_nil.apply (versOp 2 1)
  have he : applyErr CollR.nil (versOp 2 1) = 0 := by decide
  rw [he]
  have hc : (applyC CollR.nil (versOp 2 1)).regs = [⟨[107], [32, 65, 97, 32], 2, 0, ⟨0, 1, 1⟩⟩] := rfl
  generalize applyC CollR.nil (versOp 2 1) = C1 at *
  have Hc := Lib.hid hc
  unfold CollR.val
  have hxx := (hx0.comp hxs).comp hx2
  clear he hc hS s0 hxs hx0 hx2
  obtain ⟨gc, hgc⟩ : ∃ gc, gc = w2.heap.size := ⟨_, rfl⟩
  go_upto_region 6 with fail
  rw [← hgc]
  have hC := Blk.at w2 #[.slice k1.v C1.v.length k1.vc, .slice k1.r C1.regs.length k1.rc, .slice k1.e C1.elems.length k1.ec, .slice k1.g C1.gone.length k1.gc, .slice k1.s C1.sums.length k1.sc, .slice k1.b C1.binds.length k1.bc] 31 gc hgc
  have hxb := Ext.alloc no w2 (.cells #[.slice k1.v C1.v.length k1.vc, .slice k1.r C1.regs.length k1.rc, .slice k1.e C1.elems.length k1.ec, .slice k1.g C1.gone.length k1.gc, .slice k1.s C1.sums.length k1.sc, .slice k1.b C1.binds.length k1.bc] 31)
  have hm3 := hm2.no hxb
  have hx3 := hxx.comp hxb
  generalize w2.alloc (.cells #[.slice k1.v C1.v.length k1.vc, .slice k1.r C1.regs.length k1.rc, .slice k1.e C1.elems.length k1.ec, .slice k1.g C1.gone.length k1.gc, .slice k1.s C1.sums.length k1.sc, .slice k1.b C1.binds.length k1.bc] 31) = w3 at *
  clear hm2 hxx hxb hgc
  have c0 := hC.cell 0 _ rfl
  have c1 := hC.cell 1 _ rfl
  have c2 := hC.cell 2 _ rfl
  have c3 := hC.cell 3 _ rfl
  have c4 := hC.cell 4 _ rfl
  have c5 := hC.cell 5 _ rfl
  go_wp2_with fail
  refine (regsay_any w3 C1 k1 [107] 2 hm3.r.rd (by have := hsm.r; omega) hf.ok.r (by unfold I64ok; omega) (fun x hx => by rw [Hc.out] at hx; rw [List.mem_singleton.1 hx]; exact ⟨by decide, by unfold I64ok; decide⟩)).mono ?_
  rintro e w4 ⟨rfl, hx4⟩
  have hsay : regsay C1 [107] 2 = ([32, 65, 97, 32], 0) := by unfold regsay; rw [Hc.out]; rfl
  rw [hsay]
  clear hsay
  have t0 : ((str [32, 65, 97, 32]).toList == ([32, 65, 97, 32] : List UInt8)) = true := by rw [toList_str]; rfl
  go_wp2_with fail
  go_ret
  exact ⟨rfl, hx3.comp hx4⟩

set_option maxRecDepth 100000 in
set_option maxHeartbeats 2000000 in
theorem cvers_023 (w : World) (n0 n1 n2 : Int) (h0 : I64ok n0) (h1 : I64ok n1) (h2 : I64ok n2) (e0 : n0 % 3 = 1) (e1 : n1 % 3 = 2) (e2 : n2 % 3 = 0) :
    Calls Tryz.prog 6 #[.int .i64 n0, .int .i64 n1, .int .i64 n2] w fun e w' => e = .returned (.bool true) ∧ Ext no w w' := by
  have k0 := fun w => cowithin_any n0 3 w (by omega) (by omega) h0
  have k1 := fun w => cowithin_any n1 3 w (by omega) (by omega) h1
  have k2 := fun w => cowithin_any n2 3 w (by omega) (by omega) h2
  rw [e0] at k0
  rw [e1] at k1
  rw [e2] at k2
  have K0 := Lib.hid k0
  have K1 := Lib.hid k1
  have K2 := Lib.hid k2
  clear k0 k1 k2 e0 e1 e2
  have hcut : ∀ w, (Instr.sliceAt 9 (.string { data := #[32, 65, 97, 32] }) (some (.int .i64 1)) (some (.int .i64 3)) none).run Tryz.prog w = .ok (.string { data := #[65, 97] }) w := fun w => by kernel_rfl
  go_enter Tryz.func6, Tryz.ntmps6
  go_wp2_with fail
  refine (known_any w).mono ?_
  rintro e w0 ⟨rfl, hx0⟩
  go_wp2_with fail
  refine (K0.out w0).mono ?_
  rintro e w1 ⟨rfl, rfl⟩
  go_wp2_with fail
  refine (K1.out w0).mono ?_
  rintro e w1 ⟨rfl, rfl⟩
  go_wp2_with fail
  refine (K2.out _).mono ?_
  rintro e w1 ⟨rfl, rfl⟩
  have hxs := Ext.alloc no w0 (.cells #[.int .i64 1, .int .i64 2, .int .i64 5] 3)
  have hS := Blk.lit w0 #[.int .i64 1, .int .i64 2, .int .i64 5] 3
  have s0 := hS.cell 0 _ rfl
  go_wp2_with fail
  refine (apply_any _ CollR.nil six0 (versOp 2 1) none 0 (nil_in _) (CollR.small_nil.mono (by omega)) CollR.fine_nil.ok (Rd.nil _ _) (Nat.zero_le _) (by decide) (by decide)).mono ?_
  rintro e w2 ⟨k1, rfl, hm2, hx2⟩
  have hf := CollR.fine_nil.apply (versOp 2 1)
  have hsm := CollR.small_nil.apply (versOp 2 1)
  have he : applyErr CollR.nil (versOp 2 1) = 0 := by decide
  rw [he]
  have hc : (applyC CollR.nil (versOp 2 1)).regs = [⟨[107], [32, 65, 97, 32], 2, 0, ⟨0, 1, 1⟩⟩] := rfl
  generalize applyC CollR.nil (versOp 2 1) = C1 at *
  have Hc := Lib.hid hc
  unfold CollR.val
  have hxx := (hx0.comp hxs).comp hx2
  clear he hc hS s0 hxs hx0 hx2
  obtain ⟨gc, hgc⟩ : ∃ gc, gc = w2.heap.size := ⟨_, rfl⟩
  go_upto_region 6 with fail
  rw [← hgc]
  have hC := Blk.at w2 #[.slice k1.v C1.v.length k1.vc, .slice k1.r C1.regs.length k1.rc, .slice k1.e C1.elems.length k1.ec, .slice k1.g C1.gone.length k1.gc, .slice k1.s C1.sums.length k1.sc, .slice k1.b C1.binds.length k1.bc] 31 gc hgc
  have hxb := Ext.alloc no w2 (.cells #[.slice k1.v C1.v.length k1.vc, .slice k1.r C1.regs.length k1.rc, .slice k1.e C1.elems.length k1.ec, .slice k1.g C1.gone.length k1.gc, .slice k1.s C1.sums.length k1.sc, .slice k1.b C1.binds.length k1.bc] 31)
  have hm3 := hm2.no hxb
  have hx3 := hxx.comp hxb
  generalize w2.alloc (.cells #[.slice k1.v C1.v.length k1.vc, .slice k1.r C1.regs.length k1.rc, .slice k1.e C1.elems.length k1.ec, .slice k1.g C1.gone.length k1.gc, .slice k1.s C1.sums.length k1.sc, .slice k1.b C1.binds.length k1.bc] 31) = w3 at *
  clear hm2 hxx hxb hgc
  have c0 := hC.cell 0 _ rfl
  have c1 := hC.cell 1 _ rfl
  have c2 := hC.cell 2 _ rfl
  have c3 := hC.cell 3 _ rfl
  have c4 := hC.cell 4 _ rfl
  have c5 := hC.cell 5 _ rfl
  go_wp2_with fail
  refine (regsay_any w3 C1 k1 [107] 3 hm3.r.rd (by have := hsm.r; omega) hf.ok.r (by unfold I64ok; omega) (fun x hx => by rw [Hc.out] at hx; rw [List.mem_singleton.1 hx]; exact ⟨by decide, by unfold I64ok; decide⟩)).mono ?_
  rintro e w4 ⟨rfl, hx4⟩
  have hsay : regsay C1 [107] 3 = ([65, 97], 0) := by unfold regsay; rw [Hc.out]; rfl
  rw [hsay]
  clear hsay
  have t0 : ((str [65, 97]).toList == ([65, 97] : List UInt8)) = true := by rw [toList_str]; rfl
  go_wp2_with fail
  go_ret
  exact ⟨rfl, hx3.comp hx4⟩

set_option maxRecDepth 100000 in
set_option maxHeartbeats 2000000 in
theorem cvers_031 (w : World) (n0 n1 n2 : Int) (h0 : I64ok n0) (h1 : I64ok n1) (h2 : I64ok n2) (e0 : n0 % 3 = 2) (e1 : n1 % 3 = 0) (e2 : n2 % 3 = 0) :
    Calls Tryz.prog 6 #[.int .i64 n0, .int .i64 n1, .int .i64 n2] w fun e w' => e = .returned (.bool true) ∧ Ext no w w' := by
  have k0 := fun w => cowithin_any n0 3 w (by omega) (by omega) h0
  have k1 := fun w => cowithin_any n1 3 w (by omega) (by omega) h1
  have k2 := fun w => cowithin_any n2 3 w (by omega) (by omega) h2
  rw [e0] at k0
  rw [e1] at k1
  rw [e2] at k2
  have K0 := Lib.hid k0
  have K1 := Lib.hid k1
  have K2 := Lib.hid k2
  clear k0 k1 k2 e0 e1 e2
  go_enter Tryz.func6, Tryz.ntmps6
  go_wp2_with fail
  refine (known_any w).mono ?_
  rintro e w0 ⟨rfl, hx0⟩
  go_wp2_with fail
  refine (K0.out w0).mono ?_
  rintro e w1 ⟨rfl, rfl⟩
  go_wp2_with fail
  refine (K1.out w0).mono ?_
  rintro e w1 ⟨rfl, rfl⟩
  go_wp2_with fail
  refine (K2.out _).mono ?_
  rintro e w1 ⟨rfl, rfl⟩
  have hxs := Ext.alloc no w0 (.cells #[.int .i64 1, .int .i64 2, .int .i64 5] 3)
  have hS := Blk.lit w0 #[.int .i64 1, .int .i64 2, .int .i64 5] 3
  have s0 := hS.cell 0 _ rfl
  go_wp2_with fail
  refine (apply_any _ CollR.nil six0 (versOp 3 1) none 0 (nil_in _) (CollR.small_nil.mono (by omega)) CollR.fine_nil.ok (Rd.nil _ _) (Nat.zero_le _) (by decide) (by decide)).mono ?_
  rintro e w2 ⟨k1, rfl, hm2, hx2⟩
  have hf := CollR.fine_nil.apply (versOp 3 1)
  have hsm := CollR.small_nil.apply (versOp 3 1)
  have he : applyErr CollR.nil (versOp 3 1) = 0 := by decide
  rw [he]
  have hc : (applyC CollR.nil (versOp 3 1)).regs = [⟨[107], [32, 65, 97, 32], 3, 0, ⟨0, 1, 1⟩⟩] := rfl
  generalize applyC CollR.nil (versOp 3 1) = C1 at *
  have Hc := Lib.hid hc
  unfold CollR.val
  have hxx := (hx0.comp hxs).comp hx2
  clear he hc hS s0 hxs hx0 hx2
  obtain ⟨gc, hgc⟩ : ∃ gc, gc = w2.heap.size := ⟨_, rfl⟩
  go_upto_region 6 with fail
  rw [← hgc]
  have hC := Blk.at w2 #[.slice k1.v C1.v.length k1.vc, .slice k1.r C1.regs.length k1.rc, .slice k1.e C1.elems.length k1.ec, .slice k1.g C1.gone.length k1.gc, .slice k1.s C1.sums.length k1.sc, .slice k1.b C1.binds.length k1.bc] 31 gc hgc
  have hxb := Ext.alloc no w2 (.cells #[.slice k1.v C1.v.length k1.vc, .slice k1.r C1.regs.length k1.rc, .slice k1.e C1.elems.length k1.ec, .slice k1.g C1.gone.length k1.gc, .slice k1.s C1.sums.length k1.sc, .slice k1.b C1.binds.length k1.bc] 31)
  have hm3 := hm2.no hxb
  have hx3 := hxx.comp hxb
  generalize w2.alloc (.cells #[.slice k1.v C1.v.length k1.vc, .slice k1.r C1.regs.length k1.rc, .slice k1.e C1.elems.length k1.ec, .slice k1.g C1.gone.length k1.gc, .slice k1.s C1.sums.length k1.sc, .slice k1.b C1.binds.length k1.bc] 31) = w3 at *
  clear hm2 hxx hxb hgc
  have c0 := hC.cell 0 _ rfl
  have c1 := hC.cell 1 _ rfl
  have c2 := hC.cell 2 _ rfl
  have c3 := hC.cell 3 _ rfl
  have c4 := hC.cell 4 _ rfl
  have c5 := hC.cell 5 _ rfl
  go_wp2_with fail
  refine (regsay_any w3 C1 k1 [107] 1 hm3.r.rd (by have := hsm.r; omega) hf.ok.r (by unfold I64ok; omega) (fun x hx => by rw [Hc.out] at hx; rw [List.mem_singleton.1 hx]; exact ⟨by decide, by unfold I64ok; decide⟩)).mono ?_
  rintro e w4 ⟨rfl, hx4⟩
  have hsay : regsay C1 [107] 1 = ([], 13) := by unfold regsay; rw [Hc.out]; rfl
  rw [hsay]
  clear hsay
  have t0 : (str []).toList.isEmpty = true := beqEmptyT rfl
  go_wp2_with fail
  go_ret
  exact ⟨rfl, hx3.comp hx4⟩

set_option maxRecDepth 100000 in
set_option maxHeartbeats 2000000 in
theorem cvers_032 (w : World) (n0 n1 n2 : Int) (h0 : I64ok n0) (h1 : I64ok n1) (h2 : I64ok n2) (e0 : n0 % 3 = 2) (e1 : n1 % 3 = 1) (e2 : n2 % 3 = 0) :
    Calls Tryz.prog 6 #[.int .i64 n0, .int .i64 n1, .int .i64 n2] w fun e w' => e = .returned (.bool true) ∧ Ext no w w' := by
  have k0 := fun w => cowithin_any n0 3 w (by omega) (by omega) h0
  have k1 := fun w => cowithin_any n1 3 w (by omega) (by omega) h1
  have k2 := fun w => cowithin_any n2 3 w (by omega) (by omega) h2
  rw [e0] at k0
  rw [e1] at k1
  rw [e2] at k2
  have K0 := Lib.hid k0
  have K1 := Lib.hid k1
  have K2 := Lib.hid k2
  clear k0 k1 k2 e0 e1 e2
  go_enter Tryz.func6, Tryz.ntmps6
  go_wp2_with fail
  refine (known_any w).mono ?_
  rintro e w0 ⟨rfl, hx0⟩
  go_wp2_with fail
  refine (K0.out w0).mono ?_
  rintro e w1 ⟨rfl, rfl⟩
  go_wp2_with fail
  refine (K1.out w0).mono ?_
  rintro e w1 ⟨rfl, rfl⟩
  go_wp2_with fail
  refine (K2.out _).mono ?_
  rintro e w1 ⟨rfl, rfl⟩
  have hxs := Ext.alloc no w0 (.cells #[.int .i64 1, .int .i64 2, .int .i64 5] 3)
  have hS := Blk.lit w0 #[.int .i64 1, .int .i64 2, .int .i64 5] 3
  have s0 := hS.cell 0 _ rfl
  go_wp2_with fail
  refine (apply_any _ CollR.nil six0 (versOp 3 1) none 0 (nil_in _) (CollR.small_nil.mono (by omega)) CollR.fine_nil.ok (Rd.nil _ _) (Nat.zero_le _) (by decide) (by decide)).mono ?_
  rintro e w2 ⟨k1, rfl, hm2, hx2⟩
  have hf := CollR.fine_nil.apply (versOp 3 1)
  have hsm := CollR.small_nil.apply (versOp 3 1)
  have he : applyErr CollR.nil (versOp 3 1) = 0 := by decide
  rw [he]
  have hc : (applyC CollR.nil (versOp 3 1)).regs = [⟨[107], [32, 65, 97, 32], 3, 0, ⟨0, 1, 1⟩⟩] := rfl
  generalize applyC CollR.nil (versOp 3 1) = C1 at *
  have Hc := Lib.hid hc
  unfold CollR.val
  have hxx := (hx0.comp hxs).comp hx2
  clear he hc hS s0 hxs hx0 hx2
  obtain ⟨gc, hgc⟩ : ∃ gc, gc = w2.heap.size := ⟨_, rfl⟩
  go_upto_region 6 with fail
  rw [← hgc]
  have hC := Blk.at w2 #[.slice k1.v C1.v.length k1.vc, .slice k1.r C1.regs.length k1.rc, .slice k1.e C1.elems.length k1.ec, .slice k1.g C1.gone.length k1.gc, .slice k1.s C1.sums.length k1.sc, .slice k1.b C1.binds.length k1.bc] 31 gc hgc
  have hxb := Ext.alloc no w2 (.cells #[.slice k1.v C1.v.length k1.vc, .slice k1.r C1.regs.length k1.rc, .slice k1.e C1.elems.length k1.ec, .slice k1.g C1.gone.length k1.gc, .slice k1.s C1.sums.length k1.sc, .slice k1.b C1.binds.length k1.bc] 31)
  have hm3 := hm2.no hxb
  have hx3 := hxx.comp hxb
  generalize w2.alloc (.cells #[.slice k1.v C1.v.length k1.vc, .slice k1.r C1.regs.length k1.rc, .slice k1.e C1.elems.length k1.ec, .slice k1.g C1.gone.length k1.gc, .slice k1.s C1.sums.length k1.sc, .slice k1.b C1.binds.length k1.bc] 31) = w3 at *
  clear hm2 hxx hxb hgc
  have c0 := hC.cell 0 _ rfl
  have c1 := hC.cell 1 _ rfl
  have c2 := hC.cell 2 _ rfl
  have c3 := hC.cell 3 _ rfl
  have c4 := hC.cell 4 _ rfl
  have c5 := hC.cell 5 _ rfl
  go_wp2_with fail
  refine (regsay_any w3 C1 k1 [107] 2 hm3.r.rd (by have := hsm.r; omega) hf.ok.r (by unfold I64ok; omega) (fun x hx => by rw [Hc.out] at hx; rw [List.mem_singleton.1 hx]; exact ⟨by decide, by unfold I64ok; decide⟩)).mono ?_
  rintro e w4 ⟨rfl, hx4⟩
  have hsay : regsay C1 [107] 2 = ([], 13) := by unfold regsay; rw [Hc.out]; rfl
  rw [hsay]
  clear hsay
  have t0 : (str []).toList.isEmpty = true := beqEmptyT rfl
  go_wp2_with fail
  go_ret
  exact ⟨rfl, hx3.comp hx4⟩

set_option maxRecDepth 100000 in
set_option maxHeartbeats 2000000 in
theorem cvers_033 (w : World) (n0 n1 n2 : Int) (h0 : I64ok n0) (h1 : I64ok n1) (h2 : I64ok n2) (e0 : n0 % 3 = 2) (e1 : n1 % 3 = 2) (e2 : n2 % 3 = 0) :
    Calls Tryz.prog 6 #[.int .i64 n0, .int .i64 n1, .int .i64 n2] w fun e w' => e = .returned (.bool true) ∧ Ext no w w' := by
  have k0 := fun w => cowithin_any n0 3 w (by omega) (by omega) h0
  have k1 := fun w => cowithin_any n1 3 w (by omega) (by omega) h1
  have k2 := fun w => cowithin_any n2 3 w (by omega) (by omega) h2
  rw [e0] at k0
  rw [e1] at k1
  rw [e2] at k2
  have K0 := Lib.hid k0
  have K1 := Lib.hid k1
  have K2 := Lib.hid k2
  clear k0 k1 k2 e0 e1 e2
  go_enter Tryz.func6, Tryz.ntmps6
  go_wp2_with fail
  refine (known_any w).mono ?_
  rintro e w0 ⟨rfl, hx0⟩
  go_wp2_with fail
  refine (K0.out w0).mono ?_
  rintro e w1 ⟨rfl, rfl⟩
  go_wp2_with fail
  refine (K1.out w0).mono ?_
  rintro e w1 ⟨rfl, rfl⟩
  go_wp2_with fail
  refine (K2.out _).mono ?_
  rintro e w1 ⟨rfl, rfl⟩
  have hxs := Ext.alloc no w0 (.cells #[.int .i64 1, .int .i64 2, .int .i64 5] 3)
  have hS := Blk.lit w0 #[.int .i64 1, .int .i64 2, .int .i64 5] 3
  have s0 := hS.cell 0 _ rfl
  go_wp2_with fail
  refine (apply_any _ CollR.nil six0 (versOp 3 1) none 0 (nil_in _) (CollR.small_nil.mono (by omega)) CollR.fine_nil.ok (Rd.nil _ _) (Nat.zero_le _) (by decide) (by decide)).mono ?_
  rintro e w2 ⟨k1, rfl, hm2, hx2⟩
  have hf := CollR.fine_nil.apply (versOp 3 1)
  have hsm := CollR.small_nil.apply (versOp 3 1)
  have he : applyErr CollR.nil (versOp 3 1) = 0 := by decide
  rw [he]
  have hc : (applyC CollR.nil (versOp 3 1)).regs = [⟨[107], [32, 65, 97, 32], 3, 0, ⟨0, 1, 1⟩⟩] := rfl
  generalize applyC CollR.nil (versOp 3 1) = C1 at *
  have Hc := Lib.hid hc
  unfold CollR.val
  have hxx := (hx0.comp hxs).comp hx2
  clear he hc hS s0 hxs hx0 hx2
  obtain ⟨gc, hgc⟩ : ∃ gc, gc = w2.heap.size := ⟨_, rfl⟩
  go_upto_region 6 with fail
  rw [← hgc]
  have hC := Blk.at w2 #[.slice k1.v C1.v.length k1.vc, .slice k1.r C1.regs.length k1.rc, .slice k1.e C1.elems.length k1.ec, .slice k1.g C1.gone.length k1.gc, .slice k1.s C1.sums.length k1.sc, .slice k1.b C1.binds.length k1.bc] 31 gc hgc
  have hxb := Ext.alloc no w2 (.cells #[.slice k1.v C1.v.length k1.vc, .slice k1.r C1.regs.length k1.rc, .slice k1.e C1.elems.length k1.ec, .slice k1.g C1.gone.length k1.gc, .slice k1.s C1.sums.length k1.sc, .slice k1.b C1.binds.length k1.bc] 31)
  have hm3 := hm2.no hxb
  have hx3 := hxx.comp hxb
  generalize w2.alloc (.cells #[.slice k1.v C1.v.length k1.vc, .slice k1.r C1.regs.length k1.rc, .slice k1.e C1.elems.length k1.ec, .slice k1.g C1.gone.length k1.gc, .slice k1.s C1.sums.length k1.sc, .slice k1.b C1.binds.length k1.bc] 31) = w3 at *
  clear hm2 hxx hxb hgc
  have c0 := hC.cell 0 _ rfl
  have c1 := hC.cell 1 _ rfl
  have c2 := hC.cell 2 _ rfl
  have c3 := hC.cell 3 _ rfl
  have c4 := hC.cell 4 _ rfl
  have c5 := hC.cell 5 _ rfl
  go_wp2_with fail
  refine (regsay_any w3 C1 k1 [107] 3 hm3.r.rd (by have := hsm.r; omega) hf.ok.r (by unfold I64ok; omega) (fun x hx => by rw [Hc.out] at hx; rw [List.mem_singleton.1 hx]; exact ⟨by decide, by unfold I64ok; decide⟩)).mono ?_
  rintro e w4 ⟨rfl, hx4⟩
  have hsay : regsay C1 [107] 3 = ([32, 65, 97, 32], 0) := by unfold regsay; rw [Hc.out]; rfl
  rw [hsay]
  clear hsay
  have t0 : ((str [32, 65, 97, 32]).toList == ([32, 65, 97, 32] : List UInt8)) = true := by rw [toList_str]; rfl
  go_wp2_with fail
  go_ret
  exact ⟨rfl, hx3.comp hx4⟩

set_option maxRecDepth 100000 in
set_option maxHeartbeats 2000000 in
theorem cvers_111 (w : World) (n0 n1 n2 : Int) (h0 : I64ok n0) (h1 : I64ok n1) (h2 : I64ok n2) (e0 : n0 % 3 = 0) (e1 : n1 % 3 = 0) (e2 : n2 % 3 = 1) :
    Calls Tryz.prog 6 #[.int .i64 n0, .int .i64 n1, .int .i64 n2] w fun e w' => e = .returned (.bool true) ∧ Ext no w w' := by
  have k0 := fun w => cowithin_any n0 3 w (by omega) (by omega) h0
  have k1 := fun w => cowithin_any n1 3 w (by omega) (by omega) h1
  have k2 := fun w => cowithin_any n2 3 w (by omega) (by omega) h2
  rw [e0] at k0
  rw [e1] at k1
  rw [e2] at k2
  have K0 := Lib.hid k0
  have K1 := Lib.hid k1
  have K2 := Lib.hid k2
  clear k0 k1 k2 e0 e1 e2
  go_enter Tryz.func6, Tryz.ntmps6
  go_wp2_with fail
  refine (known_any w).mono ?_
  rintro e w0 ⟨rfl, hx0⟩
  go_wp2_with fail
  refine (K0.out w0).mono ?_
  rintro e w1 ⟨rfl, rfl⟩
  go_wp2_with fail
  refine (K1.out w0).mono ?_
  rintro e w1 ⟨rfl, rfl⟩
  go_wp2_with fail
  refine (K2.out _).mono ?_
  rintro e w1 ⟨rfl, rfl⟩
  have hxs := Ext.alloc no w0 (.cells #[.int .i64 1, .int .i64 2, .int .i64 5] 3)
  have hS := Blk.lit w0 #[.int .i64 1, .int .i64 2, .int .i64 5] 3
  have s1 := hS.cell 1 _ rfl
  go_wp2_with fail
  refine (apply_any _ CollR.nil six0 (versOp 1 2) none 0 (nil_in _) (CollR.small_nil.mono (by omega)) CollR.fine_nil.ok (Rd.nil _ _) (Nat.zero_le _) (by decide) (by decide)).mono ?_
  rintro e w2 ⟨k1, rfl, hm2, hx2⟩
  have hf := CollR.fine_nil.apply (versOp 1 2)
  have hsm := CollR.small_nil.apply (versOp 1 2)
  have he : applyErr CollR.nil (versOp 1 2) = 0 := by decide
  rw [he]
  have hc : (applyC CollR.nil (versOp 1 2)).elems = [⟨[107], [32, 65, 97, 32], 1, ⟨0, 1, 1⟩⟩] := rfl
  generalize applyC CollR.nil (versOp 1 2) = C1 at *
  have Hc := Lib.hid hc
  unfold CollR.val
  have hxx := (hx0.comp hxs).comp hx2
  clear he hc hS s1 hxs hx0 hx2
  obtain ⟨gc, hgc⟩ : ∃ gc, gc = w2.heap.size := ⟨_, rfl⟩
  go_upto_region 6 with fail
  rw [← hgc]
  have hC := Blk.at w2 #[.slice k1.v C1.v.length k1.vc, .slice k1.r C1.regs.length k1.rc, .slice k1.e C1.elems.length k1.ec, .slice k1.g C1.gone.length k1.gc, .slice k1.s C1.sums.length k1.sc, .slice k1.b C1.binds.length k1.bc] 31 gc hgc
  have hxb := Ext.alloc no w2 (.cells #[.slice k1.v C1.v.length k1.vc, .slice k1.r C1.regs.length k1.rc, .slice k1.e C1.elems.length k1.ec, .slice k1.g C1.gone.length k1.gc, .slice k1.s C1.sums.length k1.sc, .slice k1.b C1.binds.length k1.bc] 31)
  have hm3 := hm2.no hxb
  have hx3 := hxx.comp hxb
  generalize w2.alloc (.cells #[.slice k1.v C1.v.length k1.vc, .slice k1.r C1.regs.length k1.rc, .slice k1.e C1.elems.length k1.ec, .slice k1.g C1.gone.length k1.gc, .slice k1.s C1.sums.length k1.sc, .slice k1.b C1.binds.length k1.bc] 31) = w3 at *
  clear hm2 hxx hxb hgc
  have c0 := hC.cell 0 _ rfl
  have c1 := hC.cell 1 _ rfl
  have c2 := hC.cell 2 _ rfl
  have c3 := hC.cell 3 _ rfl
  have c4 := hC.cell 4 _ rfl
  have c5 := hC.cell 5 _ rfl
  go_wp2_with fail
  refine (members_any w3 C1 k1 [107] 1 hm3.e.rd (by have := hsm.e; omega) (by unfold I64ok; omega) (fun x hx => by rw [Hc.out] at hx; rw [List.mem_singleton.1 hx]; exact ⟨by decide, by unfold I64ok; decide⟩)).mono ?_
  rintro e w4 ⟨a, c, M, rfl, hrd, hok, hno, _, hx4⟩
  have hsay : memErr C1.elems [107] 1 = 0 := by rw [Hc.out]; rfl
  rw [hsay] at hok hno ⊢
  have hM := hok rfl
  rw [Hc.out] at hM
  have hM1 : M = [[32, 65, 97, 32]] := isMem_one hM rfl
  subst hM1
  obtain ⟨ad, rfl, _⟩ := hrd.ne (by simp)
  have y0 : w4.cell? ad = some (.string (str [32, 65, 97, 32])) := by have q := hrd.get (j := 0) (v := .string (str [32, 65, 97, 32])) rfl; rw [Addr.add_zero'] at q; exact q
  clear hsay hok hno hM hrd
  have t0 : ((str [32, 65, 97, 32]).toList == ([32, 65, 97, 32] : List UInt8)) = true := by rw [toList_str]; rfl
  go_wp2_with fail
  go_ret
  exact ⟨rfl, hx3.comp hx4⟩

set_option maxRecDepth 100000 in
set_option maxHeartbeats 2000000 in
theorem cvers_112 (w : World) (n0 n1 n2 : Int) (h0 : I64ok n0) (h1 : I64ok n1) (h2 : I64ok n2) (e0 : n0 % 3 = 0) (e1 : n1 % 3 = 1) (e2 : n2 % 3 = 1) :
    Calls Tryz.prog 6 #[.int .i64 n0, .int .i64 n1, .int .i64 n2] w fun e w' => e = .returned (.bool true) ∧ Ext no w w' := by
  have k0 := fun w => cowithin_any n0 3 w (by omega) (by omega) h0
  have k1 := fun w => cowithin_any n1 3 w (by omega) (by omega) h1
  have k2 := fun w => cowithin_any n2 3 w (by omega) (by omega) h2
  rw [e0] at k0
  rw [e1] at k1
  rw [e2] at k2
  have K0 := Lib.hid k0
  have K1 := Lib.hid k1
  have K2 := Lib.hid k2
  clear k0 k1 k2 e0 e1 e2
  go_enter Tryz.func6, Tryz.ntmps6
  go_wp2_with fail
  refine (known_any w).mono ?_
  rintro e w0 ⟨rfl, hx0⟩
  go_wp2_with fail
  refine (K0.out w0).mono ?_
  rintro e w1 ⟨rfl, rfl⟩
  go_wp2_with fail
  refine (K1.out w0).mono ?_
  rintro e w1 ⟨rfl, rfl⟩
  go_wp2_with fail
  refine (K2.out _).mono ?_
  rintro e w1 ⟨rfl, rfl⟩
  have hxs := Ext.alloc no w0 (.cells #[.int .i64 1, .int .i64 2, .int .i64 5] 3)
  have hS := Blk.lit w0 #[.int .i64 1, .int .i64 2, .int .i64 5] 3
  have s1 := hS.cell 1 _ rfl
  go_wp2_with fail
  refine (apply_any _ CollR.nil six0 (versOp 1 2) none 0 (nil_in _) (CollR.small_nil.mono (by omega)) CollR.fine_nil.ok (Rd.nil _ _) (Nat.zero_le _) (by decide) (by decide)).mono ?_
  rintro e w2 ⟨k1, rfl, hm2, hx2⟩
  have hf := CollR.fine_nil.apply (versOp 1 2)
  have hsm := CollR.small_nil.apply (versOp 1 2)
  have he : applyErr CollR.nil (versOp 1 2) = 0 := by decide
  rw [he]
  have hc : (applyC CollR.nil (versOp 1 2)).elems = [⟨[107], [32, 65, 97, 32], 1, ⟨0, 1, 1⟩⟩] := rfl
  generalize applyC CollR.nil (versOp 1 2) = C1 at *
  have Hc := Lib.hid hc
  unfold CollR.val
  have hxx := (hx0.comp hxs).comp hx2
  clear he hc hS s1 hxs hx0 hx2
  obtain ⟨gc, hgc⟩ : ∃ gc, gc = w2.heap.size := ⟨_, rfl⟩
  go_upto_region 6 with fail
  rw [← hgc]
  have hC := Blk.at w2 #[.slice k1.v C1.v.length k1.vc, .slice k1.r C1.regs.length k1.rc, .slice k1.e C1.elems.length k1.ec, .slice k1.g C1.gone.length k1.gc, .slice k1.s C1.sums.length k1.sc, .slice k1.b C1.binds.length k1.bc] 31 gc hgc
  have hxb := Ext.alloc no w2 (.cells #[.slice k1.v C1.v.length k1.vc, .slice k1.r C1.regs.length k1.rc, .slice k1.e C1.elems.length k1.ec, .slice k1.g C1.gone.length k1.gc, .slice k1.s C1.sums.length k1.sc, .slice k1.b C1.binds.length k1.bc] 31)
  have hm3 := hm2.no hxb
  have hx3 := hxx.comp hxb
  generalize w2.alloc (.cells #[.slice k1.v C1.v.length k1.vc, .slice k1.r C1.regs.length k1.rc, .slice k1.e C1.elems.length k1.ec, .slice k1.g C1.gone.length k1.gc, .slice k1.s C1.sums.length k1.sc, .slice k1.b C1.binds.length k1.bc] 31) = w3 at *
  clear hm2 hxx hxb hgc
  have c0 := hC.cell 0 _ rfl
  have c1 := hC.cell 1 _ rfl
  have c2 := hC.cell 2 _ rfl
  have c3 := hC.cell 3 _ rfl
  have c4 := hC.cell 4 _ rfl
  have c5 := hC.cell 5 _ rfl
  go_wp2_with fail
  refine (members_any w3 C1 k1 [107] 2 hm3.e.rd (by have := hsm.e; omega) (by unfold I64ok; omega) (fun x hx => by rw [Hc.out] at hx; rw [List.mem_singleton.1 hx]; exact ⟨by decide, by unfold I64ok; decide⟩)).mono ?_
  rintro e w4 ⟨a, c, M, rfl, hrd, hok, hno, _, hx4⟩
  have hsay : memErr C1.elems [107] 2 = 0 := by rw [Hc.out]; rfl
  rw [hsay] at hok hno ⊢
  have hM := hok rfl
  rw [Hc.out] at hM
  have hM1 : M = [[32, 97, 97, 32]] := isMem_one hM rfl
  subst hM1
  obtain ⟨ad, rfl, _⟩ := hrd.ne (by simp)
  have y0 : w4.cell? ad = some (.string (str [32, 97, 97, 32])) := by have q := hrd.get (j := 0) (v := .string (str [32, 97, 97, 32])) rfl; rw [Addr.add_zero'] at q; exact q
  clear hsay hok hno hM hrd
  have t0 : ((str [32, 97, 97, 32]).toList == ([32, 97, 97, 32] : List UInt8)) = true := by rw [toList_str]; rfl
  go_wp2_with fail
  go_ret
  exact ⟨rfl, hx3.comp hx4⟩

set_option maxRecDepth 100000 in
set_option maxHeartbeats 2000000 in
theorem cvers_113 (w : World) (n0 n1 n2 : Int) (h0 : I64ok n0) (h1 : I64ok n1) (h2 : I64ok n2) (e0 : n0 % 3 = 0) (e1 : n1 % 3 = 2) (e2 : n2 % 3 = 1) :
    Calls Tryz.prog 6 #[.int .i64 n0, .int .i64 n1, .int .i64 n2] w fun e w' => e = .returned (.bool true) ∧ Ext no w w' := by
  have k0 := fun w => cowithin_any n0 3 w (by omega) (by omega) h0
  have k1 := fun w => cowithin_any n1 3 w (by omega) (by omega) h1
  have k2 := fun w => cowithin_any n2 3 w (by omega) (by omega) h2
  rw [e0] at k0
  rw [e1] at k1
  rw [e2] at k2
  have K0 := Lib.hid k0
  have K1 := Lib.hid k1
  have K2 := Lib.hid k2
  clear k0 k1 k2 e0 e1 e2
  have hcut : ∀ w, (Instr.sliceAt 9 (.string { data := #[32, 97, 97, 32] }) (some (.int .i64 1)) (some (.int .i64 3)) none).run Tryz.prog w = .ok (.string { data := #[97, 97] }) w := fun w => by kernel_rfl
  go_enter Tryz.func6, Tryz.ntmps6
  go_wp2_with fail
  refine (known_any w).mono ?_
  rintro e w0 ⟨rfl, hx0⟩
  go_wp2_with fail
  refine (K0.out w0).mono ?_
  rintro e w1 ⟨rfl, rfl⟩
  go_wp2_with fail
  refine (K1.out w0).mono ?_
  rintro e w1 ⟨rfl, rfl⟩
  go_wp2_with fail
  refine (K2.out _).mono ?_
  rintro e w1 ⟨rfl, rfl⟩
  have hxs := Ext.alloc no w0 (.cells #[.int .i64 1, .int .i64 2, .int .i64 5] 3)
  have hS := Blk.lit w0 #[.int .i64 1, .int .i64 2, .int .i64 5] 3
  have s1 := hS.cell 1 _ rfl
  go_wp2_with fail
  refine (apply_any _ CollR.nil six0 (versOp 1 2) none 0 (nil_in _) (CollR.small_nil.mono (by omega)) CollR.fine_nil.ok (Rd.nil _ _) (Nat.zero_le _) (by decide) (by decide)).mono ?_
  rintro e w2 ⟨k1, rfl, hm2, hx2⟩
  have hf := CollR.fine_nil.apply (versOp 1 2)
  have hsm := CollR.small_nil.apply (versOp 1 2)
  have he : applyErr CollR.nil (versOp 1 2) = 0 := by decide
  rw [he]
  have hc : (applyC CollR.nil (versOp 1 2)).elems = [⟨[107], [32, 65, 97, 32], 1, ⟨0, 1, 1⟩⟩] := rfl
  generalize applyC CollR.nil (versOp 1 2) = C1 at *
  have Hc := Lib.hid hc
  unfold CollR.val
  have hxx := (hx0.comp hxs).comp hx2
  clear he hc hS s1 hxs hx0 hx2
  obtain ⟨gc, hgc⟩ : ∃ gc, gc = w2.heap.size := ⟨_, rfl⟩
  go_upto_region 6 with fail
  rw [← hgc]
  have hC := Blk.at w2 #[.slice k1.v C1.v.length k1.vc, .slice k1.r C1.regs.length k1.rc, .slice k1.e C1.elems.length k1.ec, .slice k1.g C1.gone.length k1.gc, .slice k1.s C1.sums.length k1.sc, .slice k1.b C1.binds.length k1.bc] 31 gc hgc
  have hxb := Ext.alloc no w2 (.cells #[.slice k1.v C1.v.length k1.vc, .slice k1.r C1.regs.length k1.rc, .slice k1.e C1.elems.length k1.ec, .slice k1.g C1.gone.length k1.gc, .slice k1.s C1.sums.length k1.sc, .slice k1.b C1.binds.length k1.bc] 31)
  have hm3 := hm2.no hxb
  have hx3 := hxx.comp hxb
  generalize w2.alloc (.cells #[.slice k1.v C1.v.length k1.vc, .slice k1.r C1.regs.length k1.rc, .slice k1.e C1.elems.length k1.ec, .slice k1.g C1.gone.length k1.gc, .slice k1.s C1.sums.length k1.sc, .slice k1.b C1.binds.length k1.bc] 31) = w3 at *
  clear hm2 hxx hxb hgc
  have c0 := hC.cell 0 _ rfl
  have c1 := hC.cell 1 _ rfl
  have c2 := hC.cell 2 _ rfl
  have c3 := hC.cell 3 _ rfl
  have c4 := hC.cell 4 _ rfl
  have c5 := hC.cell 5 _ rfl
  go_wp2_with fail
  refine (members_any w3 C1 k1 [107] 3 hm3.e.rd (by have := hsm.e; omega) (by unfold I64ok; omega) (fun x hx => by rw [Hc.out] at hx; rw [List.mem_singleton.1 hx]; exact ⟨by decide, by unfold I64ok; decide⟩)).mono ?_
  rintro e w4 ⟨a, c, M, rfl, hrd, hok, hno, _, hx4⟩
  have hsay : memErr C1.elems [107] 3 = 0 := by rw [Hc.out]; rfl
  rw [hsay] at hok hno ⊢
  have hM := hok rfl
  rw [Hc.out] at hM
  have hM1 : M = [[97, 97]] := isMem_one hM rfl
  subst hM1
  obtain ⟨ad, rfl, _⟩ := hrd.ne (by simp)
  have y0 : w4.cell? ad = some (.string (str [97, 97])) := by have q := hrd.get (j := 0) (v := .string (str [97, 97])) rfl; rw [Addr.add_zero'] at q; exact q
  clear hsay hok hno hM hrd
  have t0 : ((str [97, 97]).toList == ([97, 97] : List UInt8)) = true := by rw [toList_str]; rfl
  go_wp2_with fail
  go_ret
  exact ⟨rfl, hx3.comp hx4⟩

set_option maxRecDepth 100000 in
set_option maxHeartbeats 2000000 in
theorem cvers_121 (w : World) (n0 n1 n2 : Int) (h0 : I64ok n0) (h1 : I64ok n1) (h2 : I64ok n2) (e0 : n0 % 3 = 1) (e1 : n1 % 3 = 0) (e2 : n2 % 3 = 1) :
    Calls Tryz.prog 6 #[.int .i64 n0, .int .i64 n1, .int .i64 n2] w fun e w' => e = .returned (.bool true) ∧ Ext no w w' := by
  have k0 := fun w => cowithin_any n0 3 w (by omega) (by omega) h0
  have k1 := fun w => cowithin_any n1 3 w (by omega) (by omega) h1
  have k2 := fun w => cowithin_any n2 3 w (by omega) (by omega) h2
  rw [e0] at k0
  rw [e1] at k1
  rw [e2] at k2
  have K0 := Lib.hid k0
  have K1 := Lib.hid k1
  have K2 := Lib.hid k2
  clear k0 k1 k2 e0 e1 e2
  go_enter Tryz.func6, Tryz.ntmps6
  go_wp2_with fail
  refine (known_any w).mono ?_
  rintro e w0 ⟨rfl, hx0⟩
  go_wp2_with fail
  refine (K0.out w0).mono ?_
  rintro e w1 ⟨rfl, rfl⟩
  go_wp2_with fail
  refine (K1.out w0).mono ?_
  rintro e w1 ⟨rfl, rfl⟩
  go_wp2_with fail
  refine (K2.out _).mono ?_
  rintro e w1 ⟨rfl, rfl⟩
  have hxs := Ext.alloc no w0 (.cells #[.int .i64 1, .int .i64 2, .int .i64 5] 3)
  have hS := Blk.lit w0 #[.int .i64 1, .int .i64 2, .int .i64 5] 3
  have s1 := hS.cell 1 _ rfl
  go_wp2_with fail
  refine (apply_any _ CollR.nil six0 (versOp 2 2) none 0 (nil_in _) (CollR.small_nil.mono (by omega)) CollR.fine_nil.ok (Rd.nil _ _) (Nat.zero_le _) (by decide) (by decide)).mono ?_
  rintro e w2 ⟨k1, rfl, hm2, hx2⟩
  have hf := CollR.fine_nil.apply (versOp 2 2)
  have hsm := CollR.small_nil.apply (versOp 2 2)
  have he : applyErr CollR.nil (versOp 2 2) = 0 := by decide
  rw [he]
  have hc : (applyC CollR.nil (versOp 2 2)).elems = [⟨[107], [32, 65, 97, 32], 2, ⟨0, 1, 1⟩⟩] := rfl
  generalize applyC CollR.nil (versOp 2 2) = C1 at *
  have Hc := Lib.hid hc
  unfold CollR.val
  have hxx := (hx0.comp hxs).comp hx2
  clear he hc hS s1 hxs hx0 hx2
  obtain ⟨gc, hgc⟩ : ∃ gc, gc = w2.heap.size := ⟨_, rfl⟩
  go_upto_region 6 with fail
  rw [← hgc]
  have hC := Blk.at w2 #[.slice k1.v C1.v.length k1.vc, .slice k1.r C1.regs.length k1.rc, .slice k1.e C1.elems.length k1.ec, .slice k1.g C1.gone.length k1.gc, .slice k1.s C1.sums.length k1.sc, .slice k1.b C1.binds.length k1.bc] 31 gc hgc
  have hxb := Ext.alloc no w2 (.cells #[.slice k1.v C1.v.length k1.vc, .slice k1.r C1.regs.length k1.rc, .slice k1.e C1.elems.length k1.ec, .slice k1.g C1.gone.length k1.gc, .slice k1.s C1.sums.length k1.sc, .slice k1.b C1.binds.length k1.bc] 31)
  have hm3 := hm2.no hxb
  have hx3 := hxx.comp hxb
  generalize w2.alloc (.cells #[.slice k1.v C1.v.length k1.vc, .slice k1.r C1.regs.length k1.rc, .slice k1.e C1.elems.length k1.ec, .slice k1.g C1.gone.length k1.gc, .slice k1.s C1.sums.length k1.sc, .slice k1.b C1.binds.length k1.bc] 31) = w3 at *
  clear hm2 hxx hxb hgc
  have c0 := hC.cell 0 _ rfl
  have c1 := hC.cell 1 _ rfl
  have c2 := hC.cell 2 _ rfl
  have c3 := hC.cell 3 _ rfl
  have c4 := hC.cell 4 _ rfl
  have c5 := hC.cell 5 _ rfl
  go_wp2_with fail
  refine (members_any w3 C1 k1 [107] 1 hm3.e.rd (by have := hsm.e; omega) (by unfold I64ok; omega) (fun x hx => by rw [Hc.out] at hx; rw [List.mem_singleton.1 hx]; exact ⟨by decide, by unfold I64ok; decide⟩)).mono ?_
  rintro e w4 ⟨a, c, M, rfl, hrd, hok, hno, _, hx4⟩
  have hsay : memErr C1.elems [107] 1 = 13 := by rw [Hc.out]; rfl
  rw [hsay] at hok hno ⊢
  have hM1 : M = [] := hno (by decide)
  subst hM1
  clear hsay hok hno hrd
  have t0 : (str []).toList.isEmpty = true := beqEmptyT rfl
  go_wp2_with fail
  go_ret
  exact ⟨rfl, hx3.comp hx4⟩

set_option maxRecDepth 100000 in
set_option maxHeartbeats 2000000 in
theorem cvers_122 (w : World) (n0 n1 n2 : Int) (h0 : I64ok n0) (h1 : I64ok n1) (h2 : I64ok n2) (e0 : n0 % 3 = 1) (e1 : n1 % 3 = 1) (e2 : n2 % 3 = 1) :
    Calls Tryz.prog 6 #[.int .i64 n0, .int .i64 n1, .int .i64 n2] w fun e w' => e = .returned (.bool true) ∧ Ext no w w' := by
  have k0 := fun w => cowithin_any n0 3 w (by omega) (by omega) h0
  have k1 := fun w => cowithin_any n1 3 w (by omega) (by omega) h1
  have k2 := fun w => cowithin_any n2 3 w (by omega) (by omega) h2
  rw [e0] at k0
  rw [e1] at k1
  rw [e2] at k2
  have K0 := Lib.hid k0
  have K1 := Lib.hid k1
  have K2 := Lib.hid k2
  clear k0 k1 k2 e0 e1 e2
  go_enter Tryz.func6, Tryz.ntmps6
  go_wp2_with fail
  refine (known_any w).mono ?_
  rintro e w0 ⟨rfl, hx0⟩
  go_wp2_with fail
  refine (K0.out w0).mono ?_
  rintro e w1 ⟨rfl, rfl⟩
  go_wp2_with fail
  refine (K1.out w0).mono ?_
  rintro e w1 ⟨rfl, rfl⟩
  go_wp2_with fail
  refine (K2.out _).mono ?_
  rintro e w1 ⟨rfl, rfl⟩
  have hxs := Ext.alloc no w0 (.cells #[.int .i64 1, .int .i64 2, .int .i64 5] 3)
  have hS := Blk.lit w0 #[.int .i64 1, .int .i64 2, .int .i64 5] 3
  have s1 := hS.cell 1 _ rfl
  go_wp2_with fail
  refine (apply_any _ CollR.nil six0 (versOp 2 2) none 0 (nil_in _) (CollR.small_nil.mono (by omega)) CollR.fine_nil.ok (Rd.nil _ _) (Nat.zero_le _) (by decide) (by decide)).mono ?_
  rintro e w2 ⟨k1, rfl, hm2, hx2⟩
  have hf := CollR.fine_nil.apply (versOp 2 2)
  have hsm := CollR.small_nil.apply (versOp 2 2)
  have he : applyErr CollR.nil (versOp 2 2) = 0 := by decide
  rw [he]
  have hc : (applyC CollR.nil (versOp 2 2)).elems = [⟨[107], [32, 65, 97, 32], 2, ⟨0, 1, 1⟩⟩] := rfl
  generalize applyC CollR.nil (versOp 2 2) = C1 at *
  have Hc := Lib.hid hc
  unfold CollR.val
  have hxx := (hx0.comp hxs).comp hx2
  clear he hc hS s1 hxs hx0 hx2
  obtain ⟨gc, hgc⟩ : ∃ gc, gc = w2.heap.size := ⟨_, rfl⟩
  go_upto_region 6 with fail
  rw [← hgc]
  have hC := Blk.at w2 #[.slice k1.v C1.v.length k1.vc, .slice k1.r C1.regs.length k1.rc, .slice k1.e C1.elems.length k1.ec, .slice k1.g C1.gone.length k1.gc, .slice k1.s C1.sums.length k1.sc, .slice k1.b C1.binds.length k1.bc] 31 gc hgc
  have hxb := Ext.alloc no w2 (.cells #[.slice k1.v C1.v.length k1.vc, .slice k1.r C1.regs.length k1.rc, .slice k1.e C1.elems.length k1.ec, .slice k1.g C1.gone.length k1.gc, .slice k1.s C1.sums.length k1.sc, .slice k1.b C1.binds.length k1.bc] 31)
  have hm3 := hm2.no hxb
  have hx3 := hxx.comp hxb
  generalize w2.alloc (.cells #[.slice k1.v C1.v.length k1.vc, .slice k1.r C1.regs.length k1.rc, .slice k1.e C1.elems.length k1.ec, .slice k1.g C1.gone.length k1.gc, .slice k1.s C1.sums.length k1.sc, .slice k1.b C1.binds.length k1.bc] 31) = w3 at *
  clear hm2 hxx hxb hgc
  have c0 := hC.cell 0 _ rfl
  have c1 := hC.cell 1 _ rfl
  have c2 := hC.cell 2 _ rfl
  have c3 := hC.cell 3 _ rfl
  have c4 := hC.cell 4 _ rfl
  have c5 := hC.cell 5 _ rfl
  go_wp2_with fail
  refine (members_any w3 C1 k1 [107] 2 hm3.e.rd (by have := hsm.e; omega) (by unfold I64ok; omega) (fun x hx => by rw [Hc.out] at hx; rw [List.mem_singleton.1 hx]; exact ⟨by decide, by unfold I64ok; decide⟩)).mono ?_
  rintro e w4 ⟨a, c, M, rfl, hrd, hok, hno, _, hx4⟩
  have hsay : memErr C1.elems [107] 2 = 0 := by rw [Hc.out]; rfl
  rw [hsay] at hok hno ⊢
  have hM := hok rfl
  rw [Hc.out] at hM
  have hM1 : M = [[32, 65, 97, 32]] := isMem_one hM rfl
  subst hM1
  obtain ⟨ad, rfl, _⟩ := hrd.ne (by simp)
  have y0 : w4.cell? ad = some (.string (str [32, 65, 97, 32])) := by have q := hrd.get (j := 0) (v := .string (str [32, 65, 97, 32])) rfl; rw [Addr.add_zero'] at q; exact q
  clear hsay hok hno hM hrd
  have t0 : ((str [32, 65, 97, 32]).toList == ([32, 65, 97, 32] : List UInt8)) = true := by rw [toList_str]; rfl
  go_wp2_with fail
  go_ret
  exact ⟨rfl, hx3.comp hx4⟩

set_option maxRecDepth 100000 in
set_option maxHeartbeats 2000000 in
theorem cvers_123 (w : World) (n0 n1 n2 : Int) (h0 : I64ok n0) (h1 : I64ok n1) (h2 : I64ok n2) (e0 : n0 % 3 = 1) (e1 : n1 % 3 = 2) (e2 : n2 % 3 = 1) :
    Calls Tryz.prog 6 #[.int .i64 n0, .int .i64 n1, .int .i64 n2] w fun e w' => e = .returned (.bool true) ∧ Ext no w w' := by
  have k0 := fun w => cowithin_any n0 3 w (by omega) (by omega) h0
  have k1 := fun w => cowithin_any n1 3 w (by omega) (by omega) h1
  have k2 := fun w => cowithin_any n2 3 w (by omega) (by omega) h2
  rw [e0] at k0
  rw [e1] at k1
  rw [e2] at k2
  have K0 := Lib.hid k0
  have K1 := Lib.hid k1
  have K2 := Lib.hid k2
  clear k0 k1 k2 e0 e1 e2
  have hcut : ∀ w, (Instr.sliceAt 9 (.string { data := #[32, 65, 97, 32] }) (some (.int .i64 1)) (some (.int .i64 3)) none).run Tryz.prog w = .ok (.string { data := #[65, 97] }) w := fun w => by kernel_rfl
  go_enter Tryz.func6, Tryz.ntmps6
  go_wp2_with fail
  refine (known_any w).mono ?_
  rintro e w0 ⟨rfl, hx0⟩
  go_wp2_with fail
  refine (K0.out w0).mono ?_
  rintro e w1 ⟨rfl, rfl⟩
  go_wp2_with fail
  refine (K1.out w0).mono ?_
  rintro e w1 ⟨rfl, rfl⟩
  go_wp2_with fail
  refine (K2.out _).mono ?_
  rintro e w1 ⟨rfl, rfl⟩
  have hxs := Ext.alloc no w0 (.cells #[.int .i64 1, .int .i64 2, .int .i64 5] 3)
  have hS := Blk.lit w0 #[.int .i64 1, .int .i64 2, .int .i64 5] 3
  have s1 := hS.cell 1 _ rfl
  go_wp2_with fail
  refine (apply_any _ CollR.nil six0 (versOp 2 2) none 0 (nil_in _) (CollR.small_nil.mono (by omega)) CollR.fine_nil.ok (Rd.nil _ _) (Nat.zero_le _) (by decide) (by decide)).mono ?_
  rintro e w2 ⟨k1, rfl, hm2, hx2⟩
  have hf := CollR.fine_nil.apply (versOp 2 2)
  have hsm := CollR.small_nil.apply (versOp 2 2)
  have he : applyErr CollR.nil (versOp 2 2) = 0 := by decide
  rw [he]
  have hc : (applyC CollR.nil (versOp 2 2)).elems = [⟨[107], [32, 65, 97, 32], 2, ⟨0, 1, 1⟩⟩] := rfl
  generalize applyC CollR.nil (versOp 2 2) = C1 at *
  have Hc := Lib.hid hc
  unfold CollR.val
  have hxx := (hx0.comp hxs).comp hx2
  clear he hc hS s1 hxs hx0 hx2
  obtain ⟨gc, hgc⟩ : ∃ gc, gc = w2.heap.size := ⟨_, rfl⟩
  go_upto_region 6 with fail
  rw [← hgc]
  have hC := Blk.at w2 #[.slice k1.v C1.v.length k1.vc, .slice k1.r C1.regs.length k1.rc, .slice k1.e C1.elems.length k1.ec, .slice k1.g C1.gone.length k1.gc, .slice k1.s C1.sums.length k1.sc, .slice k1.b C1.binds.length k1.bc] 31 gc hgc
  have hxb := Ext.alloc no w2 (.cells #[.slice k1.v C1.v.length k1.vc, .slice k1.r C1.regs.length k1.rc, .slice k1.e C1.elems.length k1.ec, .slice k1.g C1.gone.length k1.gc, .slice k1.s C1.sums.length k1.sc, .slice k1.b C1.binds.length k1.bc] 31)
  have hm3 := hm2.no hxb
  have hx3 := hxx.comp hxb
  generalize w2.alloc (.cells #[.slice k1.v C1.v.length k1.vc, .slice k1.r C1.regs.length k1.rc, .slice k1.e C1.elems.length k1.ec, .slice k1.g C1.gone.length k1.gc, .slice k1.s C1.sums.length k1.sc, .slice k1.b C1.binds.length k1.bc] 31) = w3 at *
  clear hm2 hxx hxb hgc
  have c0 := hC.cell 0 _ rfl
  have c1 := hC.cell 1 _ rfl
  have c2 := hC.cell 2 _ rfl
  have c3 := hC.cell 3 _ rfl
  have c4 := hC.cell 4 _ rfl
  have c5 := hC.cell 5 _ rfl
  go_wp2_with fail
  refine (members_any w3 C1 k1 [107] 3 hm3.e.rd (by have := hsm.e; omega) (by unfold I64ok; omega) (fun x hx => by rw [Hc.out] at hx; rw [List.mem_singleton.1 hx]; exact ⟨by decide, by unfold I64ok; decide⟩)).mono ?_
  rintro e w4 ⟨a, c, M, rfl, hrd, hok, hno, _, hx4⟩
  have hsay : memErr C1.elems [107] 3 = 0 := by rw [Hc.out]; rfl
  rw [hsay] at hok hno ⊢
  have hM := hok rfl
  rw [Hc.out] at hM
  have hM1 : M = [[65, 97]] := isMem_one hM rfl
  subst hM1
  obtain ⟨ad, rfl, _⟩ := hrd.ne (by simp)
  have y0 : w4.cell? ad = some (.string (str [65, 97])) := by have q := hrd.get (j := 0) (v := .string (str [65, 97])) rfl; rw [Addr.add_zero'] at q; exact q
  clear hsay hok hno hM hrd
  have t0 : ((str [65, 97]).toList == ([65, 97] : List UInt8)) = true := by rw [toList_str]; rfl
  go_wp2_with fail
  go_ret
  exact ⟨rfl, hx3.comp hx4⟩

set_option maxRecDepth 100000 in
set_option maxHeartbeats 2000000 in
theorem cvers_131 (w : World) (n0 n1 n2 : Int) (h0 : I64ok n0) (h1 : I64ok n1) (h2 : I64ok n2) (e0 : n0 % 3 = 2) (e1 : n1 % 3 = 0) (e2 : n2 % 3 = 1) :
    Calls Tryz.prog 6 #[.int .i64 n0, .int .i64 n1, .int .i64 n2] w fun e w' => e = .returned (.bool true) ∧ Ext no w w' := by
  have k0 := fun w => cowithin_any n0 3 w (by omega) (by omega) h0
  have k1 := fun w => cowithin_any n1 3 w (by omega) (by omega) h1
  have k2 := fun w => cowithin_any n2 3 w (by omega) (by omega) h2
  rw [e0] at k0
  rw [e1] at k1
  rw [e2] at k2
  have K0 := Lib.hid k0
  have K1 := Lib.hid k1
  have K2 := Lib.hid k2
  clear k0 k1 k2 e0 e1 e2
  go_enter Tryz.func6, Tryz.ntmps6
  go_wp2_with fail
  refine (known_any w).mono ?_
  rintro e w0 ⟨rfl, hx0⟩
  go_wp2_with fail
  refine (K0.out w0).mono ?_
  rintro e w1 ⟨rfl, rfl⟩
  go_wp2_with fail
  refine (K1.out w0).mono ?_
  rintro e w1 ⟨rfl, rfl⟩
  go_wp2_with fail
  refine (K2.out _).mono ?_
  rintro e w1 ⟨rfl, rfl⟩
  have hxs := Ext.alloc no w0 (.cells #[.int .i64 1, .int .i64 2, .int .i64 5] 3)
  have hS := Blk.lit w0 #[.int .i64 1, .int .i64 2, .int .i64 5] 3
  have s1 := hS.cell 1 _ rfl
  go_wp2_with fail
  refine (apply_any _ CollR.nil six0 (versOp 3 2) none 0 (nil_in _) (CollR.small_nil.mono (by omega)) CollR.fine_nil.ok (Rd.nil _ _) (Nat.zero_le _) (by decide) (by decide)).mono ?_
  rintro e w2 ⟨k1, rfl, hm2, hx2⟩
  have hf := CollR.fine_nil.apply (versOp 3 2)
  have hsm := CollR.small_nil.apply (versOp 3 2)
  have he : applyErr CollR.nil (versOp 3 2) = 0 := by decide
  rw [he]
  have hc : (applyC CollR.nil (versOp 3 2)).elems = [⟨[107], [32, 65, 97, 32], 3, ⟨0, 1, 1⟩⟩] := rfl
  generalize applyC CollR.nil (versOp 3 2) = C1 at *
  have Hc := Lib.hid hc
  unfold CollR.val
  have hxx := (hx0.comp hxs).comp hx2
  clear he hc hS s1 hxs hx0 hx2
  obtain ⟨gc, hgc⟩ : ∃ gc, gc = w2.heap.size := ⟨_, rfl⟩
  go_upto_region 6 with fail
  rw [← hgc]
  have hC := Blk.at w2 #[.slice k1.v C1.v.length k1.vc, .slice k1.r C1.regs.length k1.rc, .slice k1.e C1.elems.length k1.ec, .slice k1.g C1.gone.length k1.gc, .slice k1.s C1.sums.length k1.sc, .slice k1.b C1.binds.length k1.bc] 31 gc hgc
  have hxb := Ext.alloc no w2 (.cells #[.slice k1.v C1.v.length k1.vc, .slice k1.r C1.regs.length k1.rc, .slice k1.e C1.elems.length k1.ec, .slice k1.g C1.gone.length k1.gc, .slice k1.s C1.sums.length k1.sc, .slice k1.b C1.binds.length k1.bc] 31)
  have hm3 := hm2.no hxb
  have hx3 := hxx.comp hxb
  generalize w2.alloc (.cells #[.slice k1.v C1.v.length k1.vc, .slice k1.r C1.regs.length k1.rc, .slice k1.e C1.elems.length k1.ec, .slice k1.g C1.gone.length k1.gc, .slice k1.s C1.sums.length k1.sc, .slice k1.b C1.binds.length k1.bc] 31) = w3 at *
  clear hm2 hxx hxb hgc
  have c0 := hC.cell 0 _ rfl
  have c1 := hC.cell 1 _ rfl
  have c2 := hC.cell 2 _ rfl
  have c3 := hC.cell 3 _ rfl
  have c4 := hC.cell 4 _ rfl
  have c5 := hC.cell 5 _ rfl
  go_wp2_with fail
  refine (members_any w3 C1 k1 [107] 1 hm3.e.rd (by have := hsm.e; omega) (by unfold I64ok; omega) (fun x hx => by rw [Hc.out] at hx; rw [List.mem_singleton.1 hx]; exact ⟨by decide, by unfold I64ok; decide⟩)).mono ?_
  rintro e w4 ⟨a, c, M, rfl, hrd, hok, hno, _, hx4⟩
  have hsay : memErr C1.elems [107] 1 = 13 := by rw [Hc.out]; rfl
  rw [hsay] at hok hno ⊢
  have hM1 : M = [] := hno (by decide)
  subst hM1
  clear hsay hok hno hrd
  have t0 : (str []).toList.isEmpty = true := beqEmptyT rfl
  go_wp2_with fail
  go_ret
  exact ⟨rfl, hx3.comp hx4⟩

set_option maxRecDepth 100000 in
set_option maxHeartbeats 2000000 in
theorem cvers_132 (w : World) (n0 n1 n2 : Int) (h0 : I64ok n0) (h1 : I64ok n1) (h2 : I64ok n2) (e0 : n0 % 3 = 2) (e1 : n1 % 3 = 1) (e2 : n2 % 3 = 1) :
    Calls Tryz.prog 6 #[.int .i64 n0, .int .i64 n1, .int .i64 n2] w fun e w' => e = .returned (.bool true) ∧ Ext no w w' := by
  have k0 := fun w => cowithin_any n0 3 w (by omega) (by omega) h0
  have k1 := fun w => cowithin_any n1 3 w (by omega) (by omega) h1
  have k2 := fun w => cowithin_any n2 3 w (by omega) (by omega) h2
  rw [e0] at k0
  rw [e1] at k1
  rw [e2] at k2
  have K0 := Lib.hid k0
  have K1 := Lib.hid k1
  have K2 := Lib.hid k2
  clear k0 k1 k2 e0 e1 e2
  go_enter Tryz.func6, Tryz.ntmps6
  go_wp2_with fail
  refine (known_any w).mono ?_
  rintro e w0 ⟨rfl, hx0⟩
  go_wp2_with fail
  refine (K0.out w0).mono ?_
  rintro e w1 ⟨rfl, rfl⟩
  go_wp2_with fail
  refine (K1.out w0).mono ?_
  rintro e w1 ⟨rfl, rfl⟩
  go_wp2_with fail
  refine (K2.out _).mono ?_
  rintro e w1 ⟨rfl, rfl⟩
  have hxs := Ext.alloc no w0 (.cells #[.int .i64 1, .int .i64 2, .int .i64 5] 3)
  have hS := Blk.lit w0 #[.int .i64 1, .int .i64 2, .int .i64 5] 3
  have s1 := hS.cell 1 _ rfl
  go_wp2_with fail
  refine (apply_any _ CollR.nil six0 (versOp 3 2) none 0 (nil_in _) (CollR.small_nil.mono (by omega)) CollR.fine_nil.ok (Rd.nil _ _) (Nat.zero_le _) (by decide) (by decide)).mono ?_
  rintro e w2 ⟨k1, rfl, hm2, hx2⟩
  have hf := CollR.fine_nil.apply (versOp 3 2)
  have hsm := CollR.small_nil.apply (versOp 3 2)
  have he : applyErr CollR.nil (versOp 3 2) = 0 := by decide
  rw [he]
  have hc : (applyC CollR.nil (versOp 3 2)).elems = [⟨[107], [32, 65, 97, 32], 3, ⟨0, 1, 1⟩⟩] := rfl
  generalize applyC CollR.nil (versOp 3 2) = C1 at *
  have Hc := Lib.hid hc
  unfold CollR.val
  have hxx := (hx0.comp hxs).comp hx2
  clear he hc hS s1 hxs hx0 hx2
  obtain ⟨gc, hgc⟩ : ∃ gc, gc = w2.heap.size := ⟨_, rfl⟩
  go_upto_region 6 with fail
  rw [← hgc]
  have hC := Blk.at w2 #[.slice k1.v C1.v.length k1.vc, .slice k1.r C1.regs.length k1.rc, .slice k1.e C1.elems.length k1.ec, .slice k1.g C1.gone.length k1.gc, .slice k1.s C1.sums.length k1.sc, .slice k1.b C1.binds.length k1.bc] 31 gc hgc
  have hxb := Ext.alloc no w2 (.cells #[.slice k1.v C1.v.length k1.vc, .slice k1.r C1.regs.length k1.rc, .slice k1.e C1.elems.length k1.ec, .slice k1.g C1.gone.length k1.gc, .slice k1.s C1.sums.length k1.sc, .slice k1.b C1.binds.length k1.bc] 31)
  have hm3 := hm2.no hxb
  have hx3 := hxx.comp hxb
  generalize w2.alloc (.cells #[.slice k1.v C1.v.length k1.vc, .slice k1.r C1.regs.length k1.rc, .slice k1.e C1.elems.length k1.ec, .slice k1.g C1.gone.length k1.gc, .slice k1.s C1.sums.length k1.sc, .slice k1.b C1.binds.length k1.bc] 31) = w3 at *
  clear hm2 hxx hxb hgc
  have c0 := hC.cell 0 _ rfl
  have c1 := hC.cell 1 _ rfl
  have c2 := hC.cell 2 _ rfl
  have c3 := hC.cell 3 _ rfl
  have c4 := hC.cell 4 _ rfl
  have c5 := hC.cell 5 _ rfl
  go_wp2_with fail
  refine (members_any w3 C1 k1 [107] 2 hm3.e.rd (by have := hsm.e; omega) (by unfold I64ok; omega) (fun x hx => by rw [Hc.out] at hx; rw [List.mem_singleton.1 hx]; exact ⟨by decide, by unfold I64ok; decide⟩)).mono ?_
  rintro e w4 ⟨a, c, M, rfl, hrd, hok, hno, _, hx4⟩
  have hsay : memErr C1.elems [107] 2 = 13 := by rw [Hc.out]; rfl
  rw [hsay] at hok hno ⊢
  have hM1 : M = [] := hno (by decide)
  subst hM1
  clear hsay hok hno hrd
  have t0 : (str []).toList.isEmpty = true := beqEmptyT rfl
  go_wp2_with fail
  go_ret
  exact ⟨rfl, hx3.comp hx4⟩

set_option maxRecDepth 100000 in
set_option maxHeartbeats 2000000 in
theorem cvers_133 (w : World) (n0 n1 n2 : Int) (h0 : I64ok n0) (h1 : I64ok n1) (h2 : I64ok n2) (e0 : n0 % 3 = 2) (e1 : n1 % 3 = 2) (e2 : n2 % 3 = 1) :
    Calls Tryz.prog 6 #[.int .i64 n0, .int .i64 n1, .int .i64 n2] w fun e w' => e = .returned (.bool true) ∧ Ext no w w' := by
  have k0 := fun w => cowithin_any n0 3 w (by omega) (by omega) h0
  have k1 := fun w => cowithin_any n1 3 w (by omega) (by omega) h1
  have k2 := fun w => cowithin_any n2 3 w (by omega) (by omega) h2
  rw [e0] at k0
  rw [e1] at k1
  rw [e2] at k2
  have K0 := Lib.hid k0
  have K1 := Lib.hid k1
  have K2 := Lib.hid k2
  clear k0 k1 k2 e0 e1 e2
  go_enter Tryz.func6, Tryz.ntmps6
  go_wp2_with fail
  refine (known_any w).mono ?_
  rintro e w0 ⟨rfl, hx0⟩
  go_wp2_with fail
  refine (K0.out w0).mono ?_
  rintro e w1 ⟨rfl, rfl⟩
  go_wp2_with fail
  refine (K1.out w0).mono ?_
  rintro e w1 ⟨rfl, rfl⟩
  go_wp2_with fail
  refine (K2.out _).mono ?_
  rintro e w1 ⟨rfl, rfl⟩
  have hxs := Ext.alloc no w0 (.cells #[.int .i64 1, .int .i64 2, .int .i64 5] 3)
  have hS := Blk.lit w0 #[.int .i64 1, .int .i64 2, .int .i64 5] 3
  have s1 := hS.cell 1 _ rfl
  go_wp2_with fail
  refine (apply_any _ CollR.nil six0 (versOp 3 2) none 0 (nil_in _) (CollR.small_nil.mono (by omega)) CollR.fine_nil.ok (Rd.nil _ _) (Nat.zero_le _) (by decide) (by decide)).mono ?_
  rintro e w2 ⟨k1, rfl, hm2, hx2⟩
  have hf := CollR.fine_nil.apply (versOp 3 2)
  have hsm := CollR.small_nil.apply (versOp 3 2)
  have he : applyErr CollR.nil (versOp 3 2) = 0 := by decide
  rw [he]
  have hc : (applyC CollR.nil (versOp 3 2)).elems = [⟨[107], [32, 65, 97, 32], 3, ⟨0, 1, 1⟩⟩] := rfl
  generalize applyC CollR.nil (versOp 3 2) = C1 at *
  have Hc := Lib.hid hc
  unfold CollR.val
  have hxx := (hx0.comp hxs).comp hx2
  clear he hc hS s1 hxs hx0 hx2
  obtain ⟨gc, hgc⟩ : ∃ gc, gc = w2.heap.size := ⟨_, rfl⟩
  go_upto_region 6 with fail
  rw [← hgc]
  have hC := Blk.at w2 #[.slice k1.v C1.v.length k1.vc, .slice k1.r C1.regs.length k1.rc, .slice k1.e C1.elems.length k1.ec, .slice k1.g C1.gone.length k1.gc, .slice k1.s C1.sums.length k1.sc, .slice k1.b C1.binds.length k1.bc] 31 gc hgc
  have hxb := Ext.alloc no w2 (.cells #[.slice k1.v C1.v.length k1.vc, .slice k1.r C1.regs.length k1.rc, .slice k1.e C1.elems.length k1.ec, .slice k1.g C1.gone.length k1.gc, .slice k1.s C1.sums.length k1.sc, .slice k1.b C1.binds.length k1.bc] 31)
  have hm3 := hm2.no hxb
  have hx3 := hxx.comp hxb
  generalize w2.alloc (.cells #[.slice k1.v C1.v.length k1.vc, .slice k1.r C1.regs.length k1.rc, .slice k1.e C1.elems.length k1.ec, .slice k1.g C1.gone.length k1.gc, .slice k1.s C1.sums.length k1.sc, .slice k1.b C1.binds.length k1.bc] 31) = w3 at *
  clear hm2 hxx hxb hgc
  have c0 := hC.cell 0 _ rfl
  have c1 := hC.cell 1 _ rfl
  have c2 := hC.cell 2 _ rfl
  have c3 := hC.cell 3 _ rfl
  have c4 := hC.cell 4 _ rfl
  have c5 := hC.cell 5 _ rfl
  go_wp2_with fail
  refine (members_any w3 C1 k1 [107] 3 hm3.e.rd (by have := hsm.e; omega) (by unfold I64ok; omega) (fun x hx => by rw [Hc.out] at hx; rw [List.mem_singleton.1 hx]; exact ⟨by decide, by unfold I64ok; decide⟩)).mono ?_
  rintro e w4 ⟨a, c, M, rfl, hrd, hok, hno, _, hx4⟩
  have hsay : memErr C1.elems [107] 3 = 0 := by rw [Hc.out]; rfl
  rw [hsay] at hok hno ⊢
  have hM := hok rfl
  rw [Hc.out] at hM
  have hM1 : M = [[32, 65, 97, 32]] := isMem_one hM rfl
  subst hM1
  obtain ⟨ad, rfl, _⟩ := hrd.ne (by simp)
  have y0 : w4.cell? ad = some (.string (str [32, 65, 97, 32])) := by have q := hrd.get (j := 0) (v := .string (str [32, 65, 97, 32])) rfl; rw [Addr.add_zero'] at q; exact q
  clear hsay hok hno hM hrd
  have t0 : ((str [32, 65, 97, 32]).toList == ([32, 65, 97, 32] : List UInt8)) = true := by rw [toList_str]; rfl
  go_wp2_with fail
  go_ret
  exact ⟨rfl, hx3.comp hx4⟩

set_option maxRecDepth 100000 in
set_option maxHeartbeats 2000000 in
theorem cvers_211 (w : World) (n0 n1 n2 : Int) (h0 : I64ok n0) (h1 : I64ok n1) (h2 : I64ok n2) (e0 : n0 % 3 = 0) (e1 : n1 % 3 = 0) (e2 : n2 % 3 = 2) :
    Calls Tryz.prog 6 #[.int .i64 n0, .int .i64 n1, .int .i64 n2] w fun e w' => e = .returned (.bool true) ∧ Ext no w w' := by
  have k0 := fun w => cowithin_any n0 3 w (by omega) (by omega) h0
  have k1 := fun w => cowithin_any n1 3 w (by omega) (by omega) h1
  have k2 := fun w => cowithin_any n2 3 w (by omega) (by omega) h2
  rw [e0] at k0
  rw [e1] at k1
  rw [e2] at k2
  have K0 := Lib.hid k0
  have K1 := Lib.hid k1
  have K2 := Lib.hid k2
  clear k0 k1 k2 e0 e1 e2
  go_enter Tryz.func6, Tryz.ntmps6
  go_wp2_with fail
  refine (known_any w).mono ?_
  rintro e w0 ⟨rfl, hx0⟩
  go_wp2_with fail
  refine (K0.out w0).mono ?_
  rintro e w1 ⟨rfl, rfl⟩
  go_wp2_with fail
  refine (K1.out w0).mono ?_
  rintro e w1 ⟨rfl, rfl⟩
  go_wp2_with fail
  refine (K2.out _).mono ?_
  rintro e w1 ⟨rfl, rfl⟩
  have hxs := Ext.alloc no w0 (.cells #[.int .i64 1, .int .i64 2, .int .i64 5] 3)
  have hS := Blk.lit w0 #[.int .i64 1, .int .i64 2, .int .i64 5] 3
  have s2 := hS.cell 2 _ rfl
  go_wp2_with fail
  refine (apply_any _ CollR.nil six0 (versOp 1 5) none 0 (nil_in _) (CollR.small_nil.mono (by omega)) CollR.fine_nil.ok (Rd.nil _ _) (Nat.zero_le _) (by decide) (by decide)).mono ?_
  rintro e w2 ⟨k1, rfl, hm2, hx2⟩
  have hf := CollR.fine_nil.apply (versOp 1 5)
  have hsm := CollR.small_nil.apply (versOp 1 5)
  have he : applyErr CollR.nil (versOp 1 5) = 0 := by decide
  rw [he]
  have hc : (applyC CollR.nil (versOp 1 5)).binds = [⟨5, [32, 65, 97, 32], 1, ⟨0, 1, 1⟩⟩] := rfl
  generalize applyC CollR.nil (versOp 1 5) = C1 at *
  have Hc := Lib.hid hc
  unfold CollR.val
  have hxx := (hx0.comp hxs).comp hx2
  clear he hc hS s2 hxs hx0 hx2
  obtain ⟨gc, hgc⟩ : ∃ gc, gc = w2.heap.size := ⟨_, rfl⟩
  go_upto_region 6 with fail
  rw [← hgc]
  have hC := Blk.at w2 #[.slice k1.v C1.v.length k1.vc, .slice k1.r C1.regs.length k1.rc, .slice k1.e C1.elems.length k1.ec, .slice k1.g C1.gone.length k1.gc, .slice k1.s C1.sums.length k1.sc, .slice k1.b C1.binds.length k1.bc] 31 gc hgc
  have hxb := Ext.alloc no w2 (.cells #[.slice k1.v C1.v.length k1.vc, .slice k1.r C1.regs.length k1.rc, .slice k1.e C1.elems.length k1.ec, .slice k1.g C1.gone.length k1.gc, .slice k1.s C1.sums.length k1.sc, .slice k1.b C1.binds.length k1.bc] 31)
  have hm3 := hm2.no hxb
  have hx3 := hxx.comp hxb
  generalize w2.alloc (.cells #[.slice k1.v C1.v.length k1.vc, .slice k1.r C1.regs.length k1.rc, .slice k1.e C1.elems.length k1.ec, .slice k1.g C1.gone.length k1.gc, .slice k1.s C1.sums.length k1.sc, .slice k1.b C1.binds.length k1.bc] 31) = w3 at *
  clear hm2 hxx hxb hgc
  have c0 := hC.cell 0 _ rfl
  have c1 := hC.cell 1 _ rfl
  have c2 := hC.cell 2 _ rfl
  have c3 := hC.cell 3 _ rfl
  have c4 := hC.cell 4 _ rfl
  have c5 := hC.cell 5 _ rfl
  go_wp2_with fail
  refine (bindsay_any w3 C1 k1 5 1 hm3.b.rd (by have := hsm.b; omega) hf.ok.b (by unfold I64ok; omega) (fun x hx => by rw [Hc.out] at hx; rw [List.mem_singleton.1 hx]; exact ⟨by decide, by unfold I64ok; decide⟩)).mono ?_
  rintro e w4 ⟨rfl, hx4⟩
  have hsay : bindsay C1 5 1 = ([32, 65, 97, 32], 0) := by unfold bindsay; rw [Hc.out]; rfl
  rw [hsay]
  clear hsay
  have t0 : ((str [32, 65, 97, 32]).toList == ([32, 65, 97, 32] : List UInt8)) = true := by rw [toList_str]; rfl
  go_wp2_with fail
  go_ret
  exact ⟨rfl, hx3.comp hx4⟩

set_option maxRecDepth 100000 in
set_option maxHeartbeats 2000000 in
theorem cvers_212 (w : World) (n0 n1 n2 : Int) (h0 : I64ok n0) (h1 : I64ok n1) (h2 : I64ok n2) (e0 : n0 % 3 = 0) (e1 : n1 % 3 = 1) (e2 : n2 % 3 = 2) :
    Calls Tryz.prog 6 #[.int .i64 n0, .int .i64 n1, .int .i64 n2] w fun e w' => e = .returned (.bool true) ∧ Ext no w w' := by
  have k0 := fun w => cowithin_any n0 3 w (by omega) (by omega) h0
  have k1 := fun w => cowithin_any n1 3 w (by omega) (by omega) h1
  have k2 := fun w => cowithin_any n2 3 w (by omega) (by omega) h2
  rw [e0] at k0
  rw [e1] at k1
  rw [e2] at k2
  have K0 := Lib.hid k0
  have K1 := Lib.hid k1
  have K2 := Lib.hid k2
  clear k0 k1 k2 e0 e1 e2
  go_enter Tryz.func6, Tryz.ntmps6
  go_wp2_with fail
  refine (known_any w).mono ?_
  rintro e w0 ⟨rfl, hx0⟩
  go_wp2_with fail
  refine (K0.out w0).mono ?_
  rintro e w1 ⟨rfl, rfl⟩
  go_wp2_with fail
  refine (K1.out w0).mono ?_
  rintro e w1 ⟨rfl, rfl⟩
  go_wp2_with fail
  refine (K2.out _).mono ?_
  rintro e w1 ⟨rfl, rfl⟩
  have hxs := Ext.alloc no w0 (.cells #[.int .i64 1, .int .i64 2, .int .i64 5] 3)
  have hS := Blk.lit w0 #[.int .i64 1, .int .i64 2, .int .i64 5] 3
  have s2 := hS.cell 2 _ rfl
  go_wp2_with fail
  refine (apply_any _ CollR.nil six0 (versOp 1 5) none 0 (nil_in _) (CollR.small_nil.mono (by omega)) CollR.fine_nil.ok (Rd.nil _ _) (Nat.zero_le _) (by decide) (by decide)).mono ?_
  rintro e w2 ⟨k1, rfl, hm2, hx2⟩
  have hf := CollR.fine_nil.apply (versOp 1 5)
  have hsm := CollR.small_nil.apply (versOp 1 5)
  have he : applyErr CollR.nil (versOp 1 5) = 0 := by decide
  rw [he]
  have hc : (applyC CollR.nil (versOp 1 5)).binds = [⟨5, [32, 65, 97, 32], 1, ⟨0, 1, 1⟩⟩] := rfl
  generalize applyC CollR.nil (versOp 1 5) = C1 at *
  have Hc := Lib.hid hc
  unfold CollR.val
  have hxx := (hx0.comp hxs).comp hx2
  clear he hc hS s2 hxs hx0 hx2
  obtain ⟨gc, hgc⟩ : ∃ gc, gc = w2.heap.size := ⟨_, rfl⟩
  go_upto_region 6 with fail
  rw [← hgc]
  have hC := Blk.at w2 #[.slice k1.v C1.v.length k1.vc, .slice k1.r C1.regs.length k1.rc, .slice k1.e C1.elems.length k1.ec, .slice k1.g C1.gone.length k1.gc, .slice k1.s C1.sums.length k1.sc, .slice k1.b C1.binds.length k1.bc] 31 gc hgc
  have hxb := Ext.alloc no w2 (.cells #[.slice k1.v C1.v.length k1.vc, .slice k1.r C1.regs.length k1.rc, .slice k1.e C1.elems.length k1.ec, .slice k1.g C1.gone.length k1.gc, .slice k1.s C1.sums.length k1.sc, .slice k1.b C1.binds.length k1.bc] 31)
  have hm3 := hm2.no hxb
  have hx3 := hxx.comp hxb
  generalize w2.alloc (.cells #[.slice k1.v C1.v.length k1.vc, .slice k1.r C1.regs.length k1.rc, .slice k1.e C1.elems.length k1.ec, .slice k1.g C1.gone.length k1.gc, .slice k1.s C1.sums.length k1.sc, .slice k1.b C1.binds.length k1.bc] 31) = w3 at *
  clear hm2 hxx hxb hgc
  have c0 := hC.cell 0 _ rfl
  have c1 := hC.cell 1 _ rfl
  have c2 := hC.cell 2 _ rfl
  have c3 := hC.cell 3 _ rfl
  have c4 := hC.cell 4 _ rfl
  have c5 := hC.cell 5 _ rfl
  go_wp2_with fail
  refine (bindsay_any w3 C1 k1 5 2 hm3.b.rd (by have := hsm.b; omega) hf.ok.b (by unfold I64ok; omega) (fun x hx => by rw [Hc.out] at hx; rw [List.mem_singleton.1 hx]; exact ⟨by decide, by unfold I64ok; decide⟩)).mono ?_
  rintro e w4 ⟨rfl, hx4⟩
  have hsay : bindsay C1 5 2 = ([32, 97, 97, 32], 0) := by unfold bindsay; rw [Hc.out]; rfl
  rw [hsay]
  clear hsay
  have t0 : ((str [32, 97, 97, 32]).toList == ([32, 97, 97, 32] : List UInt8)) = true := by rw [toList_str]; rfl
  go_wp2_with fail
  go_ret
  exact ⟨rfl, hx3.comp hx4⟩

set_option maxRecDepth 100000 in
set_option maxHeartbeats 2000000 in
theorem cvers_213 (w : World) (n0 n1 n2 : Int) (h0 : I64ok n0) (h1 : I64ok n1) (h2 : I64ok n2) (e0 : n0 % 3 = 0) (e1 : n1 % 3 = 2) (e2 : n2 % 3 = 2) :
    Calls Tryz.prog 6 #[.int .i64 n0, .int .i64 n1, .int .i64 n2] w fun e w' => e = .returned (.bool true) ∧ Ext no w w' := by
  have k0 := fun w => cowithin_any n0 3 w (by omega) (by omega) h0
  have k1 := fun w => cowithin_any n1 3 w (by omega) (by omega) h1
  have k2 := fun w => cowithin_any n2 3 w (by omega) (by omega) h2
  rw [e0] at k0
  rw [e1] at k1
  rw [e2] at k2
  have K0 := Lib.hid k0
  have K1 := Lib.hid k1
  have K2 := Lib.hid k2
  clear k0 k1 k2 e0 e1 e2
  have hcut : ∀ w, (Instr.sliceAt 9 (.string { data := #[32, 97, 97, 32] }) (some (.int .i64 1)) (some (.int .i64 3)) none).run Tryz.prog w = .ok (.string { data := #[97, 97] }) w := fun w => by kernel_rfl
  go_enter Tryz.func6, Tryz.ntmps6
  go_wp2_with fail
  refine (known_any w).mono ?_
  rintro e w0 ⟨rfl, hx0⟩
  go_wp2_with fail
  refine (K0.out w0).mono ?_
  rintro e w1 ⟨rfl, rfl⟩
  go_wp2_with fail
  refine (K1.out w0).mono ?_
  rintro e w1 ⟨rfl, rfl⟩
  go_wp2_with fail
  refine (K2.out _).mono ?_
  rintro e w1 ⟨rfl, rfl⟩
  have hxs := Ext.alloc no w0 (.cells #[.int .i64 1, .int .i64 2, .int .i64 5] 3)
  have hS := Blk.lit w0 #[.int .i64 1, .int .i64 2, .int .i64 5] 3
  have s2 := hS.cell 2 _ rfl
  go_wp2_with fail
  refine (apply_any _ CollR.nil six0 (versOp 1 5) none 0 (nil_in _) (CollR.small_nil.mono (by omega)) CollR.fine_nil.ok (Rd.nil _ _) (Nat.zero_le _) (by decide) (by decide)).mono ?_
  rintro e w2 ⟨k1, rfl, hm2, hx2⟩
  have hf := CollR.fine_nil.apply (versOp 1 5)
  have hsm := CollR.small_nil.apply (versOp 1 5)
  have he : applyErr CollR.nil (versOp 1 5) = 0 := by decide
  rw [he]
  have hc : (applyC CollR.nil (versOp 1 5)).binds = [⟨5, [32, 65, 97, 32], 1, ⟨0, 1, 1⟩⟩] := rfl
  generalize applyC CollR.nil (versOp 1 5) = C1 at *
  have Hc := Lib.hid hc
  unfold CollR.val
  have hxx := (hx0.comp hxs).comp hx2
  clear he hc hS s2 hxs hx0 hx2
  obtain ⟨gc, hgc⟩ : ∃ gc, gc = w2.heap.size := ⟨_, rfl⟩
  go_upto_region 6 with fail
  rw [← hgc]
  have hC := Blk.at w2 #[.slice k1.v C1.v.length k1.vc, .slice k1.r C1.regs.length k1.rc, .slice k1.e C1.elems.length k1.ec, .slice k1.g C1.gone.length k1.gc, .slice k1.s C1.sums.length k1.sc, .slice k1.b C1.binds.length k1.bc] 31 gc hgc
  have hxb := Ext.alloc no w2 (.cells #[.slice k1.v C1.v.length k1.vc, .slice k1.r C1.regs.length k1.rc, .slice k1.e C1.elems.length k1.ec, .slice k1.g C1.gone.length k1.gc, .slice k1.s C1.sums.length k1.sc, .slice k1.b C1.binds.length k1.bc] 31)
  have hm3 := hm2.no hxb
  have hx3 := hxx.comp hxb
  generalize w2.alloc (.cells #[.slice k1.v C1.v.length k1.vc, .slice k1.r C1.regs.length k1.rc, .slice k1.e C1.elems.length k1.ec, .slice k1.g C1.gone.length k1.gc, .slice k1.s C1.sums.length k1.sc, .slice k1.b C1.binds.length k1.bc] 31) = w3 at *
  clear hm2 hxx hxb hgc
  have c0 := hC.cell 0 _ rfl
  have c1 := hC.cell 1 _ rfl
  have c2 := hC.cell 2 _ rfl
  have c3 := hC.cell 3 _ rfl
  have c4 := hC.cell 4 _ rfl
  have c5 := hC.cell 5 _ rfl
  go_wp2_with fail
  refine (bindsay_any w3 C1 k1 5 3 hm3.b.rd (by have := hsm.b; omega) hf.ok.b (by unfold I64ok; omega) (fun x hx => by rw [Hc.out] at hx; rw [List.mem_singleton.1 hx]; exact ⟨by decide, by unfold I64ok; decide⟩)).mono ?_
  rintro e w4 ⟨rfl, hx4⟩
  have hsay : bindsay C1 5 3 = ([97, 97], 0) := by unfold bindsay; rw [Hc.out]; rfl
  rw [hsay]
  clear hsay
  have t0 : ((str [97, 97]).toList == ([97, 97] : List UInt8)) = true := by rw [toList_str]; rfl
  go_wp2_with fail
  go_ret
  exact ⟨rfl, hx3.comp hx4⟩

set_option maxRecDepth 100000 in
set_option maxHeartbeats 2000000 in
theorem cvers_221 (w : World) (n0 n1 n2 : Int) (h0 : I64ok n0) (h1 : I64ok n1) (h2 : I64ok n2) (e0 : n0 % 3 = 1) (e1 : n1 % 3 = 0) (e2 : n2 % 3 = 2) :
    Calls Tryz.prog 6 #[.int .i64 n0, .int .i64 n1, .int .i64 n2] w fun e w' => e = .returned (.bool true) ∧ Ext no w w' := by
  have k0 := fun w => cowithin_any n0 3 w (by omega) (by omega) h0
  have k1 := fun w => cowithin_any n1 3 w (by omega) (by omega) h1
  have k2 := fun w => cowithin_any n2 3 w (by omega) (by omega) h2
  rw [e0] at k0
  rw [e1] at k1
  rw [e2] at k2
  have K0 := Lib.hid k0
  have K1 := Lib.hid k1
  have K2 := Lib.hid k2
  clear k0 k1 k2 e0 e1 e2
  go_enter Tryz.func6, Tryz.ntmps6
  go_wp2_with fail
  refine (known_any w).mono ?_
  rintro e w0 ⟨rfl, hx0⟩
  go_wp2_with fail
  refine (K0.out w0).mono ?_
  rintro e w1 ⟨rfl, rfl⟩
  go_wp2_with fail
  refine (K1.out w0).mono ?_
  rintro e w1 ⟨rfl, rfl⟩
  go_wp2_with fail
  refine (K2.out _).mono ?_
  rintro e w1 ⟨rfl, rfl⟩
  have hxs := Ext.alloc no w0 (.cells #[.int .i64 1, .int .i64 2, .int .i64 5] 3)
  have hS := Blk.lit w0 #[.int .i64 1, .int .i64 2, .int .i64 5] 3
  have s2 := hS.cell 2 _ rfl
  go_wp2_with fail
  refine (apply_any _ CollR.nil six0 (versOp 2 5) none 0 (nil_in _) (CollR.small_nil.mono (by omega)) CollR.fine_nil.ok (Rd.nil _ _) (Nat.zero_le _) (by decide) (by decide)).mono ?_
  rintro e w2 ⟨k1, rfl, hm2, hx2⟩
  have hf := CollR.fine_nil.apply (versOp 2 5)
  have hsm := CollR.small_nil.apply (versOp 2 5)
  have he : applyErr CollR.nil (versOp 2 5) = 0 := by decide
  rw [he]
  have hc : (applyC CollR.nil (versOp 2 5)).binds = [⟨5, [32, 65, 97, 32], 2, ⟨0, 1, 1⟩⟩] := rfl
  generalize applyC CollR.nil (versOp 2 5) = C1 at *
  have Hc := Lib.hid hc
  unfold CollR.val
  have hxx := (hx0.comp hxs).comp hx2
  clear he hc hS s2 hxs hx0 hx2
  obtain ⟨gc, hgc⟩ : ∃ gc, gc = w2.heap.size := ⟨_, rfl⟩
  go_upto_region 6 with fail
  rw [← hgc]
  have hC := Blk.at w2 #[.slice k1.v C1.v.length k1.vc, .slice k1.r C1.regs.length k1.rc, .slice k1.e C1.elems.length k1.ec, .slice k1.g C1.gone.length k1.gc, .slice k1.s C1.sums.length k1.sc, .slice k1.b C1.binds.length k1.bc] 31 gc hgc
  have hxb := Ext.alloc no w2 (.cells #[.slice k1.v C1.v.length k1.vc, .slice k1.r C1.regs.length k1.rc, .slice k1.e C1.elems.length k1.ec, .slice k1.g C1.gone.length k1.gc, .slice k1.s C1.sums.length k1.sc, .slice k1.b C1.binds.length k1.bc] 31)
  have hm3 := hm2.no hxb
  have hx3 := hxx.comp hxb
  generalize w2.alloc (.cells #[.slice k1.v C1.v.length k1.vc, .slice k1.r C1.regs.length k1.rc, .slice k1.e C1.elems.length k1.ec, .slice k1.g C1.gone.length k1.gc, .slice k1.s C1.sums.length k1.sc, .slice k1.b C1.binds.length k1.bc] 31) = w3 at *
  clear hm2 hxx hxb hgc
  have c0 := hC.cell 0 _ rfl
  have c1 := hC.cell 1 _ rfl
  have c2 := hC.cell 2 _ rfl
  have c3 := hC.cell 3 _ rfl
  have c4 := hC.cell 4 _ rfl
  have c5 := hC.cell 5 _ rfl
  go_wp2_with fail
  refine (bindsay_any w3 C1 k1 5 1 hm3.b.rd (by have := hsm.b; omega) hf.ok.b (by unfold I64ok; omega) (fun x hx => by rw [Hc.out] at hx; rw [List.mem_singleton.1 hx]; exact ⟨by decide, by unfold I64ok; decide⟩)).mono ?_
  rintro e w4 ⟨rfl, hx4⟩
  have hsay : bindsay C1 5 1 = ([], 13) := by unfold bindsay; rw [Hc.out]; rfl
  rw [hsay]
  clear hsay
  have t0 : (str []).toList.isEmpty = true := beqEmptyT rfl
  go_wp2_with fail
  go_ret
  exact ⟨rfl, hx3.comp hx4⟩

set_option maxRecDepth 100000 in
set_option maxHeartbeats 2000000 in
theorem cvers_222 (w : World) (n0 n1 n2 : Int) (h0 : I64ok n0) (h1 : I64ok n1) (h2 : I64ok n2) (e0 : n0 % 3 = 1) (e1 : n1 % 3 = 1) (e2 : n2 % 3 = 2) :
    Calls Tryz.prog 6 #[.int .i64 n0, .int .i64 n1, .int .i64 n2] w fun e w' => e = .returned (.bool true) ∧ Ext no w w' := by
  have k0 := fun w => cowithin_any n0 3 w (by omega) (by omega) h0
  have k1 := fun w => cowithin_any n1 3 w (by omega) (by omega) h1
  have k2 := fun w => cowithin_any n2 3 w (by omega) (by omega) h2
  rw [e0] at k0
  rw [e1] at k1
  rw [e2] at k2
  have K0 := Lib.hid k0
  have K1 := Lib.hid k1
  have K2 := Lib.hid k2
  clear k0 k1 k2 e0 e1 e2
  go_enter Tryz.func6, Tryz.ntmps6
  go_wp2_with fail
  refine (known_any w).mono ?_
  rintro e w0 ⟨rfl, hx0⟩
  go_wp2_with fail
  refine (K0.out w0).mono ?_
  rintro e w1 ⟨rfl, rfl⟩
  go_wp2_with fail
  refine (K1.out w0).mono ?_
  rintro e w1 ⟨rfl, rfl⟩
  go_wp2_with fail
  refine (K2.out _).mono ?_
  rintro e w1 ⟨rfl, rfl⟩
  have hxs := Ext.alloc no w0 (.cells #[.int .i64 1, .int .i64 2, .int .i64 5] 3)
  have hS := Blk.lit w0 #[.int .i64 1, .int .i64 2, .int .i64 5] 3
  have s2 := hS.cell 2 _ rfl
  go_wp2_with fail
  refine (apply_any _ CollR.nil six0 (versOp 2 5) none 0 (nil_in _) (CollR.small_nil.mono (by omega)) CollR.fine_nil.ok (Rd.nil _ _) (Nat.zero_le _) (by decide) (by decide)).mono ?_
  rintro e w2 ⟨k1, rfl, hm2, hx2⟩
  have hf := CollR.fine_nil.apply (versOp 2 5)
  have hsm := CollR.small_nil.apply (versOp 2 5)
  have he : applyErr CollR.nil (versOp 2 5) = 0 := by decide
  rw [he]
  have hc : (applyC CollR.nil (versOp 2 5)).binds = [⟨5, [32, 65, 97, 32], 2, ⟨0, 1, 1⟩⟩] := rfl
  generalize applyC CollR.nil (versOp 2 5) = C1 at *
  have Hc := Lib.hid hc
  unfold CollR.val
  have hxx := (hx0.comp hxs).comp hx2
  clear he hc hS s2 hxs hx0 hx2
  obtain ⟨gc, hgc⟩ : ∃ gc, gc = w2.heap.size := ⟨_, rfl⟩
  go_upto_region 6 with fail
  rw [← hgc]
  have hC := Blk.at w2 #[.slice k1.v C1.v.length k1.vc, .slice k1.r C1.regs.length k1.rc, .slice k1.e C1.elems.length k1.ec, .slice k1.g C1.gone.length k1.gc, .slice k1.s C1.sums.length k1.sc, .slice k1.b C1.binds.length k1.bc] 31 gc hgc
  have hxb := Ext.alloc no w2 (.cells #[.slice k1.v C1.v.length k1.vc, .slice k1.r C1.regs.length k1.rc, .slice k1.e C1.elems.length k1.ec, .slice k1.g C1.gone.length k1.gc, .slice k1.s C1.sums.length k1.sc, .slice k1.b C1.binds.length k1.bc] 31)
  have hm3 := hm2.no hxb
  have hx3 := hxx.comp hxb
  generalize w2.alloc (.cells #[.slice k1.v C1.v.length k1.vc, .slice k1.r C1.regs.length k1.rc, .slice k1.e C1.elems.length k1.ec, .slice k1.g C1.gone.length k1.gc, .slice k1.s C1.sums.length k1.sc, .slice k1.b C1.binds.length k1.bc] 31) = w3 at *
  clear hm2 hxx hxb hgc
  have c0 := hC.cell 0 _ rfl
  have c1 := hC.cell 1 _ rfl
  have c2 := hC.cell 2 _ rfl
  have c3 := hC.cell 3 _ rfl
  have c4 := hC.cell 4 _ rfl
  have c5 := hC.cell 5 _ rfl
  go_wp2_with fail
  refine (bindsay_any w3 C1 k1 5 2 hm3.b.rd (by have := hsm.b; omega) hf.ok.b (by unfold I64ok; omega) (fun x hx => by rw [Hc.out] at hx; rw [List.mem_singleton.1 hx]; exact ⟨by decide, by unfold I64ok; decide⟩)).mono ?_
  rintro e w4 ⟨rfl, hx4⟩
  have hsay : bindsay C1 5 2 = ([32, 65, 97, 32], 0) := by unfold bindsay; rw [Hc.out]; rfl
  rw [hsay]
  clear hsay
  have t0 : ((str [32, 65, 97, 32]).toList == ([32, 65, 97, 32] : List UInt8)) = true := by rw [toList_str]; rfl
  go_wp2_with fail
  go_ret
  exact ⟨rfl, hx3.comp hx4⟩

set_option maxRecDepth 100000 in
set_option maxHeartbeats 2000000 in
theorem cvers_223 (w : World) (n0 n1 n2 : Int) (h0 : I64ok n0) (h1 : I64ok n1) (h2 : I64ok n2) (e0 : n0 % 3 = 1) (e1 : n1 % 3 = 2) (e2 : n2 % 3 = 2) :
    Calls Tryz.prog 6 #[.int .i64 n0, .int .i64 n1, .int .i64 n2] w fun e w' => e = .returned (.bool true) ∧ Ext no w w' := by
  have k0 := fun w => cowithin_any n0 3 w (by omega) (by omega) h0
  have k1 := fun w => cowithin_any n1 3 w (by omega) (by omega) h1
  have k2 := fun w => cowithin_any n2 3 w (by omega) (by omega) h2
  rw [e0] at k0
  rw [e1] at k1
  rw [e2] at k2
  have K0 := Lib.hid k0
  have K1 := Lib.hid k1
  have K2 := Lib.hid k2
  clear k0 k1 k2 e0 e1 e2
  have hcut : ∀ w, (Instr.sliceAt 9 (.string { data := #[32, 65, 97, 32] }) (some (.int .i64 1)) (some (.int .i64 3)) none).run Tryz.prog w = .ok (.string { data := #[65, 97] }) w := fun w => by kernel_rfl
  go_enter Tryz.func6, Tryz.ntmps6
  go_wp2_with fail
  refine (known_any w).mono ?_
  rintro e w0 ⟨rfl, hx0⟩
  go_wp2_with fail
  refine (K0.out w0).mono ?_
  rintro e w1 ⟨rfl, rfl⟩
  go_wp2_with fail
  refine (K1.out w0).mono ?_
  rintro e w1 ⟨rfl, rfl⟩
  go_wp2_with fail
  refine (K2.out _).mono ?_
  rintro e w1 ⟨rfl, rfl⟩
  have hxs := Ext.alloc no w0 (.cells #[.int .i64 1, .int .i64 2, .int .i64 5] 3)
  have hS := Blk.lit w0 #[.int .i64 1, .int .i64 2, .int .i64 5] 3
  have s2 := hS.cell 2 _ rfl
  go_wp2_with fail
  refine (apply_any _ CollR.nil six0 (versOp 2 5) none 0 (nil_in _) (CollR.small_nil.mono (by omega)) CollR.fine_nil.ok (Rd.nil _ _) (Nat.zero_le _) (by decide) (by decide)).mono ?_
  rintro e w2 ⟨k1, rfl, hm2, hx2⟩
  have hf := CollR.fine_nil.apply (versOp 2 5)
  have hsm := CollR.small_nil.apply (versOp 2 5)
  have he : applyErr CollR.nil (versOp 2 5) = 0 := by decide
  rw [he]
  have hc : (applyC CollR.nil (versOp 2 5)).binds = [⟨5, [32, 65, 97, 32], 2, ⟨0, 1, 1⟩⟩] := rfl
  generalize applyC CollR.nil (versOp 2 5) = C1 at *
  have Hc := Lib.hid hc
  unfold CollR.val
  have hxx := (hx0.comp hxs).comp hx2
  clear he hc hS s2 hxs hx0 hx2
  obtain ⟨gc, hgc⟩ : ∃ gc, gc = w2.heap.size := ⟨_, rfl⟩
  go_upto_region 6 with fail
  rw [← hgc]
  have hC := Blk.at w2 #[.slice k1.v C1.v.length k1.vc, .slice k1.r C1.regs.length k1.rc, .slice k1.e C1.elems.length k1.ec, .slice k1.g C1.gone.length k1.gc, .slice k1.s C1.sums.length k1.sc, .slice k1.b C1.binds.length k1.bc] 31 gc hgc
  have hxb := Ext.alloc no w2 (.cells #[.slice k1.v C1.v.length k1.vc, .slice k1.r C1.regs.length k1.rc, .slice k1.e C1.elems.length k1.ec, .slice k1.g C1.gone.length k1.gc, .slice k1.s C1.sums.length k1.sc, .slice k1.b C1.binds.length k1.bc] 31)
  have hm3 := hm2.no hxb
  have hx3 := hxx.comp hxb
  generalize w2.alloc (.cells #[.slice k1.v C1.v.length k1.vc, .slice k1.r C1.regs.length k1.rc, .slice k1.e C1.elems.length k1.ec, .slice k1.g C1.gone.length k1.gc, .slice k1.s C1.sums.length k1.sc, .slice k1.b C1.binds.length k1.bc] 31) = w3 at *
  clear hm2 hxx hxb hgc
  have c0 := hC.cell 0 _ rfl
  have c1 := hC.cell 1 _ rfl
  have c2 := hC.cell 2 _ rfl
  have c3 := hC.cell 3 _ rfl
  have c4 := hC.cell 4 _ rfl
  have c5 := hC.cell 5 _ rfl
  go_wp2_with fail
  refine (bindsay_any w3 C1 k1 5 3 hm3.b.rd (by have := hsm.b; omega) hf.ok.b (by unfold I64ok; omega) (fun x hx => by rw [Hc.out] at hx; rw [List.mem_singleton.1 hx]; exact ⟨by decide, by unfold I64ok; decide⟩)).mono ?_
  rintro e w4 ⟨rfl, hx4⟩
  have hsay : bindsay C1 5 3 = ([65, 97], 0) := by unfold bindsay; rw [Hc.out]; rfl
  rw [hsay]
  clear hsay
  have t0 : ((str [65, 97]).toList == ([65, 97] : List UInt8)) = true := by rw [toList_str]; rfl
  go_wp2_with fail
  go_ret
  exact ⟨rfl, hx3.comp hx4⟩

set_option maxRecDepth 100000 in
set_option maxHeartbeats 2000000 in
theorem cvers_231 (w : World) (n0 n1 n2 : Int) (h0 : I64ok n0) (h1 : I64ok n1) (h2 : I64ok n2) (e0 : n0 % 3 = 2) (e1 : n1 % 3 = 0) (e2 : n2 % 3 = 2) :
    Calls Tryz.prog 6 #[.int .i64 n0, .int .i64 n1, .int .i64 n2] w fun e w' => e = .returned (.bool true) ∧ Ext no w w' := by
  have k0 := fun w => cowithin_any n0 3 w (by omega) (by omega) h0
  have k1 := fun w => cowithin_any n1 3 w (by omega) (by omega) h1
  have k2 := fun w => cowithin_any n2 3 w (by omega) (by omega) h2
  rw [e0] at k0
  rw [e1] at k1
  rw [e2] at k2
  have K0 := Lib.hid k0
  have K1 := Lib.hid k1
  have K2 := Lib.hid k2
  clear k0 k1 k2 e0 e1 e2
  go_enter Tryz.func6, Tryz.ntmps6
  go_wp2_with fail
  refine (known_any w).mono ?_
  rintro e w0 ⟨rfl, hx0⟩
  go_wp2_with fail
  refine (K0.out w0).mono ?_
  rintro e w1 ⟨rfl, rfl⟩
  go_wp2_with fail
  refine (K1.out w0).mono ?_
  rintro e w1 ⟨rfl, rfl⟩
  go_wp2_with fail
  refine (K2.out _).mono ?_
  rintro e w1 ⟨rfl, rfl⟩
  have hxs := Ext.alloc no w0 (.cells #[.int .i64 1, .int .i64 2, .int .i64 5] 3)
  have hS := Blk.lit w0 #[.int .i64 1, .int .i64 2, .int .i64 5] 3
  have s2 := hS.cell 2 _ rfl
  go_wp2_with fail
  refine (apply_any _ CollR.nil six0 (versOp 3 5) none 0 (nil_in _) (CollR.small_nil.mono (by omega)) CollR.fine_nil.ok (Rd.nil _ _) (Nat.zero_le _) (by decide) (by decide)).mono ?_
  rintro e w2 ⟨k1, rfl, hm2, hx2⟩
  have hf := CollR.fine_nil.apply (versOp 3 5)
  have hsm := CollR.small_nil.apply (versOp 3 5)
  have he : applyErr CollR.nil (versOp 3 5) = 0 := by decide
  rw [he]
  have hc : (applyC CollR.nil (versOp 3 5)).binds = [⟨5, [32, 65, 97, 32], 3, ⟨0, 1, 1⟩⟩] := rfl
  generalize applyC CollR.nil (versOp 3 5) = C1 at *
  have Hc := Lib.hid hc
  unfold CollR.val
  have hxx := (hx0.comp hxs).comp hx2
  clear he hc hS s2 hxs hx0 hx2
  obtain ⟨gc, hgc⟩ : ∃ gc, gc = w2.heap.size := ⟨_, rfl⟩
  go_upto_region 6 with fail
  rw [← hgc]
  have hC := Blk.at w2 #[.slice k1.v C1.v.length k1.vc, .slice k1.r C1.regs.length k1.rc, .slice k1.e C1.elems.length k1.ec, .slice k1.g C1.gone.length k1.gc, .slice k1.s C1.sums.length k1.sc, .slice k1.b C1.binds.length k1.bc] 31 gc hgc
  have hxb := Ext.alloc no w2 (.cells #[.slice k1.v C1.v.length k1.vc, .slice k1.r C1.regs.length k1.rc, .slice k1.e C1.elems.length k1.ec, .slice k1.g C1.gone.length k1.gc, .slice k1.s C1.sums.length k1.sc, .slice k1.b C1.binds.length k1.bc] 31)
  have hm3 := hm2.no hxb
  have hx3 := hxx.comp hxb
  generalize w2.alloc (.cells #[.slice k1.v C1.v.length k1.vc, .slice k1.r C1.regs.length k1.rc, .slice k1.e C1.elems.length k1.ec, .slice k1.g C1.gone.length k1.gc, .slice k1.s C1.sums.length k1.sc, .slice k1.b C1.binds.length k1.bc] 31) = w3 at *
  clear hm2 hxx hxb hgc
  have c0 := hC.cell 0 _ rfl
  have c1 := hC.cell 1 _ rfl
  have c2 := hC.cell 2 _ rfl
  have c3 := hC.cell 3 _ rfl
  have c4 := hC.cell 4 _ rfl
  have c5 := hC.cell 5 _ rfl
  go_wp2_with fail
  refine (bindsay_any w3 C1 k1 5 1 hm3.b.rd (by have := hsm.b; omega) hf.ok.b (by unfold I64ok; omega) (fun x hx => by rw [Hc.out] at hx; rw [List.mem_singleton.1 hx]; exact ⟨by decide, by unfold I64ok; decide⟩)).mono ?_
  rintro e w4 ⟨rfl, hx4⟩
  have hsay : bindsay C1 5 1 = ([], 13) := by unfold bindsay; rw [Hc.out]; rfl
  rw [hsay]
  clear hsay
  have t0 : (str []).toList.isEmpty = true := beqEmptyT rfl
  go_wp2_with fail
  go_ret
  exact ⟨rfl, hx3.comp hx4⟩

set_option maxRecDepth 100000 in
set_option maxHeartbeats 2000000 in
theorem cvers_232 (w : World) (n0 n1 n2 : Int) (h0 : I64ok n0) (h1 : I64ok n1) (h2 : I64ok n2) (e0 : n0 % 3 = 2) (e1 : n1 % 3 = 1) (e2 : n2 % 3 = 2) :
    Calls Tryz.prog 6 #[.int .i64 n0, .int .i64 n1, .int .i64 n2] w fun e w' => e = .returned (.bool true) ∧ Ext no w w' := by
  have k0 := fun w => cowithin_any n0 3 w (by omega) (by omega) h0
  have k1 := fun w => cowithin_any n1 3 w (by omega) (by omega) h1
  have k2 := fun w => cowithin_any n2 3 w (by omega) (by omega) h2
  rw [e0] at k0
  rw [e1] at k1
  rw [e2] at k2
  have K0 := Lib.hid k0
  have K1 := Lib.hid k1
  have K2 := Lib.hid k2
  clear k0 k1 k2 e0 e1 e2
  go_enter Tryz.func6, Tryz.ntmps6
  go_wp2_with fail
  refine (known_any w).mono ?_
  rintro e w0 ⟨rfl, hx0⟩
  go_wp2_with fail
  refine (K0.out w0).mono ?_
  rintro e w1 ⟨rfl, rfl⟩
  go_wp2_with fail
  refine (K1.out w0).mono ?_
  rintro e w1 ⟨rfl, rfl⟩
  go_wp2_with fail
  refine (K2.out _).mono ?_
  rintro e w1 ⟨rfl, rfl⟩
  have hxs := Ext.alloc no w0 (.cells #[.int .i64 1, .int .i64 2, .int .i64 5] 3)
  have hS := Blk.lit w0 #[.int .i64 1, .int .i64 2, .int .i64 5] 3
  have s2 := hS.cell 2 _ rfl
  go_wp2_with fail
  refine (apply_any _ CollR.nil six0 (versOp 3 5) none 0 (nil_in _) (CollR.small_nil.mono (by omega)) CollR.fine_nil.ok (Rd.nil _ _) (Nat.zero_le _) (by decide) (by decide)).mono ?_
  rintro e w2 ⟨k1, rfl, hm2, hx2⟩
  have hf := CollR.fine_nil.apply (versOp 3 5)
  have hsm := CollR.small_nil.apply (versOp 3 5)
  have he : applyErr CollR.nil (versOp 3 5) = 0 := by decide
  rw [he]
  have hc : (applyC CollR.nil (versOp 3 5)).binds = [⟨5, [32, 65, 97, 32], 3, ⟨0, 1, 1⟩⟩] := rfl
  generalize applyC CollR.nil (versOp 3 5) = C1 at *
  have Hc := Lib.hid hc
  unfold CollR.val
  have hxx := (hx0.comp hxs).comp hx2
  clear he hc hS s2 hxs hx0 hx2
  obtain ⟨gc, hgc⟩ : ∃ gc, gc = w2.heap.size := ⟨_, rfl⟩
  go_upto_region 6 with fail
  rw [← hgc]
  have hC := Blk.at w2 #[.slice k1.v C1.v.length k1.vc, .slice k1.r C1.regs.length k1.rc, .slice k1.e C1.elems.length k1.ec, .slice k1.g C1.gone.length k1.gc, .slice k1.s C1.sums.length k1.sc, .slice k1.b C1.binds.length k1.bc] 31 gc hgc
  have hxb := Ext.alloc no w2 (.cells #[.slice k1.v C1.v.length k1.vc, .slice k1.r C1.regs.length k1.rc, .slice k1.e C1.elems.length k1.ec, .slice k1.g C1.gone.length k1.gc, .slice k1.s C1.sums.length k1.sc, .slice k1.b C1.binds.length k1.bc] 31)
  have hm3 := hm2.no hxb
  have hx3 := hxx.comp hxb
  generalize w2.alloc (.cells #[.slice k1.v C1.v.length k1.vc, .slice k1.r C1.regs.length k1.rc, .slice k1.e C1.elems.length k1.ec, .slice k1.g C1.gone.length k1.gc, .slice k1.s C1.sums.length k1.sc, .slice k1.b C1.binds.length k1.bc] 31) = w3 at *
  clear hm2 hxx hxb hgc
  have c0 := hC.cell 0 _ rfl
  have c1 := hC.cell 1 _ rfl
  have c2 := hC.cell 2 _ rfl
  have c3 := hC.cell 3 _ rfl
  have c4 := hC.cell 4 _ rfl
  have c5 := hC.cell 5 _ rfl
  go_wp2_with fail
  refine (bindsay_any w3 C1 k1 5 2 hm3.b.rd (by have := hsm.b; omega) hf.ok.b (by unfold I64ok; omega) (fun x hx => by rw [Hc.out] at hx; rw [List.mem_singleton.1 hx]; exact ⟨by decide, by unfold I64ok; decide⟩)).mono ?_
  rintro e w4 ⟨rfl, hx4⟩
  have hsay : bindsay C1 5 2 = ([], 13) := by unfold bindsay; rw [Hc.out]; rfl
  rw [hsay]
  clear hsay
  have t0 : (str []).toList.isEmpty = true := beqEmptyT rfl
  go_wp2_with fail
  go_ret
  exact ⟨rfl, hx3.comp hx4⟩

set_option maxRecDepth 100000 in
set_option maxHeartbeats 2000000 in
theorem cvers_233 (w : World) (n0 n1 n2 : Int) (h0 : I64ok n0) (h1 : I64ok n1) (h2 : I64ok n2) (e0 : n0 % 3 = 2) (e1 : n1 % 3 = 2) (e2 : n2 % 3 = 2) :
    Calls Tryz.prog 6 #[.int .i64 n0, .int .i64 n1, .int .i64 n2] w fun e w' => e = .returned (.bool true) ∧ Ext no w w' := by
  have k0 := fun w => cowithin_any n0 3 w (by omega) (by omega) h0
  have k1 := fun w => cowithin_any n1 3 w (by omega) (by omega) h1
  have k2 := fun w => cowithin_any n2 3 w (by omega) (by omega) h2
  rw [e0] at k0
  rw [e1] at k1
  rw [e2] at k2
  have K0 := Lib.hid k0
  have K1 := Lib.hid k1
  have K2 := Lib.hid k2
  clear k0 k1 k2 e0 e1 e2
  go_enter Tryz.func6, Tryz.ntmps6
  go_wp2_with fail
  refine (known_any w).mono ?_
  rintro e w0 ⟨rfl, hx0⟩
  go_wp2_with fail
  refine (K0.out w0).mono ?_
  rintro e w1 ⟨rfl, rfl⟩
  go_wp2_with fail
  refine (K1.out w0).mono ?_
  rintro e w1 ⟨rfl, rfl⟩
  go_wp2_with fail
  refine (K2.out _).mono ?_
  rintro e w1 ⟨rfl, rfl⟩
  have hxs := Ext.alloc no w0 (.cells #[.int .i64 1, .int .i64 2, .int .i64 5] 3)
  have hS := Blk.lit w0 #[.int .i64 1, .int .i64 2, .int .i64 5] 3
  have s2 := hS.cell 2 _ rfl
  go_wp2_with fail
  refine (apply_any _ CollR.nil six0 (versOp 3 5) none 0 (nil_in _) (CollR.small_nil.mono (by omega)) CollR.fine_nil.ok (Rd.nil _ _) (Nat.zero_le _) (by decide) (by decide)).mono ?_
  rintro e w2 ⟨k1, rfl, hm2, hx2⟩
  have hf := CollR.fine_nil.apply (versOp 3 5)
  have hsm := CollR.small_nil.apply (versOp 3 5)
  have he : applyErr CollR.nil (versOp 3 5) = 0 := by decide
  rw [he]
  have hc : (applyC CollR.nil (versOp 3 5)).binds = [⟨5, [32, 65, 97, 32], 3, ⟨0, 1, 1⟩⟩] := rfl
  generalize applyC CollR.nil (versOp 3 5) = C1 at *
  have Hc := Lib.hid hc
  unfold CollR.val
  have hxx := (hx0.comp hxs).comp hx2
  clear he hc hS s2 hxs hx0 hx2
  obtain ⟨gc, hgc⟩ : ∃ gc, gc = w2.heap.size := ⟨_, rfl⟩
  go_upto_region 6 with fail
  rw [← hgc]
  have hC := Blk.at w2 #[.slice k1.v C1.v.length k1.vc, .slice k1.r C1.regs.length k1.rc, .slice k1.e C1.elems.length k1.ec, .slice k1.g C1.gone.length k1.gc, .slice k1.s C1.sums.length k1.sc, .slice k1.b C1.binds.length k1.bc] 31 gc hgc
  have hxb := Ext.alloc no w2 (.cells #[.slice k1.v C1.v.length k1.vc, .slice k1.r C1.regs.length k1.rc, .slice k1.e C1.elems.length k1.ec, .slice k1.g C1.gone.length k1.gc, .slice k1.s C1.sums.length k1.sc, .slice k1.b C1.binds.length k1.bc] 31)
  have hm3 := hm2.no hxb
  have hx3 := hxx.comp hxb
  generalize w2.alloc (.cells #[.slice k1.v C1.v.length k1.vc, .slice k1.r C1.regs.length k1.rc, .slice k1.e C1.elems.length k1.ec, .slice k1.g C1.gone.length k1.gc, .slice k1.s C1.sums.length k1.sc, .slice k1.b C1.binds.length k1.bc] 31) = w3 at *
  clear hm2 hxx hxb hgc
  have c0 := hC.cell 0 _ rfl
  have c1 := hC.cell 1 _ rfl
  have c2 := hC.cell 2 _ rfl
  have c3 := hC.cell 3 _ rfl
  have c4 := hC.cell 4 _ rfl
  have c5 := hC.cell 5 _ rfl
  go_wp2_with fail
  refine (bindsay_any w3 C1 k1 5 3 hm3.b.rd (by have := hsm.b; omega) hf.ok.b (by unfold I64ok; omega) (fun x hx => by rw [Hc.out] at hx; rw [List.mem_singleton.1 hx]; exact ⟨by decide, by unfold I64ok; decide⟩)).mono ?_
  rintro e w4 ⟨rfl, hx4⟩
  have hsay : bindsay C1 5 3 = ([32, 65, 97, 32], 0) := by unfold bindsay; rw [Hc.out]; rfl
  rw [hsay]
  clear hsay
  have t0 : ((str [32, 65, 97, 32]).toList == ([32, 65, 97, 32] : List UInt8)) = true := by rw [toList_str]; rfl
  go_wp2_with fail
  go_ret
  exact ⟨rfl, hx3.comp hx4⟩

theorem cvers_walk (w : World) (n0 n1 n2 : Int) (h0 : I64ok n0) (h1 : I64ok n1) (h2 : I64ok n2) :
    Calls Tryz.prog 6 #[.int .i64 n0, .int .i64 n1, .int .i64 n2] w fun e w' => e = .returned (.bool true) ∧ Ext no w w' := by
  rcases (show n2 % 3 = 0 ∨ n2 % 3 = 1 ∨ n2 % 3 = 2 by omega) with e2 | e2 | e2 <;> rcases (show n0 % 3 = 0 ∨ n0 % 3 = 1 ∨ n0 % 3 = 2 by omega) with e0 | e0 | e0 <;> rcases (show n1 % 3 = 0 ∨ n1 % 3 = 1 ∨ n1 % 3 = 2 by omega) with e1 | e1 | e1
  · exact cvers_011 w n0 n1 n2 h0 h1 h2 e0 e1 e2
  · exact cvers_012 w n0 n1 n2 h0 h1 h2 e0 e1 e2
  · exact cvers_013 w n0 n1 n2 h0 h1 h2 e0 e1 e2
  · exact cvers_021 w n0 n1 n2 h0 h1 h2 e0 e1 e2
  · exact cvers_022 w n0 n1 n2 h0 h1 h2 e0 e1 e2
  · exact cvers_023 w n0 n1 n2 h0 h1 h2 e0 e1 e2
  · exact cvers_031 w n0 n1 n2 h0 h1 h2 e0 e1 e2
  · exact cvers_032 w n0 n1 n2 h0 h1 h2 e0 e1 e2
  · exact cvers_033 w n0 n1 n2 h0 h1 h2 e0 e1 e2
  · exact cvers_111 w n0 n1 n2 h0 h1 h2 e0 e1 e2
  · exact cvers_112 w n0 n1 n2 h0 h1 h2 e0 e1 e2
  · exact cvers_113 w n0 n1 n2 h0 h1 h2 e0 e1 e2
  · exact cvers_121 w n0 n1 n2 h0 h1 h2 e0 e1 e2
  · exact cvers_122 w n0 n1 n2 h0 h1 h2 e0 e1 e2
  · exact cvers_123 w n0 n1 n2 h0 h1 h2 e0 e1 e2
  · exact cvers_131 w n0 n1 n2 h0 h1 h2 e0 e1 e2
  · exact cvers_132 w n0 n1 n2 h0 h1 h2 e0 e1 e2
  · exact cvers_133 w n0 n1 n2 h0 h1 h2 e0 e1 e2
  · exact cvers_211 w n0 n1 n2 h0 h1 h2 e0 e1 e2
  · exact cvers_212 w n0 n1 n2 h0 h1 h2 e0 e1 e2
  · exact cvers_213 w n0 n1 n2 h0 h1 h2 e0 e1 e2
  · exact cvers_221 w n0 n1 n2 h0 h1 h2 e0 e1 e2
  · exact cvers_222 w n0 n1 n2 h0 h1 h2 e0 e1 e2
  · exact cvers_223 w n0 n1 n2 h0 h1 h2 e0 e1 e2
  · exact cvers_231 w n0 n1 n2 h0 h1 h2 e0 e1 e2
  · exact cvers_232 w n0 n1 n2 h0 h1 h2 e0 e1 e2
  · exact cvers_233 w n0 n1 n2 h0 h1 h2 e0 e1 e2
end Go.Proofs.YtejmmkjpncpedaaGreatDoor
