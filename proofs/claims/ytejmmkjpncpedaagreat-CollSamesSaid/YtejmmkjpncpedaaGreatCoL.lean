/- What the laws of chapter 10 share: within, known. -/
import Derived.Test.YtejmmkjpncpedaaGreatCoK
import Derived.Test.YtejmmkjpncpedaaGreatCoT
import Derived.Test.YtejmmkjpncpedaaGreatOpen
namespace Go.Proofs.YtejmmkjpncpedaaGreat
open Go.RowKit Go.Esc
set_option linter.unusedVariables false
set_option linter.unusedSimpArgs false
set_option maxHeartbeats 400000 in
theorem cowithin_any (a n : Int) (w : World) (h1 : 0 < n) (h2 : n ≤ 4611686018427387904) (h3 : I64ok a) :
    Calls Tryz.prog 9 #[.int .i64 a, .int .i64 n] w fun e w' => e = .returned (.int .i64 (a % n)) ∧ w = w' := by
  obtain ⟨h3, h4⟩ := h3
  have hb := Int.tmod_lt_of_pos a h1
  have hb' : -n ≤ a.tmod n := by
    have := tmod_pos a n h1
    have e1 := Int.emod_nonneg a (show n ≠ 0 by omega)
    have e2 := Int.emod_lt_of_pos a h1
    generalize a % n = q at *
    split at this <;> omega
  have he := tmod_pos a n h1
  have He := Lib.hid he
  clear he
  by_cases hn : a.tmod n < 0
  · go_enter Tryz.func9, Tryz.ntmps9
    go_wp2
    go_ret
    exact ⟨by rw [He.out, if_pos (by omega)]; rfl, rfl⟩
  · go_enter Tryz.func9, Tryz.ntmps9
    go_wp2
    go_ret
    exact ⟨by rw [He.out, if_neg (by omega)]; rfl, rfl⟩
def six0 : Six := ⟨none, 0, none, 0, none, 0, none, 0, none, 0, none, 0⟩
theorem nil_in (w : World) : CollR.nil.In w six0 := ⟨Rd.nil _ _, Rd.nil _ _, Rd.nil _ _, Rd.nil _ _, Rd.nil _ _, Rd.nil _ _, Nat.le_refl _, Nat.le_refl _, Nat.le_refl _, Nat.le_refl _, Nat.le_refl _, Nat.le_refl _, Nat.zero_le _, Nat.zero_le _, Nat.zero_le _, Nat.zero_le _, Nat.zero_le _, Nat.zero_le _⟩
theorem nil_mine (w : World) (B : Nat) : Mine CollR.nil w B six0 := ⟨Own.nil _ _ _, Own.nil _ _ _, Own.nil _ _ _, Own.nil _ _ _, Own.nil _ _ _, Own.nil _ _ _, fun i j _ x y hx _ => by rcases i with _ | _ | _ | _ | _ | _ | i <;> cases hx⟩
def kOp1 : OpR := ⟨⟨2, 1, 1⟩, 0, 1, 3, [107], [116], 0, 0, [⟨1, 1, 1⟩]⟩
def kOp2 : OpR := ⟨⟨1, 1, 1⟩, 0, 1, 2, [107], [116], 0, 0, []⟩
theorem k1_err : applyErr CollR.nil kOp1 = 0 := by decide
theorem k2_err : applyErr (applyC CollR.nil kOp1) kOp2 = 0 := by decide
theorem k_gone : (applyC (applyC CollR.nil kOp1) kOp2).gone.length = 1 := by decide
theorem k_elems : (applyC (applyC CollR.nil kOp1) kOp2).elems.length = 0 := by decide
theorem k_v : (applyC (applyC CollR.nil kOp1) kOp2).v.length = 2 := by decide
set_option maxRecDepth 100000 in
set_option maxHeartbeats 1000000 in
theorem known_any (w : World) : Calls Tryz.prog 4 #[] w fun e w' => e = .returned (.bool true) ∧ Ext no w w' := by
  go_enter Tryz.func4, Tryz.ntmps4
  go_upto_region 2 with fail
  have hD := Blk.lit w #[.int .i64 1, .int .i64 1, .int .i64 1] 39
  have hx1 := Ext.alloc no w (.cells #[.int .i64 1, .int .i64 1, .int .i64 1] 39)
  generalize w.alloc (.cells #[.int .i64 1, .int .i64 1, .int .i64 1] 39) = w1 at *
  have q0 := hD.cell 0 _ rfl
  have q1 := hD.cell 1 _ rfl
  have q2 := hD.cell 2 _ rfl
  go_wp2_with fail
  have hxa := Ext.alloc no w1 (.cells #[.int .i64 1, .int .i64 1, .int .i64 1] 39)
  refine (apply_any _ CollR.nil six0 kOp1 (some ⟨w1.heap.size, 0, none⟩) 1 (nil_in _) (CollR.small_nil.mono (by omega)) CollR.fine_nil.ok (Rd.lit w1 #[.int .i64 1, .int .i64 1, .int .i64 1] 39 (0, 0)) (by decide) (by decide) (by decide)).mono ?_
  rintro e w2 ⟨k1, rfl, hm2, hx2⟩
  have hf1 := CollR.fine_nil.apply kOp1
  have hs1 := CollR.small_nil.apply kOp1
  rw [k1_err]
  have He := k2_err
  have Hg := k_gone
  have Hl := k_elems
  have Hv := k_v
  generalize applyC CollR.nil kOp1 = C1 at *
  unfold CollR.val
  have hxx := (hx1.comp hxa).comp hx2
  have hD2 := (hD.ext (by simp) hxa (fun h => h)).ext (by simp) hx2 (fun h => h)
  clear q0 q1 q2 hD hx1 hxa hx2
  replace He := Lib.hid He
  replace Hg := Lib.hid Hg
  replace Hl := Lib.hid Hl
  replace Hv := Lib.hid Hv
  go_upto_region 3 with fail
  have hC := Blk.lit w2 #[.slice k1.v C1.v.length k1.vc, .slice k1.r C1.regs.length k1.rc, .slice k1.e C1.elems.length k1.ec, .slice k1.g C1.gone.length k1.gc, .slice k1.s C1.sums.length k1.sc, .slice k1.b C1.binds.length k1.bc] 32
  have hxb := Ext.alloc no w2 (.cells #[.slice k1.v C1.v.length k1.vc, .slice k1.r C1.regs.length k1.rc, .slice k1.e C1.elems.length k1.ec, .slice k1.g C1.gone.length k1.gc, .slice k1.s C1.sums.length k1.sc, .slice k1.b C1.binds.length k1.bc] 32)
  have hD3 := hD2.ext (by simp) hxb (fun h => h)
  have hm3 := hm2.no hxb
  have hxx3 := hxx.comp hxb
  have hxx0 := hxx
  clear hD2 hm2 hxx hxb
  generalize w2.alloc (.cells #[.slice k1.v C1.v.length k1.vc, .slice k1.r C1.regs.length k1.rc, .slice k1.e C1.elems.length k1.ec, .slice k1.g C1.gone.length k1.gc, .slice k1.s C1.sums.length k1.sc, .slice k1.b C1.binds.length k1.bc] 32) = w3 at *
  obtain ⟨gc, hgc⟩ : ∃ gc, gc = w2.heap.size := ⟨_, rfl⟩
  have hgw : w.heap.size ≤ gc := by have := hxx0.size; omega
  rw [← hgc] at hC ⊢
  clear hgc
  have c0 := hC.cell 0 _ rfl
  have c1 := hC.cell 1 _ rfl
  have c2 := hC.cell 2 _ rfl
  have c3 := hC.cell 3 _ rfl
  have c4 := hC.cell 4 _ rfl
  have c5 := hC.cell 5 _ rfl
  have q0 := hD3.cell 0 _ rfl
  have q1 := hD3.cell 1 _ rfl
  have q2 := hD3.cell 2 _ rfl
  go_wp2_with fail
  refine (apply_any w3 C1 k1 kOp2 none 0 hm3.isIn (hs1.mono (by omega)) hf1.ok (Rd.nil _ _) (by decide) (by decide) (by decide)).mono ?_
  rintro e w4 ⟨k2, rfl, hm4, hx4⟩
  rw [He.out]
  unfold CollR.val
  rw [Hg.out, Hl.out, Hv.out]
  have hC4 := hC.ext (by simp) hx4 (fun h => h)
  have hxx4 := hxx3.comp hx4
  clear c0 c1 c2 c3 c4 c5 q0 q1 q2 hD3 hC hxx3
  have c0 := hC4.cell 0 _ rfl
  have c1 := hC4.cell 1 _ rfl
  have c2 := hC4.cell 2 _ rfl
  have c3 := hC4.cell 3 _ rfl
  have c4 := hC4.cell 4 _ rfl
  have c5 := hC4.cell 5 _ rfl
  have f0 := hC4.fr 0
  have f1 := hC4.fr 1
  have f2 := hC4.fr 2
  have f3 := hC4.fr 3
  have f4 := hC4.fr 4
  have f5 := hC4.fr 5
  go_upto_region 4 with fail
  have hC5 := ((((((hC4.set 0 (.slice k2.v 2 k2.vc) (by simp)).set 1 (.slice k2.r (applyC C1 kOp2).regs.length k2.rc) (by simp)).set 2 (.slice k2.e 0 k2.ec) (by simp)).set 3 (.slice k2.g 1 k2.gc) (by simp)).set 4 (.slice k2.s (applyC C1 kOp2).sums.length k2.sc) (by simp)).set 5 (.slice k2.b (applyC C1 kOp2).binds.length k2.bc) (by simp))
  have hxs := (((((Ext.setCell (S := just gc) w4 ⟨gc, 0, none⟩ (.slice k2.v 2 k2.vc) rfl).comp (Ext.setCell _ ⟨gc, 1, none⟩ (.slice k2.r (applyC C1 kOp2).regs.length k2.rc) rfl)).comp (Ext.setCell _ ⟨gc, 2, none⟩ (.slice k2.e 0 k2.ec) rfl)).comp (Ext.setCell _ ⟨gc, 3, none⟩ (.slice k2.g 1 k2.gc) rfl)).comp (Ext.setCell _ ⟨gc, 4, none⟩ (.slice k2.s (applyC C1 kOp2).sums.length k2.sc) rfl)).comp (Ext.setCell _ ⟨gc, 5, none⟩ (.slice k2.b (applyC C1 kOp2).binds.length k2.bc) rfl)
  have hxx5 := hxx4.trans hxs (fun k hk e => by have e : k = gc := e; omega)
  clear c0 c1 c2 c3 c4 c5 f0 f1 f2 f3 f4 f5 hxs
  generalize (((((w4.setCell ⟨gc, 0, none⟩ (.slice k2.v 2 k2.vc)).setCell ⟨gc, 1, none⟩ (.slice k2.r (applyC C1 kOp2).regs.length k2.rc)).setCell ⟨gc, 2, none⟩ (.slice k2.e 0 k2.ec)).setCell ⟨gc, 3, none⟩ (.slice k2.g 1 k2.gc)).setCell ⟨gc, 4, none⟩ (.slice k2.s (applyC C1 kOp2).sums.length k2.sc)).setCell ⟨gc, 5, none⟩ (.slice k2.b (applyC C1 kOp2).binds.length k2.bc) = w5 at *
  have c0 := hC5.cell 0 _ rfl
  have c1 := hC5.cell 1 _ rfl
  have c2 := hC5.cell 2 _ rfl
  have c3 := hC5.cell 3 _ rfl
  have c4 := hC5.cell 4 _ rfl
  have c5 := hC5.cell 5 _ rfl
  go_wp2_with fail
  go_ret
  exact ⟨rfl, hxx5⟩
end Go.Proofs.YtejmmkjpncpedaaGreat
