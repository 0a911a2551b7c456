/- Walks of the package coll: Apply, Count. -/
import Derived.Test.YtejmmkjpncpedaaGreatCoH
import Derived.Test.YtejmmkjpncpedaaGreatCoI
import Derived.Test.YtejmmkjpncpedaaGreatCoJ
import Derived.Test.YtejmmkjpncpedaaGreatVeA
namespace Go.Proofs.YtejmmkjpncpedaaGreat
open Go.RowKit Go.Esc
set_option linter.unusedVariables false
set_option linter.unusedSimpArgs false
theorem _root_.Go.Esc.CollR.In.ext {C : CollR} {w w' : World} {h : Six} (hin0 : C.In w h) (hx1 : Ext no w w') : C.In w' h :=
  ⟨hin0.v.ext hx1 (fun _ _ h => h), hin0.r.ext hx1 (fun _ _ h => h), hin0.e.ext hx1 (fun _ _ h => h), hin0.g.ext hx1 (fun _ _ h => h), hin0.s.ext hx1 (fun _ _ h => h), hin0.b.ext hx1 (fun _ _ h => h), hin0.lv, hin0.lr, hin0.le, hin0.lg, hin0.ls, hin0.lb, hin0.mv, hin0.mr, hin0.me, hin0.mg, hin0.ms, hin0.mb⟩
theorem stepV_ord {v : List DotR} (h : InOrd DotR.pair pairLt v) (d : DotR) : InOrd DotR.pair pairLt (stepV v d) := by
  unfold stepV
  split
  · rename_i hi
    obtain ⟨x, hx, hk⟩ := isAt_some hi
    exact h.set _ x hx hk.symm
  · exact h.putAt pairOrd
theorem kind_of {o : OpR} (h : checkOp o = 0) : o.kind = 1 ∨ o.kind = 2 ∨ o.kind = 3 ∨ o.kind = 4 ∨ o.kind = 5 := by
  unfold checkOp at h
  split at h
  · cases h
  · split at h
    · cases h
    · rename_i hk
      have := Classical.not_not.1 hk
      omega
set_option maxRecDepth 100000 in
set_option maxHeartbeats 8000000 in
theorem apply_any (w : World) (C : CollR) (h : Six) (o : OpR) (a : Option Addr) (c : Nat) (hin : C.In w h) (hs : C.small 1099511627000) (hok : C.ok) (hr : Rd w a (ds o.dots)) (hdl : o.dots.length ≤ 1099511627776) (hks : o.key.length ≤ maxLen) (hts : o.text.length ≤ maxLen) :
    Calls Tryz.prog 10 #[C.val h, o.v a c] w fun e w' => ∃ h', e = .returned (.tuple #[(applyC C o).val h', .int .i64 (applyErr C o)]) ∧ Mine (applyC C o) w' w.heap.size h' ∧ Ext no w w' := by
  have hab : 0 < o.dots.length → ∀ ad, a = some ad → ad.block < w.heap.size := by
    intro h0 ad ha
    obtain ⟨b, off, hb, hlt⟩ := rows_shape kDot (by omega) (show Rd w a (rows DotR.cells o.dots) from hr) h0
    rw [ha] at hb
    cases hb
    exact hlt
  obtain ⟨E, hE⟩ : ∃ E, E = applyErr C o := ⟨_, rfl⟩
  obtain ⟨F, hF⟩ : ∃ F, F = applyC C o := ⟨_, rfl⟩
  rw [← hE, ← hF]
  have HE := Lib.hid hE
  have HF := Lib.hid hF
  clear hE hF
  have hc0 : ∀ h : checkOp o ≠ 0, E = checkOp o ∧ F = C := fun h => ⟨by rw [HE.out]; unfold applyErr; rw [if_pos h], by rw [HF.out]; unfold applyC applyErr; rw [if_pos h, if_pos h]⟩
  have hc1 : ∀ h : checkOp o = 0, stepErr C.v o.dot ≠ 0 → E = stepErr C.v o.dot ∧ F = C := fun h h2 => ⟨by rw [HE.out]; unfold applyErr; rw [if_neg (show ¬ checkOp o ≠ 0 from fun e => e h)], by rw [HF.out]; unfold applyC applyErr; rw [if_neg (show ¬ checkOp o ≠ 0 from fun e => e h), if_pos h2]⟩
  have hc2 : ∀ h : checkOp o = 0, stepErr C.v o.dot = 0 → E = 0 ∧ F = layC { C with v := stepV C.v o.dot } o := fun h h2 => ⟨by rw [HE.out]; exact applyErr_zero.2 ⟨h, h2⟩, by rw [HF.out]; exact applyC_zero (applyErr_zero.2 ⟨h, h2⟩)⟩
  clear HE HF
  go_enter Tryz.func10, Tryz.ntmps10
  unfold CollR.val OpR.v
  go_upto_region 1 with fail
  have hC_ := Blk.at (w) #[.slice h.v C.v.length h.vc, .slice h.r C.regs.length h.rc, .slice h.e C.elems.length h.ec, .slice h.g C.gone.length h.gc, .slice h.s C.sums.length h.sc, .slice h.b C.binds.length h.bc] 32 (w.heap.size) (by simp)
  have hx_0 := Ext.alloc no (w) (.cells #[.slice h.v C.v.length h.vc, .slice h.r C.regs.length h.rc, .slice h.e C.elems.length h.ec, .slice h.g C.gone.length h.gc, .slice h.s C.sums.length h.sc, .slice h.b C.binds.length h.bc] 32)
  have hO_ := Blk.at (w.alloc (.cells #[.slice h.v C.v.length h.vc, .slice h.r C.regs.length h.rc, .slice h.e C.elems.length h.ec, .slice h.g C.gone.length h.gc, .slice h.s C.sums.length h.sc, .slice h.b C.binds.length h.bc] 32)) #[.int .i64 o.dot.dev, .int .i64 o.dot.ep, .int .i64 o.dot.seq, .int .i64 o.coll, .int .i64 o.ver, .int .i64 o.kind, .string (str o.key), .string (str o.text), .int .i64 o.n, .int .i64 o.time, .slice a o.dots.length c] 51 (w.heap.size + 1) (by simp)
  have hx_1 := Ext.alloc no (w.alloc (.cells #[.slice h.v C.v.length h.vc, .slice h.r C.regs.length h.rc, .slice h.e C.elems.length h.ec, .slice h.g C.gone.length h.gc, .slice h.s C.sums.length h.sc, .slice h.b C.binds.length h.bc] 32)) (.cells #[.int .i64 o.dot.dev, .int .i64 o.dot.ep, .int .i64 o.dot.seq, .int .i64 o.coll, .int .i64 o.ver, .int .i64 o.kind, .string (str o.key), .string (str o.text), .int .i64 o.n, .int .i64 o.time, .slice a o.dots.length c] 51)
  have hR_ := Blk.at ((w.alloc (.cells #[.slice h.v C.v.length h.vc, .slice h.r C.regs.length h.rc, .slice h.e C.elems.length h.ec, .slice h.g C.gone.length h.gc, .slice h.s C.sums.length h.sc, .slice h.b C.binds.length h.bc] 32)).alloc (.cells #[.int .i64 o.dot.dev, .int .i64 o.dot.ep, .int .i64 o.dot.seq, .int .i64 o.coll, .int .i64 o.ver, .int .i64 o.kind, .string (str o.key), .string (str o.text), .int .i64 o.n, .int .i64 o.time, .slice a o.dots.length c] 51)) #[.slice none 0 0, .slice none 0 0, .slice none 0 0, .slice none 0 0, .slice none 0 0, .slice none 0 0] 32 (w.heap.size + 1 + 1) (by simp)
  have hx_2 := Ext.alloc no ((w.alloc (.cells #[.slice h.v C.v.length h.vc, .slice h.r C.regs.length h.rc, .slice h.e C.elems.length h.ec, .slice h.g C.gone.length h.gc, .slice h.s C.sums.length h.sc, .slice h.b C.binds.length h.bc] 32)).alloc (.cells #[.int .i64 o.dot.dev, .int .i64 o.dot.ep, .int .i64 o.dot.seq, .int .i64 o.coll, .int .i64 o.ver, .int .i64 o.kind, .string (str o.key), .string (str o.text), .int .i64 o.n, .int .i64 o.time, .slice a o.dots.length c] 51)) (.cells #[.slice none 0 0, .slice none 0 0, .slice none 0 0, .slice none 0 0, .slice none 0 0, .slice none 0 0] 32)
  have hC := (hC_.ext (by simp) hx_1 (fun h => h)).ext (by simp) hx_2 (fun h => h)
  have hO := hO_.ext (by simp) hx_2 (fun h => h)
  have hR := hR_
  have hx1 := ((hx_0).comp hx_1).comp hx_2
  clear hC_ hx_0 hO_ hx_1 hR_ hx_2
  generalize ((w.alloc (.cells #[.slice h.v C.v.length h.vc, .slice h.r C.regs.length h.rc, .slice h.e C.elems.length h.ec, .slice h.g C.gone.length h.gc, .slice h.s C.sums.length h.sc, .slice h.b C.binds.length h.bc] 32)).alloc (.cells #[.int .i64 o.dot.dev, .int .i64 o.dot.ep, .int .i64 o.dot.seq, .int .i64 o.coll, .int .i64 o.ver, .int .i64 o.kind, .string (str o.key), .string (str o.text), .int .i64 o.n, .int .i64 o.time, .slice a o.dots.length c] 51)).alloc (.cells #[.slice none 0 0, .slice none 0 0, .slice none 0 0, .slice none 0 0, .slice none 0 0, .slice none 0 0] 32) = w1 at *
  have hsz := hR.lt (by simp)
  obtain ⟨g, hg⟩ : ∃ g, g = w.heap.size := ⟨_, rfl⟩
  have hgw : w.heap.size ≤ g := by omega
  rw [← hg] at hC hO hR hsz ⊢
  clear hg
  have c0 := hC.cell 0 _ rfl
  have c1 := hC.cell 1 _ rfl
  have c2 := hC.cell 2 _ rfl
  have c3 := hC.cell 3 _ rfl
  have c4 := hC.cell 4 _ rfl
  have c5 := hC.cell 5 _ rfl
  go_wp2_with fail
  refine (own_any w1 C h (hin.ext hx1) ⟨by have := hs.v; omega, by have := hs.r; omega, by have := hs.e; omega, by have := hs.g; omega, by have := hs.s; omega, by have := hs.b; omega⟩).mono ?_
  rintro e w2 ⟨k, rfl, hm2, hx2⟩
  unfold CollR.val
  obtain ⟨B, hB⟩ : ∃ B, B = w1.heap.size := ⟨_, rfl⟩
  rw [← hB] at hm2 hsz
  have hC2 := hC.ext (by simp) hx2 (fun h => h)
  have hO2 := hO.ext (by simp) hx2 (fun h => h)
  have hR2 := hR.ext (by simp) hx2 (fun h => h)
  have hxx := hx1.comp hx2
  have hz2 := hx2.size
  rw [← hB] at hz2
  have hwB : w.heap.size ≤ B := by omega
  clear c0 c1 c2 c3 c4 c5 hC hO hR hx1 hx2
  clear hB w1
  have c0 := hC2.cell 0 _ rfl
  have c1 := hC2.cell 1 _ rfl
  have c2 := hC2.cell 2 _ rfl
  have c3 := hC2.cell 3 _ rfl
  have c4 := hC2.cell 4 _ rfl
  have c5 := hC2.cell 5 _ rfl
  have f0 := hC2.fr 0
  have f1 := hC2.fr 1
  have f2 := hC2.fr 2
  have f3 := hC2.fr 3
  have f4 := hC2.fr 4
  have f5 := hC2.fr 5
  go_upto_region 2 with fail
  have hC3 := ((((((hC2.set 0 (.slice k.v C.v.length k.vc) (by simp)).set 1 (.slice k.r C.regs.length k.rc) (by simp)).set 2 (.slice k.e C.elems.length k.ec) (by simp)).set 3 (.slice k.g C.gone.length k.gc) (by simp)).set 4 (.slice k.s C.sums.length k.sc) (by simp)).set 5 (.slice k.b C.binds.length k.bc) (by simp))
  have hxs3 := (((((Ext.setCell (S := just g) w2 ⟨g, 0, none⟩ (.slice k.v C.v.length k.vc) rfl).comp (Ext.setCell _ ⟨g, 1, none⟩ (.slice k.r C.regs.length k.rc) rfl)).comp (Ext.setCell _ ⟨g, 2, none⟩ (.slice k.e C.elems.length k.ec) rfl)).comp (Ext.setCell _ ⟨g, 3, none⟩ (.slice k.g C.gone.length k.gc) rfl)).comp (Ext.setCell _ ⟨g, 4, none⟩ (.slice k.s C.sums.length k.sc) rfl)).comp (Ext.setCell _ ⟨g, 5, none⟩ (.slice k.b C.binds.length k.bc) rfl)
  have hO3 := hO2.ext (by simp) hxs3 (fun e => by have e : g + 1 = g := e; omega)
  have hR3 := hR2.ext (by simp) hxs3 (fun e => by have e : g + 1 + 1 = g := e; omega)
  have hm3 := hm2.ext hxs3 (fun i ad hi => fun e => by have e : ad.block = g := e; have := (hm2.base i ad hi).1; omega)
  have hx3 := hxx.trans hxs3 (fun k hk e => by have e : k = g := e; omega)
  have hz3 := hxs3.size
  clear c0 c1 c2 c3 c4 c5 f0 f1 f2 f3 f4 f5 hxs3
  generalize (((((w2.setCell ⟨g, 0, none⟩ (.slice k.v C.v.length k.vc)).setCell ⟨g, 1, none⟩ (.slice k.r C.regs.length k.rc)).setCell ⟨g, 2, none⟩ (.slice k.e C.elems.length k.ec)).setCell ⟨g, 3, none⟩ (.slice k.g C.gone.length k.gc)).setCell ⟨g, 4, none⟩ (.slice k.s C.sums.length k.sc)).setCell ⟨g, 5, none⟩ (.slice k.b C.binds.length k.bc) = w3 at *
  have q0 := hO3.cell 0 _ rfl
  have q1 := hO3.cell 1 _ rfl
  have q2 := hO3.cell 2 _ rfl
  have q3 := hO3.cell 3 _ rfl
  have q4 := hO3.cell 4 _ rfl
  have q5 := hO3.cell 5 _ rfl
  have q6 := hO3.cell 6 _ rfl
  have q7 := hO3.cell 7 _ rfl
  have q8 := hO3.cell 8 _ rfl
  have q9 := hO3.cell 9 _ rfl
  have q10 := hO3.cell 10 _ rfl
  go_wp2_with fail
  refine (check_any w3 o a c (hr.ext hx3 (fun _ _ h => h)) hdl hks hts).mono ?_
  rintro e w4 ⟨rfl, hx4⟩
  have hC4 := hC3.ext (by simp) hx4 (fun h => h)
  have hO4 := hO3.ext (by simp) hx4 (fun h => h)
  have hR4 := hR3.ext (by simp) hx4 (fun h => h)
  have hm4 := hm3.no hx4
  have hx5 := hx3.comp hx4
  have hz4 := hx4.size
  clear q0 q1 q2 q3 q4 q5 q6 q7 q8 q9 q10 hC3 hO3 hR3 hm3 hx3 hx4 hC2 hO2 hR2 hm2 hxx
  have hm4s := hs
  by_cases hck : checkOp o = 0
  · have hk8 := kind_of hck
    have Hck := Lib.hid hck
    rw [hck]
    clear hc0
    have c0 := hC4.cell 0 _ rfl
    have q0 := hO4.cell 0 _ rfl
    have q1 := hO4.cell 1 _ rfl
    have q2 := hO4.cell 2 _ rfl
    go_wp2_with fail
    refine (step_any w4 k.v k.vc C.v o.dot hm4.v.rd (by have := hs.v; omega) hok.v).mono ?_
    rintro e w5 ⟨va, vn, vc, rfl, hv5, hx6⟩
    have hC5 := hC4.ext (by simp) hx6 (fun h => h)
    have hO5 := hO4.ext (by simp) hx6 (fun h => h)
    have hR5 := hR4.ext (by simp) hx6 (fun h => h)
    have hm5 := hm4.no hx6
    have hx7 := hx5.comp hx6
    have hz5 := hx6.size
    clear c0 q0 q1 q2 hC4 hO4 hR4 hx5 hx6
    by_cases hst : stepErr C.v o.dot = 0
    · have Hc := Lib.hid (hc2 hck hst)
      obtain ⟨hvn, hv6⟩ := hv5 hst
      subst hvn
      clear hv5
      rw [hst]
      clear hc1 hc2 hst hck
      have c0 := hC5.cell 0 _ rfl
      have f0 := hC5.fr 0
      go_upto_region 9 with fail
      have hC6 := hC5.set 0 (.slice va (stepV C.v o.dot).length vc) (by simp)
      have hxs : Ext (just g) w5 (w5.setCell ⟨g, 0, none⟩ (.slice va (stepV C.v o.dot).length vc)) := Ext.setCell _ _ _ rfl
      have hO6 := hO5.ext (by simp) hxs (fun e => by have e : g + 1 = g := e; omega)
      have hR6 := hR5.ext (by simp) hxs (fun e => by have e : g + 1 + 1 = g := e; omega)
      have hm5' : Mine { C with v := stepV C.v o.dot } w5 B { k with v := va, vc := vc } := by
        refine ⟨hv6.mono (by omega), hm5.r, hm5.e, hm5.g, hm5.s, hm5.b, apart_upd hm5.ap (fun i ad hi => (hm4.base i ad hi).2) 0 (fun i hi => by rcases i with _ | _ | _ | _ | _ | _ | i <;> first | rfl | exact absurd rfl hi) (fun ad hi => .inr (hv6.base ad hi).1)⟩
      have hm6 := hm5'.ext hxs (fun i ad hi => fun e => by have e : ad.block = g := e; have := (hm5'.base i ad hi).1; omega)
      have hx8 := hx7.trans hxs (fun k hk e => by have e : k = g := e; omega)
      have hz6 := hxs.size
      have hok6 : ({ C with v := stepV C.v o.dot } : CollR).ok := ⟨stepV_ord hok.v o.dot, hok.r, hok.e, hok.g, hok.s, hok.b⟩
      have hs6 : ({ C with v := stepV C.v o.dot } : CollR).small 1099511627001 := ⟨by have := stepV_len C.v o.dot; have := hs.v; simp only; omega, by have := hs.r; simp only; omega, by have := hs.e; simp only; omega, by have := hs.g; simp only; omega, by have := hs.s; simp only; omega, by have := hs.b; simp only; omega⟩
      have hr6 : Rd _ a (ds o.dots) := hr.ext hx8 (fun _ _ h => h)
      clear c0 f0 hC5 hO5 hR5 hm5 hm5' hxs hx7 hv6 hm4 hok hs hm4s hr hin
      generalize w5.setCell ⟨g, 0, none⟩ (.slice va (stepV C.v o.dot).length vc) = w6 at *
      generalize stepV C.v o.dot = V at *
      have hOa : o.v a c = .agg #[.int .i64 o.dot.dev, .int .i64 o.dot.ep, .int .i64 o.dot.seq, .int .i64 o.coll, .int .i64 o.ver, .int .i64 o.kind, .string (str o.key), .string (str o.text), .int .i64 o.n, .int .i64 o.time, .slice a o.dots.length c] := rfl
      clear hOa
      have c0 := hC6.cell 0 _ rfl
      have c1 := hC6.cell 1 _ rfl
      have c2 := hC6.cell 2 _ rfl
      have c3 := hC6.cell 3 _ rfl
      have c4 := hC6.cell 4 _ rfl
      have c5 := hC6.cell 5 _ rfl
      have q0 := hO6.cell 0 _ rfl
      have q1 := hO6.cell 1 _ rfl
      have q2 := hO6.cell 2 _ rfl
      have q3 := hO6.cell 3 _ rfl
      have q4 := hO6.cell 4 _ rfl
      have q5 := hO6.cell 5 _ rfl
      have q6 := hO6.cell 6 _ rfl
      have q7 := hO6.cell 7 _ rfl
      have q8 := hO6.cell 8 _ rfl
      have q9 := hO6.cell 9 _ rfl
      have q10 := hO6.cell 10 _ rfl
      by_cases hk : o.kind = 1
      · have hl : layC { C with v := V } o = ({ C with v := V, regs := setL C.regs o } : CollR) := by
          unfold layC
          rw [if_pos hk]
        rw [hl] at Hc
        have hsN : ({ C with v := V, regs := setL C.regs o } : CollR).small 1099511627776 := ⟨by have := hs6.v; simp only at *; omega, by have := hs6.r; have := setL_len C.regs o; simp only at *; omega, by have := hs6.e; simp only at *; omega, by have := hs6.g; simp only at *; omega, by have := hs6.s; simp only at *; omega, by have := hs6.b; simp only at *; omega⟩
        have Hk := Lib.hid hk
        have b1 : (o.kind == 1) = true := by rw [beq_iff_eq]; exact hk
        clear hk hk8
        go_wp2_with fail
        refine (set_any w6 B { C with v := V } { k with v := va, vc := vc } o a c hm6 (by omega) (hs6.mono (by omega)) hok6).mono ?_
        rintro e w7 ⟨k7, rfl, hm7, hx9⟩
        simp only at hm7
        have hC7 := hC6.ext (by simp) hx9 (fun e => by have e : B ≤ g := e; omega)
        have hO7 := hO6.ext (by simp) hx9 (fun e => by have e : B ≤ g + 1 := e; omega)
        have hR7 := hR6.ext (by simp) hx9 (fun e => by have e : B ≤ g + 1 + 1 := e; omega)
        have hx10 := hx8.trans hx9 (fun k hk e => by have e : B ≤ k := e; omega)
        have hz7 := hx9.size
        clear c0 c1 c2 c3 c4 c5 q0 q1 q2 q3 q4 q5 q6 q7 q8 q9 q10 hl hC6 hO6 hR6 hm6 hx9 hx8
        unfold CollR.val
        have c0 := hC7.cell 0 _ rfl
        have c1 := hC7.cell 1 _ rfl
        have c2 := hC7.cell 2 _ rfl
        have c3 := hC7.cell 3 _ rfl
        have c4 := hC7.cell 4 _ rfl
        have c5 := hC7.cell 5 _ rfl
        have f0 := hC7.fr 0
        have f1 := hC7.fr 1
        have f2 := hC7.fr 2
        have f3 := hC7.fr 3
        have f4 := hC7.fr 4
        have f5 := hC7.fr 5
        go_upto_region 20 with fail
        have hC8 := ((((((hC7.set 0 (.slice k7.v V.length k7.vc) (by simp)).set 1 (.slice k7.r (setL C.regs o).length k7.rc) (by simp)).set 2 (.slice k7.e C.elems.length k7.ec) (by simp)).set 3 (.slice k7.g C.gone.length k7.gc) (by simp)).set 4 (.slice k7.s C.sums.length k7.sc) (by simp)).set 5 (.slice k7.b C.binds.length k7.bc) (by simp))
        have hxs8 := (((((Ext.setCell (S := just g) w7 ⟨g, 0, none⟩ (.slice k7.v V.length k7.vc) rfl).comp (Ext.setCell _ ⟨g, 1, none⟩ (.slice k7.r (setL C.regs o).length k7.rc) rfl)).comp (Ext.setCell _ ⟨g, 2, none⟩ (.slice k7.e C.elems.length k7.ec) rfl)).comp (Ext.setCell _ ⟨g, 3, none⟩ (.slice k7.g C.gone.length k7.gc) rfl)).comp (Ext.setCell _ ⟨g, 4, none⟩ (.slice k7.s C.sums.length k7.sc) rfl)).comp (Ext.setCell _ ⟨g, 5, none⟩ (.slice k7.b C.binds.length k7.bc) rfl)
        have hO8 := hO7.ext (by simp) hxs8 (fun e => by have e : g + 1 = g := e; omega)
        have hR8 := hR7.ext (by simp) hxs8 (fun e => by have e : g + 1 + 1 = g := e; omega)
        have hm8 := hm7.ext hxs8 (fun i ad hi => fun e => by have e : ad.block = g := e; have := (hm7.base i ad hi).1; omega)
        have hx8 := hx10.trans hxs8 (fun k hk e => by have e : k = g := e; omega)
        have hz8 := hxs8.size
        clear c0 c1 c2 c3 c4 c5 f0 f1 f2 f3 f4 f5 hxs8
        generalize (((((w7.setCell ⟨g, 0, none⟩ (.slice k7.v V.length k7.vc)).setCell ⟨g, 1, none⟩ (.slice k7.r (setL C.regs o).length k7.rc)).setCell ⟨g, 2, none⟩ (.slice k7.e C.elems.length k7.ec)).setCell ⟨g, 3, none⟩ (.slice k7.g C.gone.length k7.gc)).setCell ⟨g, 4, none⟩ (.slice k7.s C.sums.length k7.sc)).setCell ⟨g, 5, none⟩ (.slice k7.b C.binds.length k7.bc) = w8 at *
        have c0 := hC8.cell 0 _ rfl
        have c1 := hC8.cell 1 _ rfl
        have c2 := hC8.cell 2 _ rfl
        have c3 := hC8.cell 3 _ rfl
        have c4 := hC8.cell 4 _ rfl
        have c5 := hC8.cell 5 _ rfl
        go_wp2_with fail
        refine (own_any w8 { C with v := V, regs := setL C.regs o } k7 hm8.isIn hsN).mono ?_
        rintro e w9 ⟨k9, rfl, hm9, hx11⟩
        unfold CollR.val
        have hR9 := hR8.ext (by simp) hx11 (fun h => h)
        have hx12 := hx8.comp hx11
        clear c0 c1 c2 c3 c4 c5
        have z0 := hR9.cell 0 _ rfl
        have z1 := hR9.cell 1 _ rfl
        have z2 := hR9.cell 2 _ rfl
        have z3 := hR9.cell 3 _ rfl
        have z4 := hR9.cell 4 _ rfl
        have z5 := hR9.cell 5 _ rfl
        have f0 := hR9.fr 0
        have f1 := hR9.fr 1
        have f2 := hR9.fr 2
        have f3 := hR9.fr 3
        have f4 := hR9.fr 4
        have f5 := hR9.fr 5
        go_wp2_with fail
        have hbE := ((((((hR9.set 0 (.slice k9.v V.length k9.vc) (by simp)).set 1 (.slice k9.r (setL C.regs o).length k9.rc) (by simp)).set 2 (.slice k9.e C.elems.length k9.ec) (by simp)).set 3 (.slice k9.g C.gone.length k9.gc) (by simp)).set 4 (.slice k9.s C.sums.length k9.sc) (by simp)).set 5 (.slice k9.b C.binds.length k9.bc) (by simp))
        have hxE := (((((Ext.setCell (S := just (g + 1 + 1)) w9 ⟨g + 1 + 1, 0, none⟩ (.slice k9.v V.length k9.vc) rfl).comp (Ext.setCell _ ⟨g + 1 + 1, 1, none⟩ (.slice k9.r (setL C.regs o).length k9.rc) rfl)).comp (Ext.setCell _ ⟨g + 1 + 1, 2, none⟩ (.slice k9.e C.elems.length k9.ec) rfl)).comp (Ext.setCell _ ⟨g + 1 + 1, 3, none⟩ (.slice k9.g C.gone.length k9.gc) rfl)).comp (Ext.setCell _ ⟨g + 1 + 1, 4, none⟩ (.slice k9.s C.sums.length k9.sc) rfl)).comp (Ext.setCell _ ⟨g + 1 + 1, 5, none⟩ (.slice k9.b C.binds.length k9.bc) rfl)
        clear z0 f0 z1 f1 z2 f2 z3 f3 z4 f4 z5 f5
        generalize (((((w9.setCell ⟨g + 1 + 1, 0, none⟩ (.slice k9.v V.length k9.vc)).setCell ⟨g + 1 + 1, 1, none⟩ (.slice k9.r (setL C.regs o).length k9.rc)).setCell ⟨g + 1 + 1, 2, none⟩ (.slice k9.e C.elems.length k9.ec)).setCell ⟨g + 1 + 1, 3, none⟩ (.slice k9.g C.gone.length k9.gc)).setCell ⟨g + 1 + 1, 4, none⟩ (.slice k9.s C.sums.length k9.sc)).setCell ⟨g + 1 + 1, 5, none⟩ (.slice k9.b C.binds.length k9.bc) = wE at *
        have z0 := hbE.cell 0 _ rfl
        have z1 := hbE.cell 1 _ rfl
        have z2 := hbE.cell 2 _ rfl
        have z3 := hbE.cell 3 _ rfl
        have z4 := hbE.cell 4 _ rfl
        have z5 := hbE.cell 5 _ rfl
        refine bodyPost_ret (v := .tuple #[.agg #[.slice k9.v V.length k9.vc, .slice k9.r (setL C.regs o).length k9.rc, .slice k9.e C.elems.length k9.ec, .slice k9.g C.gone.length k9.gc, .slice k9.s C.sums.length k9.sc, .slice k9.b C.binds.length k9.bc], .int .i64 0]) ?_ rfl ?_
        · simp [results]; go_simp
        rw [Hc.out.1, Hc.out.2]
        refine ⟨k9, rfl, ?_, ?_⟩
        · exact (hm9.ext hxE (fun i ad hi e => by have e : ad.block = g + 1 + 1 := e; have := (hm9.base i ad hi).1; omega)).mono (by omega)
        · exact hx12.trans hxE (fun k hk e => by have e : k = g + 1 + 1 := e; omega)
      by_cases hk : o.kind = 2
      · have hl : layC { C with v := V } o = ({ C with v := V, elems := addL C.gone C.elems o } : CollR) := by
          unfold layC
          rw [if_neg (by omega), if_pos hk]
        rw [hl] at Hc
        have hsN : ({ C with v := V, elems := addL C.gone C.elems o } : CollR).small 1099511627776 := ⟨by have := hs6.v; simp only at *; omega, by have := hs6.r; simp only at *; omega, by have := hs6.e; have := addL_len C.gone C.elems o; simp only at *; omega, by have := hs6.g; simp only at *; omega, by have := hs6.s; simp only at *; omega, by have := hs6.b; simp only at *; omega⟩
        have Hk := Lib.hid hk
        have b1 : (o.kind == 1) = false := by rw [beq_eq_false_iff_ne]; omega
        have b2 : (o.kind == 2) = true := by rw [beq_iff_eq]; exact hk
        clear hk hk8
        go_wp2_with fail
        refine (add_any w6 B { C with v := V } { k with v := va, vc := vc } o a c hm6 (by omega) (hs6.mono (by omega)) hok6).mono ?_
        rintro e w7 ⟨k7, rfl, hm7, hx9⟩
        simp only at hm7
        have hC7 := hC6.ext (by simp) hx9 (fun e => by have e : B ≤ g := e; omega)
        have hO7 := hO6.ext (by simp) hx9 (fun e => by have e : B ≤ g + 1 := e; omega)
        have hR7 := hR6.ext (by simp) hx9 (fun e => by have e : B ≤ g + 1 + 1 := e; omega)
        have hx10 := hx8.trans hx9 (fun k hk e => by have e : B ≤ k := e; omega)
        have hz7 := hx9.size
        clear c0 c1 c2 c3 c4 c5 q0 q1 q2 q3 q4 q5 q6 q7 q8 q9 q10 hl hC6 hO6 hR6 hm6 hx9 hx8
        unfold CollR.val
        have c0 := hC7.cell 0 _ rfl
        have c1 := hC7.cell 1 _ rfl
        have c2 := hC7.cell 2 _ rfl
        have c3 := hC7.cell 3 _ rfl
        have c4 := hC7.cell 4 _ rfl
        have c5 := hC7.cell 5 _ rfl
        have f0 := hC7.fr 0
        have f1 := hC7.fr 1
        have f2 := hC7.fr 2
        have f3 := hC7.fr 3
        have f4 := hC7.fr 4
        have f5 := hC7.fr 5
        go_upto_region 20 with fail
        have hC8 := ((((((hC7.set 0 (.slice k7.v V.length k7.vc) (by simp)).set 1 (.slice k7.r C.regs.length k7.rc) (by simp)).set 2 (.slice k7.e (addL C.gone C.elems o).length k7.ec) (by simp)).set 3 (.slice k7.g C.gone.length k7.gc) (by simp)).set 4 (.slice k7.s C.sums.length k7.sc) (by simp)).set 5 (.slice k7.b C.binds.length k7.bc) (by simp))
        have hxs8 := (((((Ext.setCell (S := just g) w7 ⟨g, 0, none⟩ (.slice k7.v V.length k7.vc) rfl).comp (Ext.setCell _ ⟨g, 1, none⟩ (.slice k7.r C.regs.length k7.rc) rfl)).comp (Ext.setCell _ ⟨g, 2, none⟩ (.slice k7.e (addL C.gone C.elems o).length k7.ec) rfl)).comp (Ext.setCell _ ⟨g, 3, none⟩ (.slice k7.g C.gone.length k7.gc) rfl)).comp (Ext.setCell _ ⟨g, 4, none⟩ (.slice k7.s C.sums.length k7.sc) rfl)).comp (Ext.setCell _ ⟨g, 5, none⟩ (.slice k7.b C.binds.length k7.bc) rfl)
        have hO8 := hO7.ext (by simp) hxs8 (fun e => by have e : g + 1 = g := e; omega)
        have hR8 := hR7.ext (by simp) hxs8 (fun e => by have e : g + 1 + 1 = g := e; omega)
        have hm8 := hm7.ext hxs8 (fun i ad hi => fun e => by have e : ad.block = g := e; have := (hm7.base i ad hi).1; omega)
        have hx8 := hx10.trans hxs8 (fun k hk e => by have e : k = g := e; omega)
        have hz8 := hxs8.size
        clear c0 c1 c2 c3 c4 c5 f0 f1 f2 f3 f4 f5 hxs8
        generalize (((((w7.setCell ⟨g, 0, none⟩ (.slice k7.v V.length k7.vc)).setCell ⟨g, 1, none⟩ (.slice k7.r C.regs.length k7.rc)).setCell ⟨g, 2, none⟩ (.slice k7.e (addL C.gone C.elems o).length k7.ec)).setCell ⟨g, 3, none⟩ (.slice k7.g C.gone.length k7.gc)).setCell ⟨g, 4, none⟩ (.slice k7.s C.sums.length k7.sc)).setCell ⟨g, 5, none⟩ (.slice k7.b C.binds.length k7.bc) = w8 at *
        have c0 := hC8.cell 0 _ rfl
        have c1 := hC8.cell 1 _ rfl
        have c2 := hC8.cell 2 _ rfl
        have c3 := hC8.cell 3 _ rfl
        have c4 := hC8.cell 4 _ rfl
        have c5 := hC8.cell 5 _ rfl
        go_wp2_with fail
        refine (own_any w8 { C with v := V, elems := addL C.gone C.elems o } k7 hm8.isIn hsN).mono ?_
        rintro e w9 ⟨k9, rfl, hm9, hx11⟩
        unfold CollR.val
        have hR9 := hR8.ext (by simp) hx11 (fun h => h)
        have hx12 := hx8.comp hx11
        clear c0 c1 c2 c3 c4 c5
        have z0 := hR9.cell 0 _ rfl
        have z1 := hR9.cell 1 _ rfl
        have z2 := hR9.cell 2 _ rfl
        have z3 := hR9.cell 3 _ rfl
        have z4 := hR9.cell 4 _ rfl
        have z5 := hR9.cell 5 _ rfl
        have f0 := hR9.fr 0
        have f1 := hR9.fr 1
        have f2 := hR9.fr 2
        have f3 := hR9.fr 3
        have f4 := hR9.fr 4
        have f5 := hR9.fr 5
        go_wp2_with fail
        have hbE := ((((((hR9.set 0 (.slice k9.v V.length k9.vc) (by simp)).set 1 (.slice k9.r C.regs.length k9.rc) (by simp)).set 2 (.slice k9.e (addL C.gone C.elems o).length k9.ec) (by simp)).set 3 (.slice k9.g C.gone.length k9.gc) (by simp)).set 4 (.slice k9.s C.sums.length k9.sc) (by simp)).set 5 (.slice k9.b C.binds.length k9.bc) (by simp))
        have hxE := (((((Ext.setCell (S := just (g + 1 + 1)) w9 ⟨g + 1 + 1, 0, none⟩ (.slice k9.v V.length k9.vc) rfl).comp (Ext.setCell _ ⟨g + 1 + 1, 1, none⟩ (.slice k9.r C.regs.length k9.rc) rfl)).comp (Ext.setCell _ ⟨g + 1 + 1, 2, none⟩ (.slice k9.e (addL C.gone C.elems o).length k9.ec) rfl)).comp (Ext.setCell _ ⟨g + 1 + 1, 3, none⟩ (.slice k9.g C.gone.length k9.gc) rfl)).comp (Ext.setCell _ ⟨g + 1 + 1, 4, none⟩ (.slice k9.s C.sums.length k9.sc) rfl)).comp (Ext.setCell _ ⟨g + 1 + 1, 5, none⟩ (.slice k9.b C.binds.length k9.bc) rfl)
        clear z0 f0 z1 f1 z2 f2 z3 f3 z4 f4 z5 f5
        generalize (((((w9.setCell ⟨g + 1 + 1, 0, none⟩ (.slice k9.v V.length k9.vc)).setCell ⟨g + 1 + 1, 1, none⟩ (.slice k9.r C.regs.length k9.rc)).setCell ⟨g + 1 + 1, 2, none⟩ (.slice k9.e (addL C.gone C.elems o).length k9.ec)).setCell ⟨g + 1 + 1, 3, none⟩ (.slice k9.g C.gone.length k9.gc)).setCell ⟨g + 1 + 1, 4, none⟩ (.slice k9.s C.sums.length k9.sc)).setCell ⟨g + 1 + 1, 5, none⟩ (.slice k9.b C.binds.length k9.bc) = wE at *
        have z0 := hbE.cell 0 _ rfl
        have z1 := hbE.cell 1 _ rfl
        have z2 := hbE.cell 2 _ rfl
        have z3 := hbE.cell 3 _ rfl
        have z4 := hbE.cell 4 _ rfl
        have z5 := hbE.cell 5 _ rfl
        refine bodyPost_ret (v := .tuple #[.agg #[.slice k9.v V.length k9.vc, .slice k9.r C.regs.length k9.rc, .slice k9.e (addL C.gone C.elems o).length k9.ec, .slice k9.g C.gone.length k9.gc, .slice k9.s C.sums.length k9.sc, .slice k9.b C.binds.length k9.bc], .int .i64 0]) ?_ rfl ?_
        · simp [results]; go_simp
        rw [Hc.out.1, Hc.out.2]
        refine ⟨k9, rfl, ?_, ?_⟩
        · exact (hm9.ext hxE (fun i ad hi e => by have e : ad.block = g + 1 + 1 := e; have := (hm9.base i ad hi).1; omega)).mono (by omega)
        · exact hx12.trans hxE (fun k hk e => by have e : k = g + 1 + 1 := e; omega)
      by_cases hk : o.kind = 3
      · have hl : layC { C with v := V } o = ({ C with v := V, gone := (remL o.dots (C.gone, C.elems)).1, elems := (remL o.dots (C.gone, C.elems)).2 } : CollR) := by
          unfold layC
          rw [if_neg (by omega), if_neg (by omega), if_pos hk]
        rw [hl] at Hc
        have hsN : ({ C with v := V, gone := (remL o.dots (C.gone, C.elems)).1, elems := (remL o.dots (C.gone, C.elems)).2 } : CollR).small 1099511627776 := ⟨by have := hs6.v; simp only at *; omega, by have := hs6.r; simp only at *; omega, by have := hs6.e; have := (remL_len o.dots (C.gone, C.elems)).2; simp only at *; omega, by have := hs6.g; have := (remL_len o.dots (C.gone, C.elems)).1; have := dots_le8 Hck.out hk; simp only at *; omega, by have := hs6.s; simp only at *; omega, by have := hs6.b; simp only at *; omega⟩
        have Hk := Lib.hid hk
        have b1 : (o.kind == 1) = false := by rw [beq_eq_false_iff_ne]; omega
        have b2 : (o.kind == 2) = false := by rw [beq_eq_false_iff_ne]; omega
        have b3 : (o.kind == 3) = true := by rw [beq_iff_eq]; exact hk
        clear hk hk8
        go_wp2_with fail
        refine (remove_any w6 B { C with v := V } { k with v := va, vc := vc } o a c hm6 (by omega) (hs6.mono (by omega)) hok6 hr6 (fun h0 ad ha => Nat.lt_of_lt_of_le (hab h0 ad ha) hwB) (dots_le8 Hck.out Hk.out)).mono ?_
        rintro e w7 ⟨k7, rfl, hm7, hx9⟩
        simp only at hm7
        have hC7 := hC6.ext (by simp) hx9 (fun e => by have e : B ≤ g := e; omega)
        have hO7 := hO6.ext (by simp) hx9 (fun e => by have e : B ≤ g + 1 := e; omega)
        have hR7 := hR6.ext (by simp) hx9 (fun e => by have e : B ≤ g + 1 + 1 := e; omega)
        have hx10 := hx8.trans hx9 (fun k hk e => by have e : B ≤ k := e; omega)
        have hz7 := hx9.size
        clear c0 c1 c2 c3 c4 c5 q0 q1 q2 q3 q4 q5 q6 q7 q8 q9 q10 hl hC6 hO6 hR6 hm6 hx9 hx8
        unfold CollR.val
        have c0 := hC7.cell 0 _ rfl
        have c1 := hC7.cell 1 _ rfl
        have c2 := hC7.cell 2 _ rfl
        have c3 := hC7.cell 3 _ rfl
        have c4 := hC7.cell 4 _ rfl
        have c5 := hC7.cell 5 _ rfl
        have f0 := hC7.fr 0
        have f1 := hC7.fr 1
        have f2 := hC7.fr 2
        have f3 := hC7.fr 3
        have f4 := hC7.fr 4
        have f5 := hC7.fr 5
        go_upto_region 20 with fail
        have hC8 := ((((((hC7.set 0 (.slice k7.v V.length k7.vc) (by simp)).set 1 (.slice k7.r C.regs.length k7.rc) (by simp)).set 2 (.slice k7.e (remL o.dots (C.gone, C.elems)).2.length k7.ec) (by simp)).set 3 (.slice k7.g (remL o.dots (C.gone, C.elems)).1.length k7.gc) (by simp)).set 4 (.slice k7.s C.sums.length k7.sc) (by simp)).set 5 (.slice k7.b C.binds.length k7.bc) (by simp))
        have hxs8 := (((((Ext.setCell (S := just g) w7 ⟨g, 0, none⟩ (.slice k7.v V.length k7.vc) rfl).comp (Ext.setCell _ ⟨g, 1, none⟩ (.slice k7.r C.regs.length k7.rc) rfl)).comp (Ext.setCell _ ⟨g, 2, none⟩ (.slice k7.e (remL o.dots (C.gone, C.elems)).2.length k7.ec) rfl)).comp (Ext.setCell _ ⟨g, 3, none⟩ (.slice k7.g (remL o.dots (C.gone, C.elems)).1.length k7.gc) rfl)).comp (Ext.setCell _ ⟨g, 4, none⟩ (.slice k7.s C.sums.length k7.sc) rfl)).comp (Ext.setCell _ ⟨g, 5, none⟩ (.slice k7.b C.binds.length k7.bc) rfl)
        have hO8 := hO7.ext (by simp) hxs8 (fun e => by have e : g + 1 = g := e; omega)
        have hR8 := hR7.ext (by simp) hxs8 (fun e => by have e : g + 1 + 1 = g := e; omega)
        have hm8 := hm7.ext hxs8 (fun i ad hi => fun e => by have e : ad.block = g := e; have := (hm7.base i ad hi).1; omega)
        have hx8 := hx10.trans hxs8 (fun k hk e => by have e : k = g := e; omega)
        have hz8 := hxs8.size
        clear c0 c1 c2 c3 c4 c5 f0 f1 f2 f3 f4 f5 hxs8
        generalize (((((w7.setCell ⟨g, 0, none⟩ (.slice k7.v V.length k7.vc)).setCell ⟨g, 1, none⟩ (.slice k7.r C.regs.length k7.rc)).setCell ⟨g, 2, none⟩ (.slice k7.e (remL o.dots (C.gone, C.elems)).2.length k7.ec)).setCell ⟨g, 3, none⟩ (.slice k7.g (remL o.dots (C.gone, C.elems)).1.length k7.gc)).setCell ⟨g, 4, none⟩ (.slice k7.s C.sums.length k7.sc)).setCell ⟨g, 5, none⟩ (.slice k7.b C.binds.length k7.bc) = w8 at *
        have c0 := hC8.cell 0 _ rfl
        have c1 := hC8.cell 1 _ rfl
        have c2 := hC8.cell 2 _ rfl
        have c3 := hC8.cell 3 _ rfl
        have c4 := hC8.cell 4 _ rfl
        have c5 := hC8.cell 5 _ rfl
        go_wp2_with fail
        refine (own_any w8 { C with v := V, gone := (remL o.dots (C.gone, C.elems)).1, elems := (remL o.dots (C.gone, C.elems)).2 } k7 hm8.isIn hsN).mono ?_
        rintro e w9 ⟨k9, rfl, hm9, hx11⟩
        unfold CollR.val
        have hR9 := hR8.ext (by simp) hx11 (fun h => h)
        have hx12 := hx8.comp hx11
        clear c0 c1 c2 c3 c4 c5
        have z0 := hR9.cell 0 _ rfl
        have z1 := hR9.cell 1 _ rfl
        have z2 := hR9.cell 2 _ rfl
        have z3 := hR9.cell 3 _ rfl
        have z4 := hR9.cell 4 _ rfl
        have z5 := hR9.cell 5 _ rfl
        have f0 := hR9.fr 0
        have f1 := hR9.fr 1
        have f2 := hR9.fr 2
        have f3 := hR9.fr 3
        have f4 := hR9.fr 4
        have f5 := hR9.fr 5
        go_wp2_with fail
        have hbE := ((((((hR9.set 0 (.slice k9.v V.length k9.vc) (by simp)).set 1 (.slice k9.r C.regs.length k9.rc) (by simp)).set 2 (.slice k9.e (remL o.dots (C.gone, C.elems)).2.length k9.ec) (by simp)).set 3 (.slice k9.g (remL o.dots (C.gone, C.elems)).1.length k9.gc) (by simp)).set 4 (.slice k9.s C.sums.length k9.sc) (by simp)).set 5 (.slice k9.b C.binds.length k9.bc) (by simp))
        have hxE := (((((Ext.setCell (S := just (g + 1 + 1)) w9 ⟨g + 1 + 1, 0, none⟩ (.slice k9.v V.length k9.vc) rfl).comp (Ext.setCell _ ⟨g + 1 + 1, 1, none⟩ (.slice k9.r C.regs.length k9.rc) rfl)).comp (Ext.setCell _ ⟨g + 1 + 1, 2, none⟩ (.slice k9.e (remL o.dots (C.gone, C.elems)).2.length k9.ec) rfl)).comp (Ext.setCell _ ⟨g + 1 + 1, 3, none⟩ (.slice k9.g (remL o.dots (C.gone, C.elems)).1.length k9.gc) rfl)).comp (Ext.setCell _ ⟨g + 1 + 1, 4, none⟩ (.slice k9.s C.sums.length k9.sc) rfl)).comp (Ext.setCell _ ⟨g + 1 + 1, 5, none⟩ (.slice k9.b C.binds.length k9.bc) rfl)
        clear z0 f0 z1 f1 z2 f2 z3 f3 z4 f4 z5 f5
        generalize (((((w9.setCell ⟨g + 1 + 1, 0, none⟩ (.slice k9.v V.length k9.vc)).setCell ⟨g + 1 + 1, 1, none⟩ (.slice k9.r C.regs.length k9.rc)).setCell ⟨g + 1 + 1, 2, none⟩ (.slice k9.e (remL o.dots (C.gone, C.elems)).2.length k9.ec)).setCell ⟨g + 1 + 1, 3, none⟩ (.slice k9.g (remL o.dots (C.gone, C.elems)).1.length k9.gc)).setCell ⟨g + 1 + 1, 4, none⟩ (.slice k9.s C.sums.length k9.sc)).setCell ⟨g + 1 + 1, 5, none⟩ (.slice k9.b C.binds.length k9.bc) = wE at *
        have z0 := hbE.cell 0 _ rfl
        have z1 := hbE.cell 1 _ rfl
        have z2 := hbE.cell 2 _ rfl
        have z3 := hbE.cell 3 _ rfl
        have z4 := hbE.cell 4 _ rfl
        have z5 := hbE.cell 5 _ rfl
        refine bodyPost_ret (v := .tuple #[.agg #[.slice k9.v V.length k9.vc, .slice k9.r C.regs.length k9.rc, .slice k9.e (remL o.dots (C.gone, C.elems)).2.length k9.ec, .slice k9.g (remL o.dots (C.gone, C.elems)).1.length k9.gc, .slice k9.s C.sums.length k9.sc, .slice k9.b C.binds.length k9.bc], .int .i64 0]) ?_ rfl ?_
        · simp [results]; go_simp
        rw [Hc.out.1, Hc.out.2]
        refine ⟨k9, rfl, ?_, ?_⟩
        · exact (hm9.ext hxE (fun i ad hi e => by have e : ad.block = g + 1 + 1 := e; have := (hm9.base i ad hi).1; omega)).mono (by omega)
        · exact hx12.trans hxE (fun k hk e => by have e : k = g + 1 + 1 := e; omega)
      by_cases hk : o.kind = 4
      · have hl : layC { C with v := V } o = ({ C with v := V, sums := countL C.sums o } : CollR) := by
          unfold layC
          rw [if_neg (by omega), if_neg (by omega), if_neg (by omega), if_pos hk]
        rw [hl] at Hc
        have hsN : ({ C with v := V, sums := countL C.sums o } : CollR).small 1099511627776 := ⟨by have := hs6.v; simp only at *; omega, by have := hs6.r; simp only at *; omega, by have := hs6.e; simp only at *; omega, by have := hs6.g; simp only at *; omega, by have := hs6.s; have := countL_len C.sums o; simp only at *; omega, by have := hs6.b; simp only at *; omega⟩
        have Hk := Lib.hid hk
        have b1 : (o.kind == 1) = false := by rw [beq_eq_false_iff_ne]; omega
        have b2 : (o.kind == 2) = false := by rw [beq_eq_false_iff_ne]; omega
        have b3 : (o.kind == 3) = false := by rw [beq_eq_false_iff_ne]; omega
        have b4 : (o.kind == 4) = true := by rw [beq_iff_eq]; exact hk
        clear hk hk8
        go_wp2_with fail
        refine (count_any w6 B { C with v := V } { k with v := va, vc := vc } o a c hm6 (by omega) (hs6.mono (by omega)) hok6).mono ?_
        rintro e w7 ⟨k7, rfl, hm7, hx9⟩
        simp only at hm7
        have hC7 := hC6.ext (by simp) hx9 (fun e => by have e : B ≤ g := e; omega)
        have hO7 := hO6.ext (by simp) hx9 (fun e => by have e : B ≤ g + 1 := e; omega)
        have hR7 := hR6.ext (by simp) hx9 (fun e => by have e : B ≤ g + 1 + 1 := e; omega)
        have hx10 := hx8.trans hx9 (fun k hk e => by have e : B ≤ k := e; omega)
        have hz7 := hx9.size
        clear c0 c1 c2 c3 c4 c5 q0 q1 q2 q3 q4 q5 q6 q7 q8 q9 q10 hl hC6 hO6 hR6 hm6 hx9 hx8
        unfold CollR.val
        have c0 := hC7.cell 0 _ rfl
        have c1 := hC7.cell 1 _ rfl
        have c2 := hC7.cell 2 _ rfl
        have c3 := hC7.cell 3 _ rfl
        have c4 := hC7.cell 4 _ rfl
        have c5 := hC7.cell 5 _ rfl
        have f0 := hC7.fr 0
        have f1 := hC7.fr 1
        have f2 := hC7.fr 2
        have f3 := hC7.fr 3
        have f4 := hC7.fr 4
        have f5 := hC7.fr 5
        go_upto_region 20 with fail
        have hC8 := ((((((hC7.set 0 (.slice k7.v V.length k7.vc) (by simp)).set 1 (.slice k7.r C.regs.length k7.rc) (by simp)).set 2 (.slice k7.e C.elems.length k7.ec) (by simp)).set 3 (.slice k7.g C.gone.length k7.gc) (by simp)).set 4 (.slice k7.s (countL C.sums o).length k7.sc) (by simp)).set 5 (.slice k7.b C.binds.length k7.bc) (by simp))
        have hxs8 := (((((Ext.setCell (S := just g) w7 ⟨g, 0, none⟩ (.slice k7.v V.length k7.vc) rfl).comp (Ext.setCell _ ⟨g, 1, none⟩ (.slice k7.r C.regs.length k7.rc) rfl)).comp (Ext.setCell _ ⟨g, 2, none⟩ (.slice k7.e C.elems.length k7.ec) rfl)).comp (Ext.setCell _ ⟨g, 3, none⟩ (.slice k7.g C.gone.length k7.gc) rfl)).comp (Ext.setCell _ ⟨g, 4, none⟩ (.slice k7.s (countL C.sums o).length k7.sc) rfl)).comp (Ext.setCell _ ⟨g, 5, none⟩ (.slice k7.b C.binds.length k7.bc) rfl)
        have hO8 := hO7.ext (by simp) hxs8 (fun e => by have e : g + 1 = g := e; omega)
        have hR8 := hR7.ext (by simp) hxs8 (fun e => by have e : g + 1 + 1 = g := e; omega)
        have hm8 := hm7.ext hxs8 (fun i ad hi => fun e => by have e : ad.block = g := e; have := (hm7.base i ad hi).1; omega)
        have hx8 := hx10.trans hxs8 (fun k hk e => by have e : k = g := e; omega)
        have hz8 := hxs8.size
        clear c0 c1 c2 c3 c4 c5 f0 f1 f2 f3 f4 f5 hxs8
        generalize (((((w7.setCell ⟨g, 0, none⟩ (.slice k7.v V.length k7.vc)).setCell ⟨g, 1, none⟩ (.slice k7.r C.regs.length k7.rc)).setCell ⟨g, 2, none⟩ (.slice k7.e C.elems.length k7.ec)).setCell ⟨g, 3, none⟩ (.slice k7.g C.gone.length k7.gc)).setCell ⟨g, 4, none⟩ (.slice k7.s (countL C.sums o).length k7.sc)).setCell ⟨g, 5, none⟩ (.slice k7.b C.binds.length k7.bc) = w8 at *
        have c0 := hC8.cell 0 _ rfl
        have c1 := hC8.cell 1 _ rfl
        have c2 := hC8.cell 2 _ rfl
        have c3 := hC8.cell 3 _ rfl
        have c4 := hC8.cell 4 _ rfl
        have c5 := hC8.cell 5 _ rfl
        go_wp2_with fail
        refine (own_any w8 { C with v := V, sums := countL C.sums o } k7 hm8.isIn hsN).mono ?_
        rintro e w9 ⟨k9, rfl, hm9, hx11⟩
        unfold CollR.val
        have hR9 := hR8.ext (by simp) hx11 (fun h => h)
        have hx12 := hx8.comp hx11
        clear c0 c1 c2 c3 c4 c5
        have z0 := hR9.cell 0 _ rfl
        have z1 := hR9.cell 1 _ rfl
        have z2 := hR9.cell 2 _ rfl
        have z3 := hR9.cell 3 _ rfl
        have z4 := hR9.cell 4 _ rfl
        have z5 := hR9.cell 5 _ rfl
        have f0 := hR9.fr 0
        have f1 := hR9.fr 1
        have f2 := hR9.fr 2
        have f3 := hR9.fr 3
        have f4 := hR9.fr 4
        have f5 := hR9.fr 5
        go_wp2_with fail
        have hbE := ((((((hR9.set 0 (.slice k9.v V.length k9.vc) (by simp)).set 1 (.slice k9.r C.regs.length k9.rc) (by simp)).set 2 (.slice k9.e C.elems.length k9.ec) (by simp)).set 3 (.slice k9.g C.gone.length k9.gc) (by simp)).set 4 (.slice k9.s (countL C.sums o).length k9.sc) (by simp)).set 5 (.slice k9.b C.binds.length k9.bc) (by simp))
        have hxE := (((((Ext.setCell (S := just (g + 1 + 1)) w9 ⟨g + 1 + 1, 0, none⟩ (.slice k9.v V.length k9.vc) rfl).comp (Ext.setCell _ ⟨g + 1 + 1, 1, none⟩ (.slice k9.r C.regs.length k9.rc) rfl)).comp (Ext.setCell _ ⟨g + 1 + 1, 2, none⟩ (.slice k9.e C.elems.length k9.ec) rfl)).comp (Ext.setCell _ ⟨g + 1 + 1, 3, none⟩ (.slice k9.g C.gone.length k9.gc) rfl)).comp (Ext.setCell _ ⟨g + 1 + 1, 4, none⟩ (.slice k9.s (countL C.sums o).length k9.sc) rfl)).comp (Ext.setCell _ ⟨g + 1 + 1, 5, none⟩ (.slice k9.b C.binds.length k9.bc) rfl)
        clear z0 f0 z1 f1 z2 f2 z3 f3 z4 f4 z5 f5
        generalize (((((w9.setCell ⟨g + 1 + 1, 0, none⟩ (.slice k9.v V.length k9.vc)).setCell ⟨g + 1 + 1, 1, none⟩ (.slice k9.r C.regs.length k9.rc)).setCell ⟨g + 1 + 1, 2, none⟩ (.slice k9.e C.elems.length k9.ec)).setCell ⟨g + 1 + 1, 3, none⟩ (.slice k9.g C.gone.length k9.gc)).setCell ⟨g + 1 + 1, 4, none⟩ (.slice k9.s (countL C.sums o).length k9.sc)).setCell ⟨g + 1 + 1, 5, none⟩ (.slice k9.b C.binds.length k9.bc) = wE at *
        have z0 := hbE.cell 0 _ rfl
        have z1 := hbE.cell 1 _ rfl
        have z2 := hbE.cell 2 _ rfl
        have z3 := hbE.cell 3 _ rfl
        have z4 := hbE.cell 4 _ rfl
        have z5 := hbE.cell 5 _ rfl
        refine bodyPost_ret (v := .tuple #[.agg #[.slice k9.v V.length k9.vc, .slice k9.r C.regs.length k9.rc, .slice k9.e C.elems.length k9.ec, .slice k9.g C.gone.length k9.gc, .slice k9.s (countL C.sums o).length k9.sc, .slice k9.b C.binds.length k9.bc], .int .i64 0]) ?_ rfl ?_
        · simp [results]; go_simp
        rw [Hc.out.1, Hc.out.2]
        refine ⟨k9, rfl, ?_, ?_⟩
        · exact (hm9.ext hxE (fun i ad hi e => by have e : ad.block = g + 1 + 1 := e; have := (hm9.base i ad hi).1; omega)).mono (by omega)
        · exact hx12.trans hxE (fun k hk e => by have e : k = g + 1 + 1 := e; omega)
      have hk : o.kind = 5 := by omega
      have hl : layC { C with v := V } o = ({ C with v := V, binds := bindL C.binds o } : CollR) := by
        unfold layC
        rw [if_neg (by omega), if_neg (by omega), if_neg (by omega), if_neg (by omega), if_pos hk]
      rw [hl] at Hc
      have hsN : ({ C with v := V, binds := bindL C.binds o } : CollR).small 1099511627776 := ⟨by have := hs6.v; simp only at *; omega, by have := hs6.r; simp only at *; omega, by have := hs6.e; simp only at *; omega, by have := hs6.g; simp only at *; omega, by have := hs6.s; simp only at *; omega, by have := hs6.b; have := bindL_len C.binds o; simp only at *; omega⟩
      have Hk := Lib.hid hk
      have b1 : (o.kind == 1) = false := by rw [beq_eq_false_iff_ne]; omega
      have b2 : (o.kind == 2) = false := by rw [beq_eq_false_iff_ne]; omega
      have b3 : (o.kind == 3) = false := by rw [beq_eq_false_iff_ne]; omega
      have b4 : (o.kind == 4) = false := by rw [beq_eq_false_iff_ne]; omega
      have b5 : (o.kind == 5) = true := by rw [beq_iff_eq]; exact hk
      clear hk hk8
      go_wp2_with fail
      refine (mean_any w6 B { C with v := V } { k with v := va, vc := vc } o a c hm6 (by omega) (hs6.mono (by omega)) hok6).mono ?_
      rintro e w7 ⟨k7, rfl, hm7, hx9⟩
      simp only at hm7
      have hC7 := hC6.ext (by simp) hx9 (fun e => by have e : B ≤ g := e; omega)
      have hO7 := hO6.ext (by simp) hx9 (fun e => by have e : B ≤ g + 1 := e; omega)
      have hR7 := hR6.ext (by simp) hx9 (fun e => by have e : B ≤ g + 1 + 1 := e; omega)
      have hx10 := hx8.trans hx9 (fun k hk e => by have e : B ≤ k := e; omega)
      have hz7 := hx9.size
      clear c0 c1 c2 c3 c4 c5 q0 q1 q2 q3 q4 q5 q6 q7 q8 q9 q10 hl hC6 hO6 hR6 hm6 hx9 hx8
      unfold CollR.val
      have c0 := hC7.cell 0 _ rfl
      have c1 := hC7.cell 1 _ rfl
      have c2 := hC7.cell 2 _ rfl
      have c3 := hC7.cell 3 _ rfl
      have c4 := hC7.cell 4 _ rfl
      have c5 := hC7.cell 5 _ rfl
      have f0 := hC7.fr 0
      have f1 := hC7.fr 1
      have f2 := hC7.fr 2
      have f3 := hC7.fr 3
      have f4 := hC7.fr 4
      have f5 := hC7.fr 5
      go_upto_region 20 with fail
      have hC8 := ((((((hC7.set 0 (.slice k7.v V.length k7.vc) (by simp)).set 1 (.slice k7.r C.regs.length k7.rc) (by simp)).set 2 (.slice k7.e C.elems.length k7.ec) (by simp)).set 3 (.slice k7.g C.gone.length k7.gc) (by simp)).set 4 (.slice k7.s C.sums.length k7.sc) (by simp)).set 5 (.slice k7.b (bindL C.binds o).length k7.bc) (by simp))
      have hxs8 := (((((Ext.setCell (S := just g) w7 ⟨g, 0, none⟩ (.slice k7.v V.length k7.vc) rfl).comp (Ext.setCell _ ⟨g, 1, none⟩ (.slice k7.r C.regs.length k7.rc) rfl)).comp (Ext.setCell _ ⟨g, 2, none⟩ (.slice k7.e C.elems.length k7.ec) rfl)).comp (Ext.setCell _ ⟨g, 3, none⟩ (.slice k7.g C.gone.length k7.gc) rfl)).comp (Ext.setCell _ ⟨g, 4, none⟩ (.slice k7.s C.sums.length k7.sc) rfl)).comp (Ext.setCell _ ⟨g, 5, none⟩ (.slice k7.b (bindL C.binds o).length k7.bc) rfl)
      have hO8 := hO7.ext (by simp) hxs8 (fun e => by have e : g + 1 = g := e; omega)
      have hR8 := hR7.ext (by simp) hxs8 (fun e => by have e : g + 1 + 1 = g := e; omega)
      have hm8 := hm7.ext hxs8 (fun i ad hi => fun e => by have e : ad.block = g := e; have := (hm7.base i ad hi).1; omega)
      have hx8 := hx10.trans hxs8 (fun k hk e => by have e : k = g := e; omega)
      have hz8 := hxs8.size
      clear c0 c1 c2 c3 c4 c5 f0 f1 f2 f3 f4 f5 hxs8
      generalize (((((w7.setCell ⟨g, 0, none⟩ (.slice k7.v V.length k7.vc)).setCell ⟨g, 1, none⟩ (.slice k7.r C.regs.length k7.rc)).setCell ⟨g, 2, none⟩ (.slice k7.e C.elems.length k7.ec)).setCell ⟨g, 3, none⟩ (.slice k7.g C.gone.length k7.gc)).setCell ⟨g, 4, none⟩ (.slice k7.s C.sums.length k7.sc)).setCell ⟨g, 5, none⟩ (.slice k7.b (bindL C.binds o).length k7.bc) = w8 at *
      have c0 := hC8.cell 0 _ rfl
      have c1 := hC8.cell 1 _ rfl
      have c2 := hC8.cell 2 _ rfl
      have c3 := hC8.cell 3 _ rfl
      have c4 := hC8.cell 4 _ rfl
      have c5 := hC8.cell 5 _ rfl
      go_wp2_with fail
      refine (own_any w8 { C with v := V, binds := bindL C.binds o } k7 hm8.isIn hsN).mono ?_
      rintro e w9 ⟨k9, rfl, hm9, hx11⟩
      unfold CollR.val
      have hR9 := hR8.ext (by simp) hx11 (fun h => h)
      have hx12 := hx8.comp hx11
      clear c0 c1 c2 c3 c4 c5
      have z0 := hR9.cell 0 _ rfl
      have z1 := hR9.cell 1 _ rfl
      have z2 := hR9.cell 2 _ rfl
      have z3 := hR9.cell 3 _ rfl
      have z4 := hR9.cell 4 _ rfl
      have z5 := hR9.cell 5 _ rfl
      have f0 := hR9.fr 0
      have f1 := hR9.fr 1
      have f2 := hR9.fr 2
      have f3 := hR9.fr 3
      have f4 := hR9.fr 4
      have f5 := hR9.fr 5
      go_wp2_with fail
      have hbE := ((((((hR9.set 0 (.slice k9.v V.length k9.vc) (by simp)).set 1 (.slice k9.r C.regs.length k9.rc) (by simp)).set 2 (.slice k9.e C.elems.length k9.ec) (by simp)).set 3 (.slice k9.g C.gone.length k9.gc) (by simp)).set 4 (.slice k9.s C.sums.length k9.sc) (by simp)).set 5 (.slice k9.b (bindL C.binds o).length k9.bc) (by simp))
      have hxE := (((((Ext.setCell (S := just (g + 1 + 1)) w9 ⟨g + 1 + 1, 0, none⟩ (.slice k9.v V.length k9.vc) rfl).comp (Ext.setCell _ ⟨g + 1 + 1, 1, none⟩ (.slice k9.r C.regs.length k9.rc) rfl)).comp (Ext.setCell _ ⟨g + 1 + 1, 2, none⟩ (.slice k9.e C.elems.length k9.ec) rfl)).comp (Ext.setCell _ ⟨g + 1 + 1, 3, none⟩ (.slice k9.g C.gone.length k9.gc) rfl)).comp (Ext.setCell _ ⟨g + 1 + 1, 4, none⟩ (.slice k9.s C.sums.length k9.sc) rfl)).comp (Ext.setCell _ ⟨g + 1 + 1, 5, none⟩ (.slice k9.b (bindL C.binds o).length k9.bc) rfl)
      clear z0 f0 z1 f1 z2 f2 z3 f3 z4 f4 z5 f5
      generalize (((((w9.setCell ⟨g + 1 + 1, 0, none⟩ (.slice k9.v V.length k9.vc)).setCell ⟨g + 1 + 1, 1, none⟩ (.slice k9.r C.regs.length k9.rc)).setCell ⟨g + 1 + 1, 2, none⟩ (.slice k9.e C.elems.length k9.ec)).setCell ⟨g + 1 + 1, 3, none⟩ (.slice k9.g C.gone.length k9.gc)).setCell ⟨g + 1 + 1, 4, none⟩ (.slice k9.s C.sums.length k9.sc)).setCell ⟨g + 1 + 1, 5, none⟩ (.slice k9.b (bindL C.binds o).length k9.bc) = wE at *
      have z0 := hbE.cell 0 _ rfl
      have z1 := hbE.cell 1 _ rfl
      have z2 := hbE.cell 2 _ rfl
      have z3 := hbE.cell 3 _ rfl
      have z4 := hbE.cell 4 _ rfl
      have z5 := hbE.cell 5 _ rfl
      refine bodyPost_ret (v := .tuple #[.agg #[.slice k9.v V.length k9.vc, .slice k9.r C.regs.length k9.rc, .slice k9.e C.elems.length k9.ec, .slice k9.g C.gone.length k9.gc, .slice k9.s C.sums.length k9.sc, .slice k9.b (bindL C.binds o).length k9.bc], .int .i64 0]) ?_ rfl ?_
      · simp [results]; go_simp
      rw [Hc.out.1, Hc.out.2]
      refine ⟨k9, rfl, ?_, ?_⟩
      · exact (hm9.ext hxE (fun i ad hi e => by have e : ad.block = g + 1 + 1 := e; have := (hm9.base i ad hi).1; omega)).mono (by omega)
      · exact hx12.trans hxE (fun k hk e => by have e : k = g + 1 + 1 := e; omega)
    · have Hc := Lib.hid (hc1 hck hst)
      have d1 : ((stepErr C.v o.dot : Int) != 0) = true := by rw [bne_iff_ne]; omega
      clear hc1 hc2 hv5 hck
      generalize stepErr C.v o.dot = E1 at *
      have c0 := hC5.cell 0 _ rfl
      have c1 := hC5.cell 1 _ rfl
      have c2 := hC5.cell 2 _ rfl
      have c3 := hC5.cell 3 _ rfl
      have c4 := hC5.cell 4 _ rfl
      have c5 := hC5.cell 5 _ rfl
      have z0 := hR5.cell 0 _ rfl
      have z1 := hR5.cell 1 _ rfl
      have z2 := hR5.cell 2 _ rfl
      have z3 := hR5.cell 3 _ rfl
      have z4 := hR5.cell 4 _ rfl
      have z5 := hR5.cell 5 _ rfl
      have f0 := hR5.fr 0
      have f1 := hR5.fr 1
      have f2 := hR5.fr 2
      have f3 := hR5.fr 3
      have f4 := hR5.fr 4
      have f5 := hR5.fr 5
      go_wp2_with fail
      have hbE := ((((((hR5.set 0 (.slice k.v C.v.length k.vc) (by simp)).set 1 (.slice k.r C.regs.length k.rc) (by simp)).set 2 (.slice k.e C.elems.length k.ec) (by simp)).set 3 (.slice k.g C.gone.length k.gc) (by simp)).set 4 (.slice k.s C.sums.length k.sc) (by simp)).set 5 (.slice k.b C.binds.length k.bc) (by simp))
      have hxE := (((((Ext.setCell (S := just (g + 1 + 1)) w5 ⟨g + 1 + 1, 0, none⟩ (.slice k.v C.v.length k.vc) rfl).comp (Ext.setCell _ ⟨g + 1 + 1, 1, none⟩ (.slice k.r C.regs.length k.rc) rfl)).comp (Ext.setCell _ ⟨g + 1 + 1, 2, none⟩ (.slice k.e C.elems.length k.ec) rfl)).comp (Ext.setCell _ ⟨g + 1 + 1, 3, none⟩ (.slice k.g C.gone.length k.gc) rfl)).comp (Ext.setCell _ ⟨g + 1 + 1, 4, none⟩ (.slice k.s C.sums.length k.sc) rfl)).comp (Ext.setCell _ ⟨g + 1 + 1, 5, none⟩ (.slice k.b C.binds.length k.bc) rfl)
      clear z0 f0 z1 f1 z2 f2 z3 f3 z4 f4 z5 f5
      generalize (((((w5.setCell ⟨g + 1 + 1, 0, none⟩ (.slice k.v C.v.length k.vc)).setCell ⟨g + 1 + 1, 1, none⟩ (.slice k.r C.regs.length k.rc)).setCell ⟨g + 1 + 1, 2, none⟩ (.slice k.e C.elems.length k.ec)).setCell ⟨g + 1 + 1, 3, none⟩ (.slice k.g C.gone.length k.gc)).setCell ⟨g + 1 + 1, 4, none⟩ (.slice k.s C.sums.length k.sc)).setCell ⟨g + 1 + 1, 5, none⟩ (.slice k.b C.binds.length k.bc) = wE at *
      have z0 := hbE.cell 0 _ rfl
      have z1 := hbE.cell 1 _ rfl
      have z2 := hbE.cell 2 _ rfl
      have z3 := hbE.cell 3 _ rfl
      have z4 := hbE.cell 4 _ rfl
      have z5 := hbE.cell 5 _ rfl
      refine bodyPost_ret (v := .tuple #[.agg #[.slice k.v C.v.length k.vc, .slice k.r C.regs.length k.rc, .slice k.e C.elems.length k.ec, .slice k.g C.gone.length k.gc, .slice k.s C.sums.length k.sc, .slice k.b C.binds.length k.bc], .int .i64 (E1 : Nat)]) ?_ rfl ?_
      · simp [results]; go_simp
      rw [Hc.out.1, Hc.out.2]
      refine ⟨k, rfl, ?_, ?_⟩
      · exact (hm5.ext hxE (fun i ad hi e => by have e : ad.block = g + 1 + 1 := e; have := (hm5.base i ad hi).1; omega)).mono (by omega)
      · exact hx7.trans hxE (fun k hk e => by have e : k = g + 1 + 1 := e; omega)
  · have Hc := Lib.hid (hc0 hck)
    have d1 : ((checkOp o : Int) != 0) = true := by rw [bne_iff_ne]; omega
    clear hc0 hc1 hc2
    generalize checkOp o = E1 at *
    have c0 := hC4.cell 0 _ rfl
    have c1 := hC4.cell 1 _ rfl
    have c2 := hC4.cell 2 _ rfl
    have c3 := hC4.cell 3 _ rfl
    have c4 := hC4.cell 4 _ rfl
    have c5 := hC4.cell 5 _ rfl
    have z0 := hR4.cell 0 _ rfl
    have z1 := hR4.cell 1 _ rfl
    have z2 := hR4.cell 2 _ rfl
    have z3 := hR4.cell 3 _ rfl
    have z4 := hR4.cell 4 _ rfl
    have z5 := hR4.cell 5 _ rfl
    have f0 := hR4.fr 0
    have f1 := hR4.fr 1
    have f2 := hR4.fr 2
    have f3 := hR4.fr 3
    have f4 := hR4.fr 4
    have f5 := hR4.fr 5
    go_wp2_with fail
    have hbE := ((((((hR4.set 0 (.slice k.v C.v.length k.vc) (by simp)).set 1 (.slice k.r C.regs.length k.rc) (by simp)).set 2 (.slice k.e C.elems.length k.ec) (by simp)).set 3 (.slice k.g C.gone.length k.gc) (by simp)).set 4 (.slice k.s C.sums.length k.sc) (by simp)).set 5 (.slice k.b C.binds.length k.bc) (by simp))
    have hxE := (((((Ext.setCell (S := just (g + 1 + 1)) w4 ⟨g + 1 + 1, 0, none⟩ (.slice k.v C.v.length k.vc) rfl).comp (Ext.setCell _ ⟨g + 1 + 1, 1, none⟩ (.slice k.r C.regs.length k.rc) rfl)).comp (Ext.setCell _ ⟨g + 1 + 1, 2, none⟩ (.slice k.e C.elems.length k.ec) rfl)).comp (Ext.setCell _ ⟨g + 1 + 1, 3, none⟩ (.slice k.g C.gone.length k.gc) rfl)).comp (Ext.setCell _ ⟨g + 1 + 1, 4, none⟩ (.slice k.s C.sums.length k.sc) rfl)).comp (Ext.setCell _ ⟨g + 1 + 1, 5, none⟩ (.slice k.b C.binds.length k.bc) rfl)
    clear z0 f0 z1 f1 z2 f2 z3 f3 z4 f4 z5 f5
    generalize (((((w4.setCell ⟨g + 1 + 1, 0, none⟩ (.slice k.v C.v.length k.vc)).setCell ⟨g + 1 + 1, 1, none⟩ (.slice k.r C.regs.length k.rc)).setCell ⟨g + 1 + 1, 2, none⟩ (.slice k.e C.elems.length k.ec)).setCell ⟨g + 1 + 1, 3, none⟩ (.slice k.g C.gone.length k.gc)).setCell ⟨g + 1 + 1, 4, none⟩ (.slice k.s C.sums.length k.sc)).setCell ⟨g + 1 + 1, 5, none⟩ (.slice k.b C.binds.length k.bc) = wE at *
    have z0 := hbE.cell 0 _ rfl
    have z1 := hbE.cell 1 _ rfl
    have z2 := hbE.cell 2 _ rfl
    have z3 := hbE.cell 3 _ rfl
    have z4 := hbE.cell 4 _ rfl
    have z5 := hbE.cell 5 _ rfl
    refine bodyPost_ret (v := .tuple #[.agg #[.slice k.v C.v.length k.vc, .slice k.r C.regs.length k.rc, .slice k.e C.elems.length k.ec, .slice k.g C.gone.length k.gc, .slice k.s C.sums.length k.sc, .slice k.b C.binds.length k.bc], .int .i64 (E1 : Nat)]) ?_ rfl ?_
    · simp [results]; go_simp
    rw [Hc.out.1, Hc.out.2]
    refine ⟨k, rfl, ?_, ?_⟩
    · exact (hm4.ext hxE (fun i ad hi e => by have e : ad.block = g + 1 + 1 := e; have := (hm4.base i ad hi).1; omega)).mono (by omega)
    · exact hx5.trans hxE (fun k hk e => by have e : k = g + 1 + 1 := e; omega)
end Go.Proofs.YtejmmkjpncpedaaGreat
