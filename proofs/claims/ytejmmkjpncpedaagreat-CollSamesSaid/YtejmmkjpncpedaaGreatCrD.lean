/- The reference's Apply. -/
import Derived.Test.YtejmmkjpncpedaaGreatCrC
import Derived.Test.YtejmmkjpncpedaaGreatCoK
import Derived.Test.YtejmmkjpncpedaaGreatOpEr
namespace Go.Proofs.YtejmmkjpncpedaaGreat
open Go.RowKit Go.Esc
set_option linter.unusedVariables false
set_option linter.unusedSimpArgs false
set_option maxRecDepth 100000 in
set_option maxHeartbeats 8000000 in
theorem refapply_any (w : World) (B : Nat) (C : CollR) (h : Six) (o : OpR) (a : Option Addr) (c : Nat) (hm : Mine C w B h) (hB : B ≤ w.heap.size) (hs : C.small 1099511620000) (hr0 : Rd w a (ds o.dots)) (hdl : o.dots.length ≤ 1099511627776) (hks : o.key.length ≤ maxLen) (hts : o.text.length ≤ maxLen) :
    Calls Tryz.prog 12 #[C.val h, o.v a c] w fun e w' => ∃ h', e = .returned (.tuple #[(refApply C o).val h', .int .i64 (refErr C o)]) ∧ Mine (refApply C o) w' B h' ∧ Ext no w w' := by
  obtain ⟨E, hE⟩ : ∃ E, E = refErr C o := ⟨_, rfl⟩
  obtain ⟨F, hF⟩ : ∃ F, F = refApply C o := ⟨_, rfl⟩
  rw [← hE, ← hF]
  have HE := Lib.hid hE
  have HF := Lib.hid hF
  clear hE hF
  have hc0 : ∀ h : checkOp o ≠ 0, E = checkOp o ∧ F = C := fun h => ⟨by rw [HE.out]; unfold refErr; rw [if_pos h], by rw [HF.out]; unfold refApply; rw [if_pos h]⟩
  have hc1 : ∀ h : checkOp o = 0, stepErr C.v o.dot ≠ 0 → E = stepErr C.v o.dot ∧ F = C := fun h h2 => ⟨by rw [HE.out]; unfold refErr; rw [if_neg (show ¬ checkOp o ≠ 0 from fun e => e h)], by rw [HF.out]; unfold refApply; rw [if_neg (show ¬ checkOp o ≠ 0 from fun e => e h), if_pos h2]⟩
  have hc2 : ∀ h : checkOp o = 0, stepErr C.v o.dot = 0 → E = 0 ∧ F = refLay { C with v := refPut C.v o.dot } o := fun h h2 => ⟨by rw [HE.out]; unfold refErr; rw [if_neg (show ¬ checkOp o ≠ 0 from fun e => e h), h2], by rw [HF.out]; unfold refApply; rw [if_neg (show ¬ checkOp o ≠ 0 from fun e => e h), if_neg (show ¬ stepErr C.v o.dot ≠ 0 from fun e => e h2)]⟩
  clear HE HF
  have hlow : ∀ i ad, h.at i = some ad → ad.block < w.heap.size := fun i ad hi => (hm.base i ad hi).2
  go_enter Tryz.func12, Tryz.ntmps12
  unfold CollR.val OpR.v
  go_upto_region 1 with fail
  have hC_ := Blk.at (w) #[.slice h.v C.v.length h.vc, .slice h.r C.regs.length h.rc, .slice h.e C.elems.length h.ec, .slice h.g C.gone.length h.gc, .slice h.s C.sums.length h.sc, .slice h.b C.binds.length h.bc] 32 (w.heap.size) (by simp)
  have hx_0 := Ext.alloc no (w) (.cells #[.slice h.v C.v.length h.vc, .slice h.r C.regs.length h.rc, .slice h.e C.elems.length h.ec, .slice h.g C.gone.length h.gc, .slice h.s C.sums.length h.sc, .slice h.b C.binds.length h.bc] 32)
  have hO_ := Blk.at (w.alloc (.cells #[.slice h.v C.v.length h.vc, .slice h.r C.regs.length h.rc, .slice h.e C.elems.length h.ec, .slice h.g C.gone.length h.gc, .slice h.s C.sums.length h.sc, .slice h.b C.binds.length h.bc] 32)) #[.int .i64 o.dot.dev, .int .i64 o.dot.ep, .int .i64 o.dot.seq, .int .i64 o.coll, .int .i64 o.ver, .int .i64 o.kind, .string (str o.key), .string (str o.text), .int .i64 o.n, .int .i64 o.time, .slice a o.dots.length c] 51 (w.heap.size + 1) (by simp)
  have hx_1 := Ext.alloc no (w.alloc (.cells #[.slice h.v C.v.length h.vc, .slice h.r C.regs.length h.rc, .slice h.e C.elems.length h.ec, .slice h.g C.gone.length h.gc, .slice h.s C.sums.length h.sc, .slice h.b C.binds.length h.bc] 32)) (.cells #[.int .i64 o.dot.dev, .int .i64 o.dot.ep, .int .i64 o.dot.seq, .int .i64 o.coll, .int .i64 o.ver, .int .i64 o.kind, .string (str o.key), .string (str o.text), .int .i64 o.n, .int .i64 o.time, .slice a o.dots.length c] 51)
  have hR_ := Blk.at ((w.alloc (.cells #[.slice h.v C.v.length h.vc, .slice h.r C.regs.length h.rc, .slice h.e C.elems.length h.ec, .slice h.g C.gone.length h.gc, .slice h.s C.sums.length h.sc, .slice h.b C.binds.length h.bc] 32)).alloc (.cells #[.int .i64 o.dot.dev, .int .i64 o.dot.ep, .int .i64 o.dot.seq, .int .i64 o.coll, .int .i64 o.ver, .int .i64 o.kind, .string (str o.key), .string (str o.text), .int .i64 o.n, .int .i64 o.time, .slice a o.dots.length c] 51)) #[.slice none 0 0, .slice none 0 0, .slice none 0 0, .slice none 0 0, .slice none 0 0, .slice none 0 0] 32 (w.heap.size + 1 + 1) (by simp)
  have hx_2 := Ext.alloc no ((w.alloc (.cells #[.slice h.v C.v.length h.vc, .slice h.r C.regs.length h.rc, .slice h.e C.elems.length h.ec, .slice h.g C.gone.length h.gc, .slice h.s C.sums.length h.sc, .slice h.b C.binds.length h.bc] 32)).alloc (.cells #[.int .i64 o.dot.dev, .int .i64 o.dot.ep, .int .i64 o.dot.seq, .int .i64 o.coll, .int .i64 o.ver, .int .i64 o.kind, .string (str o.key), .string (str o.text), .int .i64 o.n, .int .i64 o.time, .slice a o.dots.length c] 51)) (.cells #[.slice none 0 0, .slice none 0 0, .slice none 0 0, .slice none 0 0, .slice none 0 0, .slice none 0 0] 32)
  have hC := (hC_.ext (by simp) hx_1 (fun h => h)).ext (by simp) hx_2 (fun h => h)
  have hO := hO_.ext (by simp) hx_2 (fun h => h)
  have hR := hR_
  have hx1 := ((hx_0).comp hx_1).comp hx_2
  clear hC_ hx_0 hO_ hx_1 hR_ hx_2
  generalize ((w.alloc (.cells #[.slice h.v C.v.length h.vc, .slice h.r C.regs.length h.rc, .slice h.e C.elems.length h.ec, .slice h.g C.gone.length h.gc, .slice h.s C.sums.length h.sc, .slice h.b C.binds.length h.bc] 32)).alloc (.cells #[.int .i64 o.dot.dev, .int .i64 o.dot.ep, .int .i64 o.dot.seq, .int .i64 o.coll, .int .i64 o.ver, .int .i64 o.kind, .string (str o.key), .string (str o.text), .int .i64 o.n, .int .i64 o.time, .slice a o.dots.length c] 51)).alloc (.cells #[.slice none 0 0, .slice none 0 0, .slice none 0 0, .slice none 0 0, .slice none 0 0, .slice none 0 0] 32) = w1 at *
  have hsz := hR.lt (by simp)
  obtain ⟨g, hg⟩ : ∃ g, g = w.heap.size := ⟨_, rfl⟩
  have hgw : w.heap.size ≤ g := by omega
  rw [← hg] at hC hO hR hsz ⊢
  clear hg
  have hW := hx1
  replace hm := hm.no hx1
  have haw : ∀ i ad, h.at i = some ad → ad.block ≠ g ∧ ad.block ≠ g + 1 + 1 := fun i ad hi => by have := hlow i ad hi; omega
  clear hx1
  have hRl := hR.lt (by simp)
  have q0 := hO.cell 0 _ rfl
  have q1 := hO.cell 1 _ rfl
  have q2 := hO.cell 2 _ rfl
  have q3 := hO.cell 3 _ rfl
  have q4 := hO.cell 4 _ rfl
  have q5 := hO.cell 5 _ rfl
  have q6 := hO.cell 6 _ rfl
  have q7 := hO.cell 7 _ rfl
  have q8 := hO.cell 8 _ rfl
  have q9 := hO.cell 9 _ rfl
  have q10 := hO.cell 10 _ rfl
  go_wp2_with fail
  refine (refcheck_any w1 o a c (hr0.no hW) hdl hks hts).mono ?_
  rintro e w2 ⟨rfl, hx2⟩
  replace hW := hW.comp hx2
  replace hC := hC.ext (by simp) hx2 (fun h => h)
  replace hO := hO.ext (by simp) hx2 (fun h => h)
  replace hR := hR.ext (by simp) hx2 (fun h => h)
  replace hm := hm.no hx2
  replace hRl := Nat.lt_of_lt_of_le hRl hx2.size
  clear hx2 hsz q0 q1 q2 q3 q4 q5 q6 q7 q8 q9 q10
  by_cases hck : checkOp o = 0
  · have hk8 := kind_of hck
    have Hck := Lib.hid hck
    rw [hck]
    clear hc0
    have c0 := hC.cell 0 _ rfl
    have q0 := hO.cell 0 _ rfl
    have q1 := hO.cell 1 _ rfl
    have q2 := hO.cell 2 _ rfl
    go_wp2_with fail
    refine (refstep_any w2 h.v h.vc C.v o.dot hm.v.rd (by have := hs.v; omega) hm.v.nc).mono ?_
    rintro e w3 ⟨va, vn, vc, rfl, hv3, hx3⟩
    have hRl2 := hRl
    replace hW := hW.comp hx3
    replace hC := hC.ext (by simp) hx3 (fun h => h)
    replace hO := hO.ext (by simp) hx3 (fun h => h)
    replace hR := hR.ext (by simp) hx3 (fun h => h)
    replace hm := hm.no hx3
    replace hRl := Nat.lt_of_lt_of_le hRl hx3.size
    clear hx3 c0 q0 q1 q2
    by_cases hst : stepErr C.v o.dot = 0
    · have Hc := Lib.hid (hc2 hck hst)
      obtain ⟨hvn, hv6⟩ := hv3 hst
      subst hvn
      clear hv3
      rw [hst]
      clear hc1 hc2 hst hck
      have c0 := hC.cell 0 _ rfl
      have f0 := hC.fr 0
      go_upto_region 8 with fail
      have hxs : Ext (just g) w3 (w3.setCell ⟨g, 0, none⟩ (.slice va (refPut C.v o.dot).length vc)) := Ext.setCell _ _ _ rfl
      have hvl : ∀ ad, va = some ad → g + 1 + 1 < ad.block := fun ad ha => by have := (hv6.base ad ha).1; omega
      have hm6 : Mine { C with v := (refPut C.v o.dot) } w3 B { h with v := va, vc := vc } := ⟨hv6.mono (by omega), hm.r, hm.e, hm.g, hm.s, hm.b, apart_upd hm.ap (fun i ad hi => hlow i ad hi) 0 (fun i hi => by rcases i with _ | _ | _ | _ | _ | _ | i <;> first | rfl | exact absurd rfl hi) (fun ad hi => .inr (by have := hvl ad hi; omega))⟩
      have haw6 : ∀ i ad, ({ h with v := va, vc := vc } : Six).at i = some ad → ad.block ≠ g ∧ ad.block ≠ g + 1 + 1 := fun i ad hi => by
        by_cases h0 : i = 0
        · subst h0; have := hvl ad hi; omega
        · exact haw i ad (by rcases i with _ | _ | _ | _ | _ | _ | i <;> first | exact hi | exact absurd rfl h0)
      clear hm
      have hm := hm6.ext hxs (fun i ad hi e => by have e : ad.block = g := e; exact (haw6 i ad hi).1 e)
      replace hC := hC.set 0 (.slice va (refPut C.v o.dot).length vc) (by simp)
      replace hO := hO.ext (by simp) hxs (fun e => by have e : g + 1 = g := e; omega)
      replace hR := hR.ext (by simp) hxs (fun e => by have e : g + 1 + 1 = g := e; omega)
      replace hW := hW.trans hxs (fun k hk e => by have e : k = g := e; omega)
      have hs6 : ({ C with v := (refPut C.v o.dot) } : CollR).small 1099511620001 := ⟨by have := refPut_len C.v o.dot; have := hs.v; simp only; omega, by have := hs.r; simp only; omega, by have := hs.e; simp only; omega, by have := hs.g; simp only; omega, by have := hs.s; simp only; omega, by have := hs.b; simp only; omega⟩
      replace hRl := Nat.lt_of_lt_of_le hRl hxs.size
      clear c0 f0 hxs hm6 hv6 haw hvl hs
      generalize w3.setCell ⟨g, 0, none⟩ (.slice va (refPut C.v o.dot).length vc) = w4 at *
      generalize (refPut C.v o.dot) = V at *
      have hr4 := hr0.no hW
      by_cases hk : o.kind = 1
      · have hl : refLay { C with v := V } o = ({ C with v := V, regs := refSet C.regs o } : CollR) := by unfold refLay; rw [if_pos hk]
        rw [hl] at Hc
        have Hk := Lib.hid hk
        have b1 : (o.kind == 1) = true := by rw [beq_iff_eq]; exact hk
        clear hk hk8 hl
        have c1 := hC.cell 1 _ rfl
        have q0 := hO.cell 0 _ rfl
        have q1 := hO.cell 1 _ rfl
        have q2 := hO.cell 2 _ rfl
        have q3 := hO.cell 3 _ rfl
        have q4 := hO.cell 4 _ rfl
        have q5 := hO.cell 5 _ rfl
        have q6 := hO.cell 6 _ rfl
        have q7 := hO.cell 7 _ rfl
        have q8 := hO.cell 8 _ rfl
        have q9 := hO.cell 9 _ rfl
        have q10 := hO.cell 10 _ rfl
        go_wp2_with fail
        refine (refset_any w4 h.r C.regs h.rc o a c hm.r.rd (by have := hs6.r; simp only at this; omega) hm.r.nc).mono ?_
        rintro e w7 ⟨a7, c7, rfl, hown, hx7⟩
        clear c1 q0 q1 q2 q3 q4 q5 q6 q7 q8 q9 q10
        have hxm : Ext (blk h.r) w4 w7 := hx7.mono (fun _ _ h => h.elim)
        have hm7 := hm.setR (l := refSet C.regs o) rfl (hown.mono (by have := hW.size; omega)) hxm (fun ad hh => .inr (hown.base ad hh).1)
        have hal : ∀ ad, a7 = some ad → g + 1 + 1 < ad.block := fun ad ha => by have := (hown.base ad ha).1; omega
        have haw7 : ∀ i ad, ({ h with v := va, vc := vc, r := a7, rc := c7 } : Six).at i = some ad → ad.block ≠ g ∧ ad.block ≠ g + 1 + 1 := fun i ad hi => by
          by_cases h0 : i = 1
          · subst h0; have := hal ad hi; omega
          · exact haw6 i ad (by rcases i with _ | _ | _ | _ | _ | _ | i <;> first | exact hi | exact absurd rfl h0)
        replace hW := hW.comp hx7
        replace hC := hC.ext (by simp) hx7 (fun h => h)
        replace hR := hR.ext (by simp) hx7 (fun h => h)
        clear hm hxm hx7 hown haw6 hO
        have c1 := hC.cell 1 _ rfl
        have f0 := hC.fr 1
        go_upto_region 20 with fail
        have hxs : Ext (just g) w7 (w7.setCell ⟨g, 1, none⟩ (.slice a7 (refSet C.regs o).length c7)) := Ext.setCell _ _ _ rfl
        have hm := hm7.ext hxs (fun i ad hi e => by have e : ad.block = g := e; exact (haw7 i ad hi).1 e)
        have haw := haw7
        replace hC := hC.set 1 (.slice a7 (refSet C.regs o).length c7) (by simp)
        replace hR := hR.ext (by simp) hxs (fun e => by have e : g + 1 + 1 = g := e; omega)
        replace hW := hW.trans hxs (fun k hk e => by have e : k = g := e; omega)
        clear c1 f0 hxs hm7 haw7
        generalize w7.setCell ⟨g, 1, none⟩ (.slice a7 (refSet C.regs o).length c7) = w8 at *
        have c0 := hC.cell 0 _ rfl
        have c1 := hC.cell 1 _ rfl
        have c2 := hC.cell 2 _ rfl
        have c3 := hC.cell 3 _ rfl
        have c4 := hC.cell 4 _ rfl
        have c5 := hC.cell 5 _ rfl
        have z0 := hR.cell 0 _ rfl
        have z1 := hR.cell 1 _ rfl
        have z2 := hR.cell 2 _ rfl
        have z3 := hR.cell 3 _ rfl
        have z4 := hR.cell 4 _ rfl
        have z5 := hR.cell 5 _ rfl
        have f0 := hR.fr 0
        have f1 := hR.fr 1
        have f2 := hR.fr 2
        have f3 := hR.fr 3
        have f4 := hR.fr 4
        have f5 := hR.fr 5
        go_wp2_with fail
        have hbE := ((((((hR.set 0 (.slice va V.length vc) (by simp)).set 1 (.slice a7 (refSet C.regs o).length c7) (by simp)).set 2 (.slice h.e C.elems.length h.ec) (by simp)).set 3 (.slice h.g C.gone.length h.gc) (by simp)).set 4 (.slice h.s C.sums.length h.sc) (by simp)).set 5 (.slice h.b C.binds.length h.bc) (by simp))
        have hxE := (((((Ext.setCell (S := just (g + 1 + 1)) w8 ⟨g + 1 + 1, 0, none⟩ (.slice va V.length vc) rfl).comp (Ext.setCell _ ⟨g + 1 + 1, 1, none⟩ (.slice a7 (refSet C.regs o).length c7) rfl)).comp (Ext.setCell _ ⟨g + 1 + 1, 2, none⟩ (.slice h.e C.elems.length h.ec) rfl)).comp (Ext.setCell _ ⟨g + 1 + 1, 3, none⟩ (.slice h.g C.gone.length h.gc) rfl)).comp (Ext.setCell _ ⟨g + 1 + 1, 4, none⟩ (.slice h.s C.sums.length h.sc) rfl)).comp (Ext.setCell _ ⟨g + 1 + 1, 5, none⟩ (.slice h.b C.binds.length h.bc) rfl)
        clear z0 f0 z1 f1 z2 f2 z3 f3 z4 f4 z5 f5
        generalize (((((w8.setCell ⟨g + 1 + 1, 0, none⟩ (.slice va V.length vc)).setCell ⟨g + 1 + 1, 1, none⟩ (.slice a7 (refSet C.regs o).length c7)).setCell ⟨g + 1 + 1, 2, none⟩ (.slice h.e C.elems.length h.ec)).setCell ⟨g + 1 + 1, 3, none⟩ (.slice h.g C.gone.length h.gc)).setCell ⟨g + 1 + 1, 4, none⟩ (.slice h.s C.sums.length h.sc)).setCell ⟨g + 1 + 1, 5, none⟩ (.slice h.b C.binds.length h.bc) = wE at *
        have z0 := hbE.cell 0 _ rfl
        have z1 := hbE.cell 1 _ rfl
        have z2 := hbE.cell 2 _ rfl
        have z3 := hbE.cell 3 _ rfl
        have z4 := hbE.cell 4 _ rfl
        have z5 := hbE.cell 5 _ rfl
        refine bodyPost_ret (v := .tuple #[.agg #[.slice va V.length vc, .slice a7 (refSet C.regs o).length c7, .slice h.e C.elems.length h.ec, .slice h.g C.gone.length h.gc, .slice h.s C.sums.length h.sc, .slice h.b C.binds.length h.bc], .int .i64 0]) ?_ rfl ?_
        · simp [results]; go_simp
        rw [Hc.out.1, Hc.out.2]
        exact ⟨{ h with v := va, vc := vc, r := a7, rc := c7 }, rfl, hm.ext hxE (fun i ad hi e => by have e : ad.block = g + 1 + 1 := e; exact (haw i ad hi).2 e), hW.trans hxE (fun k hk e => by have e : k = g + 1 + 1 := e; omega)⟩
      by_cases hk : o.kind = 2
      · have hl : refLay { C with v := V } o = (if refIn C.gone o.dot = true then { C with v := V } else { C with v := V, elems := refAdd C.elems o } : CollR) := by unfold refLay; rw [if_neg (by omega), if_pos hk]
        rw [hl] at Hc
        have Hk := Lib.hid hk
        have b1 : (o.kind == 1) = false := by rw [beq_eq_false_iff_ne]; omega
        have b2 : (o.kind == 2) = true := by rw [beq_iff_eq]; exact hk
        clear hk hk8 hl
        have c3 := hC.cell 3 _ rfl
        have q0 := hO.cell 0 _ rfl
        have q1 := hO.cell 1 _ rfl
        have q2 := hO.cell 2 _ rfl
        have q5 := hO.cell 5 _ rfl
        go_wp2_with fail
        refine (in_any w4 h.g C.gone h.gc o.dot hm.g.rd (by have := hs6.g; simp only at this; omega)).mono ?_
        rintro e w5 ⟨rfl, hx5⟩
        replace hW := hW.comp hx5
        replace hC := hC.ext (by simp) hx5 (fun h => h)
        replace hO := hO.ext (by simp) hx5 (fun h => h)
        replace hR := hR.ext (by simp) hx5 (fun h => h)
        replace hm := hm.no hx5
        replace hRl := Nat.lt_of_lt_of_le hRl hx5.size
        clear hx5 c3 q0 q1 q2 q5
        cases hi : refIn C.gone o.dot with
        | true =>
          rw [if_pos hi] at Hc
          have haw := haw6
          have c0 := hC.cell 0 _ rfl
          have c1 := hC.cell 1 _ rfl
          have c2 := hC.cell 2 _ rfl
          have c3 := hC.cell 3 _ rfl
          have c4 := hC.cell 4 _ rfl
          have c5 := hC.cell 5 _ rfl
          have z0 := hR.cell 0 _ rfl
          have z1 := hR.cell 1 _ rfl
          have z2 := hR.cell 2 _ rfl
          have z3 := hR.cell 3 _ rfl
          have z4 := hR.cell 4 _ rfl
          have z5 := hR.cell 5 _ rfl
          have f0 := hR.fr 0
          have f1 := hR.fr 1
          have f2 := hR.fr 2
          have f3 := hR.fr 3
          have f4 := hR.fr 4
          have f5 := hR.fr 5
          go_wp2_with fail
          have hbE := ((((((hR.set 0 (.slice va V.length vc) (by simp)).set 1 (.slice h.r C.regs.length h.rc) (by simp)).set 2 (.slice h.e C.elems.length h.ec) (by simp)).set 3 (.slice h.g C.gone.length h.gc) (by simp)).set 4 (.slice h.s C.sums.length h.sc) (by simp)).set 5 (.slice h.b C.binds.length h.bc) (by simp))
          have hxE := (((((Ext.setCell (S := just (g + 1 + 1)) w5 ⟨g + 1 + 1, 0, none⟩ (.slice va V.length vc) rfl).comp (Ext.setCell _ ⟨g + 1 + 1, 1, none⟩ (.slice h.r C.regs.length h.rc) rfl)).comp (Ext.setCell _ ⟨g + 1 + 1, 2, none⟩ (.slice h.e C.elems.length h.ec) rfl)).comp (Ext.setCell _ ⟨g + 1 + 1, 3, none⟩ (.slice h.g C.gone.length h.gc) rfl)).comp (Ext.setCell _ ⟨g + 1 + 1, 4, none⟩ (.slice h.s C.sums.length h.sc) rfl)).comp (Ext.setCell _ ⟨g + 1 + 1, 5, none⟩ (.slice h.b C.binds.length h.bc) rfl)
          clear z0 f0 z1 f1 z2 f2 z3 f3 z4 f4 z5 f5
          generalize (((((w5.setCell ⟨g + 1 + 1, 0, none⟩ (.slice va V.length vc)).setCell ⟨g + 1 + 1, 1, none⟩ (.slice h.r C.regs.length h.rc)).setCell ⟨g + 1 + 1, 2, none⟩ (.slice h.e C.elems.length h.ec)).setCell ⟨g + 1 + 1, 3, none⟩ (.slice h.g C.gone.length h.gc)).setCell ⟨g + 1 + 1, 4, none⟩ (.slice h.s C.sums.length h.sc)).setCell ⟨g + 1 + 1, 5, none⟩ (.slice h.b C.binds.length h.bc) = wE at *
          have z0 := hbE.cell 0 _ rfl
          have z1 := hbE.cell 1 _ rfl
          have z2 := hbE.cell 2 _ rfl
          have z3 := hbE.cell 3 _ rfl
          have z4 := hbE.cell 4 _ rfl
          have z5 := hbE.cell 5 _ rfl
          refine bodyPost_ret (v := .tuple #[.agg #[.slice va V.length vc, .slice h.r C.regs.length h.rc, .slice h.e C.elems.length h.ec, .slice h.g C.gone.length h.gc, .slice h.s C.sums.length h.sc, .slice h.b C.binds.length h.bc], .int .i64 0]) ?_ rfl ?_
          · simp [results]; go_simp
          rw [Hc.out.1, Hc.out.2]
          exact ⟨{ h with v := va, vc := vc }, rfl, hm.ext hxE (fun i ad hi e => by have e : ad.block = g + 1 + 1 := e; exact (haw i ad hi).2 e), hW.trans hxE (fun k hk e => by have e : k = g + 1 + 1 := e; omega)⟩
        | false =>
          rw [if_neg (by rw [hi]; simp)] at Hc
          have c2 := hC.cell 2 _ rfl
          have q0 := hO.cell 0 _ rfl
          have q1 := hO.cell 1 _ rfl
          have q2 := hO.cell 2 _ rfl
          have q3 := hO.cell 3 _ rfl
          have q4 := hO.cell 4 _ rfl
          have q5 := hO.cell 5 _ rfl
          have q6 := hO.cell 6 _ rfl
          have q7 := hO.cell 7 _ rfl
          have q8 := hO.cell 8 _ rfl
          have q9 := hO.cell 9 _ rfl
          have q10 := hO.cell 10 _ rfl
          go_wp2_with fail
          refine (refadd_any w5 h.e C.elems h.ec o a c hm.e.rd (by have := hs6.e; simp only at this; omega) hm.e.nc).mono ?_
          rintro e w7 ⟨a7, c7, rfl, hown, hx7⟩
          clear c2 q0 q1 q2 q3 q4 q5 q6 q7 q8 q9 q10
          have hxm : Ext (blk h.e) w5 w7 := hx7.mono (fun _ _ h => h.elim)
          have hm7 := hm.setE (l := refAdd C.elems o) rfl (hown.mono (by have := hW.size; omega)) hxm (fun ad hh => .inr (hown.base ad hh).1)
          have hal : ∀ ad, a7 = some ad → g + 1 + 1 < ad.block := fun ad ha => by have := (hown.base ad ha).1; omega
          have haw7 : ∀ i ad, ({ h with v := va, vc := vc, e := a7, ec := c7 } : Six).at i = some ad → ad.block ≠ g ∧ ad.block ≠ g + 1 + 1 := fun i ad hi => by
            by_cases h0 : i = 2
            · subst h0; have := hal ad hi; omega
            · exact haw6 i ad (by rcases i with _ | _ | _ | _ | _ | _ | i <;> first | exact hi | exact absurd rfl h0)
          replace hW := hW.comp hx7
          replace hC := hC.ext (by simp) hx7 (fun h => h)
          replace hR := hR.ext (by simp) hx7 (fun h => h)
          clear hm hxm hx7 hown haw6 hO
          have c2 := hC.cell 2 _ rfl
          have f0 := hC.fr 2
          go_upto_region 20 with fail
          have hxs : Ext (just g) w7 (w7.setCell ⟨g, 2, none⟩ (.slice a7 (refAdd C.elems o).length c7)) := Ext.setCell _ _ _ rfl
          have hm := hm7.ext hxs (fun i ad hi e => by have e : ad.block = g := e; exact (haw7 i ad hi).1 e)
          have haw := haw7
          replace hC := hC.set 2 (.slice a7 (refAdd C.elems o).length c7) (by simp)
          replace hR := hR.ext (by simp) hxs (fun e => by have e : g + 1 + 1 = g := e; omega)
          replace hW := hW.trans hxs (fun k hk e => by have e : k = g := e; omega)
          clear c2 f0 hxs hm7 haw7
          generalize w7.setCell ⟨g, 2, none⟩ (.slice a7 (refAdd C.elems o).length c7) = w8 at *
          have c0 := hC.cell 0 _ rfl
          have c1 := hC.cell 1 _ rfl
          have c2 := hC.cell 2 _ rfl
          have c3 := hC.cell 3 _ rfl
          have c4 := hC.cell 4 _ rfl
          have c5 := hC.cell 5 _ rfl
          have z0 := hR.cell 0 _ rfl
          have z1 := hR.cell 1 _ rfl
          have z2 := hR.cell 2 _ rfl
          have z3 := hR.cell 3 _ rfl
          have z4 := hR.cell 4 _ rfl
          have z5 := hR.cell 5 _ rfl
          have f0 := hR.fr 0
          have f1 := hR.fr 1
          have f2 := hR.fr 2
          have f3 := hR.fr 3
          have f4 := hR.fr 4
          have f5 := hR.fr 5
          go_wp2_with fail
          have hbE := ((((((hR.set 0 (.slice va V.length vc) (by simp)).set 1 (.slice h.r C.regs.length h.rc) (by simp)).set 2 (.slice a7 (refAdd C.elems o).length c7) (by simp)).set 3 (.slice h.g C.gone.length h.gc) (by simp)).set 4 (.slice h.s C.sums.length h.sc) (by simp)).set 5 (.slice h.b C.binds.length h.bc) (by simp))
          have hxE := (((((Ext.setCell (S := just (g + 1 + 1)) w8 ⟨g + 1 + 1, 0, none⟩ (.slice va V.length vc) rfl).comp (Ext.setCell _ ⟨g + 1 + 1, 1, none⟩ (.slice h.r C.regs.length h.rc) rfl)).comp (Ext.setCell _ ⟨g + 1 + 1, 2, none⟩ (.slice a7 (refAdd C.elems o).length c7) rfl)).comp (Ext.setCell _ ⟨g + 1 + 1, 3, none⟩ (.slice h.g C.gone.length h.gc) rfl)).comp (Ext.setCell _ ⟨g + 1 + 1, 4, none⟩ (.slice h.s C.sums.length h.sc) rfl)).comp (Ext.setCell _ ⟨g + 1 + 1, 5, none⟩ (.slice h.b C.binds.length h.bc) rfl)
          clear z0 f0 z1 f1 z2 f2 z3 f3 z4 f4 z5 f5
          generalize (((((w8.setCell ⟨g + 1 + 1, 0, none⟩ (.slice va V.length vc)).setCell ⟨g + 1 + 1, 1, none⟩ (.slice h.r C.regs.length h.rc)).setCell ⟨g + 1 + 1, 2, none⟩ (.slice a7 (refAdd C.elems o).length c7)).setCell ⟨g + 1 + 1, 3, none⟩ (.slice h.g C.gone.length h.gc)).setCell ⟨g + 1 + 1, 4, none⟩ (.slice h.s C.sums.length h.sc)).setCell ⟨g + 1 + 1, 5, none⟩ (.slice h.b C.binds.length h.bc) = wE at *
          have z0 := hbE.cell 0 _ rfl
          have z1 := hbE.cell 1 _ rfl
          have z2 := hbE.cell 2 _ rfl
          have z3 := hbE.cell 3 _ rfl
          have z4 := hbE.cell 4 _ rfl
          have z5 := hbE.cell 5 _ rfl
          refine bodyPost_ret (v := .tuple #[.agg #[.slice va V.length vc, .slice h.r C.regs.length h.rc, .slice a7 (refAdd C.elems o).length c7, .slice h.g C.gone.length h.gc, .slice h.s C.sums.length h.sc, .slice h.b C.binds.length h.bc], .int .i64 0]) ?_ rfl ?_
          · simp [results]; go_simp
          rw [Hc.out.1, Hc.out.2]
          exact ⟨{ h with v := va, vc := vc, e := a7, ec := c7 }, rfl, hm.ext hxE (fun i ad hi e => by have e : ad.block = g + 1 + 1 := e; exact (haw i ad hi).2 e), hW.trans hxE (fun k hk e => by have e : k = g + 1 + 1 := e; omega)⟩
      by_cases hk : o.kind = 3
      · have hl : refLay { C with v := V } o = ({ C with v := V, gone := refGones C.gone o.dots, elems := refLeft (refGones C.gone o.dots) C.elems } : CollR) := by unfold refLay; rw [if_neg (by omega), if_neg (by omega), if_pos hk]
        rw [hl] at Hc
        have Hk := Lib.hid hk
        have b1 : (o.kind == 1) = false := by rw [beq_eq_false_iff_ne]; omega
        have b2 : (o.kind == 2) = false := by rw [beq_eq_false_iff_ne]; omega
        have b3 : (o.kind == 3) = true := by rw [beq_iff_eq]; exact hk
        clear hk hk8 hl
        have c0 := hC.cell 0 _ rfl
        have c1 := hC.cell 1 _ rfl
        have c2 := hC.cell 2 _ rfl
        have c3 := hC.cell 3 _ rfl
        have c4 := hC.cell 4 _ rfl
        have c5 := hC.cell 5 _ rfl
        have q0 := hO.cell 0 _ rfl
        have q1 := hO.cell 1 _ rfl
        have q2 := hO.cell 2 _ rfl
        have q3 := hO.cell 3 _ rfl
        have q4 := hO.cell 4 _ rfl
        have q5 := hO.cell 5 _ rfl
        have q6 := hO.cell 6 _ rfl
        have q7 := hO.cell 7 _ rfl
        have q8 := hO.cell 8 _ rfl
        have q9 := hO.cell 9 _ rfl
        have q10 := hO.cell 10 _ rfl
        go_wp2_with fail
        refine (refrem_any w4 B { C with v := V } { h with v := va, vc := vc } o a c hm (by have := hW.size; omega) (hs6.up (by omega)) hr4 (dots_le8 Hck.out Hk.out)).mono ?_
        rintro e w7 ⟨h7, rfl, hm7, hnr7, hx7⟩
        unfold CollR.val
        clear c0 c1 c2 c3 c4 c5 q0 q1 q2 q3 q4 q5 q6 q7 q8 q9 q10
        have haw7 : ∀ i ad, h7.at i = some ad → ad.block ≠ g ∧ ad.block ≠ g + 1 + 1 := fun i ad hi => by
          rcases hnr7 i ad hi with ⟨x, hx, hb⟩ | q
          · have := haw6 i x hx; omega
          · omega
        replace hW := hW.comp hx7
        replace hC := hC.ext (by simp) hx7 (fun h => h)
        replace hR := hR.ext (by simp) hx7 (fun h => h)
        clear hm hx7 haw6 hO hnr7
        have c0 := hC.cell 0 _ rfl
        have c1 := hC.cell 1 _ rfl
        have c2 := hC.cell 2 _ rfl
        have c3 := hC.cell 3 _ rfl
        have c4 := hC.cell 4 _ rfl
        have c5 := hC.cell 5 _ rfl
        have f0 := hC.fr 0
        have f1 := hC.fr 1
        have f2 := hC.fr 2
        have f3 := hC.fr 3
        have f4 := hC.fr 4
        have f5 := hC.fr 5
        go_upto_region 20 with fail
        have hxs : Ext (just g) w7 ((((((w7.setCell ⟨g, 0, none⟩ (.slice h7.v V.length h7.vc)).setCell ⟨g, 1, none⟩ (.slice h7.r C.regs.length h7.rc)).setCell ⟨g, 2, none⟩ (.slice h7.e (refLeft (refGones C.gone o.dots) C.elems).length h7.ec)).setCell ⟨g, 3, none⟩ (.slice h7.g (refGones C.gone o.dots).length h7.gc)).setCell ⟨g, 4, none⟩ (.slice h7.s C.sums.length h7.sc)).setCell ⟨g, 5, none⟩ (.slice h7.b C.binds.length h7.bc)) := (((((Ext.setCell (S := just g) w7 ⟨g, 0, none⟩ (.slice h7.v V.length h7.vc) rfl).comp (Ext.setCell _ ⟨g, 1, none⟩ (.slice h7.r C.regs.length h7.rc) rfl)).comp (Ext.setCell _ ⟨g, 2, none⟩ (.slice h7.e (refLeft (refGones C.gone o.dots) C.elems).length h7.ec) rfl)).comp (Ext.setCell _ ⟨g, 3, none⟩ (.slice h7.g (refGones C.gone o.dots).length h7.gc) rfl)).comp (Ext.setCell _ ⟨g, 4, none⟩ (.slice h7.s C.sums.length h7.sc) rfl)).comp (Ext.setCell _ ⟨g, 5, none⟩ (.slice h7.b C.binds.length h7.bc) rfl)
        have hm := hm7.ext hxs (fun i ad hi e => by have e : ad.block = g := e; exact (haw7 i ad hi).1 e)
        have haw := haw7
        replace hC := ((((((hC.set 0 (.slice h7.v V.length h7.vc) (by simp)).set 1 (.slice h7.r C.regs.length h7.rc) (by simp)).set 2 (.slice h7.e (refLeft (refGones C.gone o.dots) C.elems).length h7.ec) (by simp)).set 3 (.slice h7.g (refGones C.gone o.dots).length h7.gc) (by simp)).set 4 (.slice h7.s C.sums.length h7.sc) (by simp)).set 5 (.slice h7.b C.binds.length h7.bc) (by simp))
        replace hR := hR.ext (by simp) hxs (fun e => by have e : g + 1 + 1 = g := e; omega)
        replace hW := hW.trans hxs (fun k hk e => by have e : k = g := e; omega)
        clear c0 c1 c2 c3 c4 c5 f0 f1 f2 f3 f4 f5 hxs hm7 haw7
        generalize (((((w7.setCell ⟨g, 0, none⟩ (.slice h7.v V.length h7.vc)).setCell ⟨g, 1, none⟩ (.slice h7.r C.regs.length h7.rc)).setCell ⟨g, 2, none⟩ (.slice h7.e (refLeft (refGones C.gone o.dots) C.elems).length h7.ec)).setCell ⟨g, 3, none⟩ (.slice h7.g (refGones C.gone o.dots).length h7.gc)).setCell ⟨g, 4, none⟩ (.slice h7.s C.sums.length h7.sc)).setCell ⟨g, 5, none⟩ (.slice h7.b C.binds.length h7.bc) = w8 at *
        have c0 := hC.cell 0 _ rfl
        have c1 := hC.cell 1 _ rfl
        have c2 := hC.cell 2 _ rfl
        have c3 := hC.cell 3 _ rfl
        have c4 := hC.cell 4 _ rfl
        have c5 := hC.cell 5 _ rfl
        have z0 := hR.cell 0 _ rfl
        have z1 := hR.cell 1 _ rfl
        have z2 := hR.cell 2 _ rfl
        have z3 := hR.cell 3 _ rfl
        have z4 := hR.cell 4 _ rfl
        have z5 := hR.cell 5 _ rfl
        have f0 := hR.fr 0
        have f1 := hR.fr 1
        have f2 := hR.fr 2
        have f3 := hR.fr 3
        have f4 := hR.fr 4
        have f5 := hR.fr 5
        go_wp2_with fail
        have hbE := ((((((hR.set 0 (.slice h7.v V.length h7.vc) (by simp)).set 1 (.slice h7.r C.regs.length h7.rc) (by simp)).set 2 (.slice h7.e (refLeft (refGones C.gone o.dots) C.elems).length h7.ec) (by simp)).set 3 (.slice h7.g (refGones C.gone o.dots).length h7.gc) (by simp)).set 4 (.slice h7.s C.sums.length h7.sc) (by simp)).set 5 (.slice h7.b C.binds.length h7.bc) (by simp))
        have hxE := (((((Ext.setCell (S := just (g + 1 + 1)) w8 ⟨g + 1 + 1, 0, none⟩ (.slice h7.v V.length h7.vc) rfl).comp (Ext.setCell _ ⟨g + 1 + 1, 1, none⟩ (.slice h7.r C.regs.length h7.rc) rfl)).comp (Ext.setCell _ ⟨g + 1 + 1, 2, none⟩ (.slice h7.e (refLeft (refGones C.gone o.dots) C.elems).length h7.ec) rfl)).comp (Ext.setCell _ ⟨g + 1 + 1, 3, none⟩ (.slice h7.g (refGones C.gone o.dots).length h7.gc) rfl)).comp (Ext.setCell _ ⟨g + 1 + 1, 4, none⟩ (.slice h7.s C.sums.length h7.sc) rfl)).comp (Ext.setCell _ ⟨g + 1 + 1, 5, none⟩ (.slice h7.b C.binds.length h7.bc) rfl)
        clear z0 f0 z1 f1 z2 f2 z3 f3 z4 f4 z5 f5
        generalize (((((w8.setCell ⟨g + 1 + 1, 0, none⟩ (.slice h7.v V.length h7.vc)).setCell ⟨g + 1 + 1, 1, none⟩ (.slice h7.r C.regs.length h7.rc)).setCell ⟨g + 1 + 1, 2, none⟩ (.slice h7.e (refLeft (refGones C.gone o.dots) C.elems).length h7.ec)).setCell ⟨g + 1 + 1, 3, none⟩ (.slice h7.g (refGones C.gone o.dots).length h7.gc)).setCell ⟨g + 1 + 1, 4, none⟩ (.slice h7.s C.sums.length h7.sc)).setCell ⟨g + 1 + 1, 5, none⟩ (.slice h7.b C.binds.length h7.bc) = wE at *
        have z0 := hbE.cell 0 _ rfl
        have z1 := hbE.cell 1 _ rfl
        have z2 := hbE.cell 2 _ rfl
        have z3 := hbE.cell 3 _ rfl
        have z4 := hbE.cell 4 _ rfl
        have z5 := hbE.cell 5 _ rfl
        refine bodyPost_ret (v := .tuple #[.agg #[.slice h7.v V.length h7.vc, .slice h7.r C.regs.length h7.rc, .slice h7.e (refLeft (refGones C.gone o.dots) C.elems).length h7.ec, .slice h7.g (refGones C.gone o.dots).length h7.gc, .slice h7.s C.sums.length h7.sc, .slice h7.b C.binds.length h7.bc], .int .i64 0]) ?_ rfl ?_
        · simp [results]; go_simp
        rw [Hc.out.1, Hc.out.2]
        exact ⟨h7, rfl, hm.ext hxE (fun i ad hi e => by have e : ad.block = g + 1 + 1 := e; exact (haw i ad hi).2 e), hW.trans hxE (fun k hk e => by have e : k = g + 1 + 1 := e; omega)⟩
      by_cases hk : o.kind = 4
      · have hl : refLay { C with v := V } o = ({ C with v := V, sums := refCount C.sums o } : CollR) := by unfold refLay; rw [if_neg (by omega), if_neg (by omega), if_neg (by omega), if_pos hk]
        rw [hl] at Hc
        have Hk := Lib.hid hk
        have b1 : (o.kind == 1) = false := by rw [beq_eq_false_iff_ne]; omega
        have b2 : (o.kind == 2) = false := by rw [beq_eq_false_iff_ne]; omega
        have b3 : (o.kind == 3) = false := by rw [beq_eq_false_iff_ne]; omega
        have b4 : (o.kind == 4) = true := by rw [beq_iff_eq]; exact hk
        clear hk hk8 hl
        have c4 := hC.cell 4 _ rfl
        have q0 := hO.cell 0 _ rfl
        have q1 := hO.cell 1 _ rfl
        have q2 := hO.cell 2 _ rfl
        have q3 := hO.cell 3 _ rfl
        have q4 := hO.cell 4 _ rfl
        have q5 := hO.cell 5 _ rfl
        have q6 := hO.cell 6 _ rfl
        have q7 := hO.cell 7 _ rfl
        have q8 := hO.cell 8 _ rfl
        have q9 := hO.cell 9 _ rfl
        have q10 := hO.cell 10 _ rfl
        go_wp2_with fail
        refine (refcount_any w4 h.s C.sums h.sc o a c hm.s.rd (by have := hs6.s; simp only at this; omega) hm.s.nc).mono ?_
        rintro e w7 ⟨a7, c7, rfl, hown, hx7⟩
        clear c4 q0 q1 q2 q3 q4 q5 q6 q7 q8 q9 q10
        have hxm : Ext (blk h.s) w4 w7 := hx7.mono (fun _ _ h => h.elim)
        have hm7 := hm.setS (l := refCount C.sums o) rfl (hown.mono (by have := hW.size; omega)) hxm (fun ad hh => .inr (hown.base ad hh).1)
        have hal : ∀ ad, a7 = some ad → g + 1 + 1 < ad.block := fun ad ha => by have := (hown.base ad ha).1; omega
        have haw7 : ∀ i ad, ({ h with v := va, vc := vc, s := a7, sc := c7 } : Six).at i = some ad → ad.block ≠ g ∧ ad.block ≠ g + 1 + 1 := fun i ad hi => by
          by_cases h0 : i = 4
          · subst h0; have := hal ad hi; omega
          · exact haw6 i ad (by rcases i with _ | _ | _ | _ | _ | _ | i <;> first | exact hi | exact absurd rfl h0)
        replace hW := hW.comp hx7
        replace hC := hC.ext (by simp) hx7 (fun h => h)
        replace hR := hR.ext (by simp) hx7 (fun h => h)
        clear hm hxm hx7 hown haw6 hO
        have c4 := hC.cell 4 _ rfl
        have f0 := hC.fr 4
        go_upto_region 20 with fail
        have hxs : Ext (just g) w7 (w7.setCell ⟨g, 4, none⟩ (.slice a7 (refCount C.sums o).length c7)) := Ext.setCell _ _ _ rfl
        have hm := hm7.ext hxs (fun i ad hi e => by have e : ad.block = g := e; exact (haw7 i ad hi).1 e)
        have haw := haw7
        replace hC := hC.set 4 (.slice a7 (refCount C.sums o).length c7) (by simp)
        replace hR := hR.ext (by simp) hxs (fun e => by have e : g + 1 + 1 = g := e; omega)
        replace hW := hW.trans hxs (fun k hk e => by have e : k = g := e; omega)
        clear c4 f0 hxs hm7 haw7
        generalize w7.setCell ⟨g, 4, none⟩ (.slice a7 (refCount C.sums o).length c7) = w8 at *
        have c0 := hC.cell 0 _ rfl
        have c1 := hC.cell 1 _ rfl
        have c2 := hC.cell 2 _ rfl
        have c3 := hC.cell 3 _ rfl
        have c4 := hC.cell 4 _ rfl
        have c5 := hC.cell 5 _ rfl
        have z0 := hR.cell 0 _ rfl
        have z1 := hR.cell 1 _ rfl
        have z2 := hR.cell 2 _ rfl
        have z3 := hR.cell 3 _ rfl
        have z4 := hR.cell 4 _ rfl
        have z5 := hR.cell 5 _ rfl
        have f0 := hR.fr 0
        have f1 := hR.fr 1
        have f2 := hR.fr 2
        have f3 := hR.fr 3
        have f4 := hR.fr 4
        have f5 := hR.fr 5
        go_wp2_with fail
        have hbE := ((((((hR.set 0 (.slice va V.length vc) (by simp)).set 1 (.slice h.r C.regs.length h.rc) (by simp)).set 2 (.slice h.e C.elems.length h.ec) (by simp)).set 3 (.slice h.g C.gone.length h.gc) (by simp)).set 4 (.slice a7 (refCount C.sums o).length c7) (by simp)).set 5 (.slice h.b C.binds.length h.bc) (by simp))
        have hxE := (((((Ext.setCell (S := just (g + 1 + 1)) w8 ⟨g + 1 + 1, 0, none⟩ (.slice va V.length vc) rfl).comp (Ext.setCell _ ⟨g + 1 + 1, 1, none⟩ (.slice h.r C.regs.length h.rc) rfl)).comp (Ext.setCell _ ⟨g + 1 + 1, 2, none⟩ (.slice h.e C.elems.length h.ec) rfl)).comp (Ext.setCell _ ⟨g + 1 + 1, 3, none⟩ (.slice h.g C.gone.length h.gc) rfl)).comp (Ext.setCell _ ⟨g + 1 + 1, 4, none⟩ (.slice a7 (refCount C.sums o).length c7) rfl)).comp (Ext.setCell _ ⟨g + 1 + 1, 5, none⟩ (.slice h.b C.binds.length h.bc) rfl)
        clear z0 f0 z1 f1 z2 f2 z3 f3 z4 f4 z5 f5
        generalize (((((w8.setCell ⟨g + 1 + 1, 0, none⟩ (.slice va V.length vc)).setCell ⟨g + 1 + 1, 1, none⟩ (.slice h.r C.regs.length h.rc)).setCell ⟨g + 1 + 1, 2, none⟩ (.slice h.e C.elems.length h.ec)).setCell ⟨g + 1 + 1, 3, none⟩ (.slice h.g C.gone.length h.gc)).setCell ⟨g + 1 + 1, 4, none⟩ (.slice a7 (refCount C.sums o).length c7)).setCell ⟨g + 1 + 1, 5, none⟩ (.slice h.b C.binds.length h.bc) = wE at *
        have z0 := hbE.cell 0 _ rfl
        have z1 := hbE.cell 1 _ rfl
        have z2 := hbE.cell 2 _ rfl
        have z3 := hbE.cell 3 _ rfl
        have z4 := hbE.cell 4 _ rfl
        have z5 := hbE.cell 5 _ rfl
        refine bodyPost_ret (v := .tuple #[.agg #[.slice va V.length vc, .slice h.r C.regs.length h.rc, .slice h.e C.elems.length h.ec, .slice h.g C.gone.length h.gc, .slice a7 (refCount C.sums o).length c7, .slice h.b C.binds.length h.bc], .int .i64 0]) ?_ rfl ?_
        · simp [results]; go_simp
        rw [Hc.out.1, Hc.out.2]
        exact ⟨{ h with v := va, vc := vc, s := a7, sc := c7 }, rfl, hm.ext hxE (fun i ad hi e => by have e : ad.block = g + 1 + 1 := e; exact (haw i ad hi).2 e), hW.trans hxE (fun k hk e => by have e : k = g + 1 + 1 := e; omega)⟩
      have hk : o.kind = 5 := by omega
      have hl : refLay { C with v := V } o = ({ C with v := V, binds := refBind C.binds o } : CollR) := by unfold refLay; rw [if_neg (by omega), if_neg (by omega), if_neg (by omega), if_neg (by omega), if_pos hk]
      rw [hl] at Hc
      have Hk := Lib.hid hk
      have b1 : (o.kind == 1) = false := by rw [beq_eq_false_iff_ne]; omega
      have b2 : (o.kind == 2) = false := by rw [beq_eq_false_iff_ne]; omega
      have b3 : (o.kind == 3) = false := by rw [beq_eq_false_iff_ne]; omega
      have b4 : (o.kind == 4) = false := by rw [beq_eq_false_iff_ne]; omega
      have b5 : (o.kind == 5) = true := by rw [beq_iff_eq]; exact hk
      clear hk hk8 hl
      have c5 := hC.cell 5 _ rfl
      have q0 := hO.cell 0 _ rfl
      have q1 := hO.cell 1 _ rfl
      have q2 := hO.cell 2 _ rfl
      have q3 := hO.cell 3 _ rfl
      have q4 := hO.cell 4 _ rfl
      have q5 := hO.cell 5 _ rfl
      have q6 := hO.cell 6 _ rfl
      have q7 := hO.cell 7 _ rfl
      have q8 := hO.cell 8 _ rfl
      have q9 := hO.cell 9 _ rfl
      have q10 := hO.cell 10 _ rfl
      go_wp2_with fail
      refine (refbind_any w4 h.b C.binds h.bc o a c hm.b.rd (by have := hs6.b; simp only at this; omega) hm.b.nc).mono ?_
      rintro e w7 ⟨a7, c7, rfl, hown, hx7⟩
      clear c5 q0 q1 q2 q3 q4 q5 q6 q7 q8 q9 q10
      have hxm : Ext (blk h.b) w4 w7 := hx7.mono (fun _ _ h => h.elim)
      have hm7 := hm.setB (l := refBind C.binds o) rfl (hown.mono (by have := hW.size; omega)) hxm (fun ad hh => .inr (hown.base ad hh).1)
      have hal : ∀ ad, a7 = some ad → g + 1 + 1 < ad.block := fun ad ha => by have := (hown.base ad ha).1; omega
      have haw7 : ∀ i ad, ({ h with v := va, vc := vc, b := a7, bc := c7 } : Six).at i = some ad → ad.block ≠ g ∧ ad.block ≠ g + 1 + 1 := fun i ad hi => by
        by_cases h0 : i = 5
        · subst h0; have := hal ad hi; omega
        · exact haw6 i ad (by rcases i with _ | _ | _ | _ | _ | _ | i <;> first | exact hi | exact absurd rfl h0)
      replace hW := hW.comp hx7
      replace hC := hC.ext (by simp) hx7 (fun h => h)
      replace hR := hR.ext (by simp) hx7 (fun h => h)
      clear hm hxm hx7 hown haw6 hO
      have c5 := hC.cell 5 _ rfl
      have f0 := hC.fr 5
      go_upto_region 20 with fail
      have hxs : Ext (just g) w7 (w7.setCell ⟨g, 5, none⟩ (.slice a7 (refBind C.binds o).length c7)) := Ext.setCell _ _ _ rfl
      have hm := hm7.ext hxs (fun i ad hi e => by have e : ad.block = g := e; exact (haw7 i ad hi).1 e)
      have haw := haw7
      replace hC := hC.set 5 (.slice a7 (refBind C.binds o).length c7) (by simp)
      replace hR := hR.ext (by simp) hxs (fun e => by have e : g + 1 + 1 = g := e; omega)
      replace hW := hW.trans hxs (fun k hk e => by have e : k = g := e; omega)
      clear c5 f0 hxs hm7 haw7
      generalize w7.setCell ⟨g, 5, none⟩ (.slice a7 (refBind C.binds o).length c7) = w8 at *
      have c0 := hC.cell 0 _ rfl
      have c1 := hC.cell 1 _ rfl
      have c2 := hC.cell 2 _ rfl
      have c3 := hC.cell 3 _ rfl
      have c4 := hC.cell 4 _ rfl
      have c5 := hC.cell 5 _ rfl
      have z0 := hR.cell 0 _ rfl
      have z1 := hR.cell 1 _ rfl
      have z2 := hR.cell 2 _ rfl
      have z3 := hR.cell 3 _ rfl
      have z4 := hR.cell 4 _ rfl
      have z5 := hR.cell 5 _ rfl
      have f0 := hR.fr 0
      have f1 := hR.fr 1
      have f2 := hR.fr 2
      have f3 := hR.fr 3
      have f4 := hR.fr 4
      have f5 := hR.fr 5
      go_wp2_with fail
      have hbE := ((((((hR.set 0 (.slice va V.length vc) (by simp)).set 1 (.slice h.r C.regs.length h.rc) (by simp)).set 2 (.slice h.e C.elems.length h.ec) (by simp)).set 3 (.slice h.g C.gone.length h.gc) (by simp)).set 4 (.slice h.s C.sums.length h.sc) (by simp)).set 5 (.slice a7 (refBind C.binds o).length c7) (by simp))
      have hxE := (((((Ext.setCell (S := just (g + 1 + 1)) w8 ⟨g + 1 + 1, 0, none⟩ (.slice va V.length vc) rfl).comp (Ext.setCell _ ⟨g + 1 + 1, 1, none⟩ (.slice h.r C.regs.length h.rc) rfl)).comp (Ext.setCell _ ⟨g + 1 + 1, 2, none⟩ (.slice h.e C.elems.length h.ec) rfl)).comp (Ext.setCell _ ⟨g + 1 + 1, 3, none⟩ (.slice h.g C.gone.length h.gc) rfl)).comp (Ext.setCell _ ⟨g + 1 + 1, 4, none⟩ (.slice h.s C.sums.length h.sc) rfl)).comp (Ext.setCell _ ⟨g + 1 + 1, 5, none⟩ (.slice a7 (refBind C.binds o).length c7) rfl)
      clear z0 f0 z1 f1 z2 f2 z3 f3 z4 f4 z5 f5
      generalize (((((w8.setCell ⟨g + 1 + 1, 0, none⟩ (.slice va V.length vc)).setCell ⟨g + 1 + 1, 1, none⟩ (.slice h.r C.regs.length h.rc)).setCell ⟨g + 1 + 1, 2, none⟩ (.slice h.e C.elems.length h.ec)).setCell ⟨g + 1 + 1, 3, none⟩ (.slice h.g C.gone.length h.gc)).setCell ⟨g + 1 + 1, 4, none⟩ (.slice h.s C.sums.length h.sc)).setCell ⟨g + 1 + 1, 5, none⟩ (.slice a7 (refBind C.binds o).length c7) = wE at *
      have z0 := hbE.cell 0 _ rfl
      have z1 := hbE.cell 1 _ rfl
      have z2 := hbE.cell 2 _ rfl
      have z3 := hbE.cell 3 _ rfl
      have z4 := hbE.cell 4 _ rfl
      have z5 := hbE.cell 5 _ rfl
      refine bodyPost_ret (v := .tuple #[.agg #[.slice va V.length vc, .slice h.r C.regs.length h.rc, .slice h.e C.elems.length h.ec, .slice h.g C.gone.length h.gc, .slice h.s C.sums.length h.sc, .slice a7 (refBind C.binds o).length c7], .int .i64 0]) ?_ rfl ?_
      · simp [results]; go_simp
      rw [Hc.out.1, Hc.out.2]
      exact ⟨{ h with v := va, vc := vc, b := a7, bc := c7 }, rfl, hm.ext hxE (fun i ad hi e => by have e : ad.block = g + 1 + 1 := e; exact (haw i ad hi).2 e), hW.trans hxE (fun k hk e => by have e : k = g + 1 + 1 := e; omega)⟩
    · have Hc := Lib.hid (hc1 hck hst)
      have d1 : ((stepErr C.v o.dot : Int) != 0) = true := by rw [bne_iff_ne]; omega
      clear hc1 hc2 hv3 hck
      generalize stepErr C.v o.dot = E1 at *
      have c0 := hC.cell 0 _ rfl
      have c1 := hC.cell 1 _ rfl
      have c2 := hC.cell 2 _ rfl
      have c3 := hC.cell 3 _ rfl
      have c4 := hC.cell 4 _ rfl
      have c5 := hC.cell 5 _ rfl
      have z0 := hR.cell 0 _ rfl
      have z1 := hR.cell 1 _ rfl
      have z2 := hR.cell 2 _ rfl
      have z3 := hR.cell 3 _ rfl
      have z4 := hR.cell 4 _ rfl
      have z5 := hR.cell 5 _ rfl
      have f0 := hR.fr 0
      have f1 := hR.fr 1
      have f2 := hR.fr 2
      have f3 := hR.fr 3
      have f4 := hR.fr 4
      have f5 := hR.fr 5
      go_wp2_with fail
      have hbE := ((((((hR.set 0 (.slice h.v C.v.length h.vc) (by simp)).set 1 (.slice h.r C.regs.length h.rc) (by simp)).set 2 (.slice h.e C.elems.length h.ec) (by simp)).set 3 (.slice h.g C.gone.length h.gc) (by simp)).set 4 (.slice h.s C.sums.length h.sc) (by simp)).set 5 (.slice h.b C.binds.length h.bc) (by simp))
      have hxE := (((((Ext.setCell (S := just (g + 1 + 1)) w3 ⟨g + 1 + 1, 0, none⟩ (.slice h.v C.v.length h.vc) rfl).comp (Ext.setCell _ ⟨g + 1 + 1, 1, none⟩ (.slice h.r C.regs.length h.rc) rfl)).comp (Ext.setCell _ ⟨g + 1 + 1, 2, none⟩ (.slice h.e C.elems.length h.ec) rfl)).comp (Ext.setCell _ ⟨g + 1 + 1, 3, none⟩ (.slice h.g C.gone.length h.gc) rfl)).comp (Ext.setCell _ ⟨g + 1 + 1, 4, none⟩ (.slice h.s C.sums.length h.sc) rfl)).comp (Ext.setCell _ ⟨g + 1 + 1, 5, none⟩ (.slice h.b C.binds.length h.bc) rfl)
      clear z0 f0 z1 f1 z2 f2 z3 f3 z4 f4 z5 f5
      generalize (((((w3.setCell ⟨g + 1 + 1, 0, none⟩ (.slice h.v C.v.length h.vc)).setCell ⟨g + 1 + 1, 1, none⟩ (.slice h.r C.regs.length h.rc)).setCell ⟨g + 1 + 1, 2, none⟩ (.slice h.e C.elems.length h.ec)).setCell ⟨g + 1 + 1, 3, none⟩ (.slice h.g C.gone.length h.gc)).setCell ⟨g + 1 + 1, 4, none⟩ (.slice h.s C.sums.length h.sc)).setCell ⟨g + 1 + 1, 5, none⟩ (.slice h.b C.binds.length h.bc) = wE at *
      have z0 := hbE.cell 0 _ rfl
      have z1 := hbE.cell 1 _ rfl
      have z2 := hbE.cell 2 _ rfl
      have z3 := hbE.cell 3 _ rfl
      have z4 := hbE.cell 4 _ rfl
      have z5 := hbE.cell 5 _ rfl
      refine bodyPost_ret (v := .tuple #[.agg #[.slice h.v C.v.length h.vc, .slice h.r C.regs.length h.rc, .slice h.e C.elems.length h.ec, .slice h.g C.gone.length h.gc, .slice h.s C.sums.length h.sc, .slice h.b C.binds.length h.bc], .int .i64 (E1 : Nat)]) ?_ rfl ?_
      · simp [results]; go_simp
      rw [Hc.out.1, Hc.out.2]
      exact ⟨h, rfl, hm.ext hxE (fun i ad hi e => by have e : ad.block = g + 1 + 1 := e; exact (haw i ad hi).2 e), hW.trans hxE (fun k hk e => by have e : k = g + 1 + 1 := e; omega)⟩
  · have Hc := Lib.hid (hc0 hck)
    have d1 : ((checkOp o : Int) != 0) = true := by rw [bne_iff_ne]; omega
    clear hc0 hc1 hc2
    generalize checkOp o = E1 at *
    have c0 := hC.cell 0 _ rfl
    have c1 := hC.cell 1 _ rfl
    have c2 := hC.cell 2 _ rfl
    have c3 := hC.cell 3 _ rfl
    have c4 := hC.cell 4 _ rfl
    have c5 := hC.cell 5 _ rfl
    have z0 := hR.cell 0 _ rfl
    have z1 := hR.cell 1 _ rfl
    have z2 := hR.cell 2 _ rfl
    have z3 := hR.cell 3 _ rfl
    have z4 := hR.cell 4 _ rfl
    have z5 := hR.cell 5 _ rfl
    have f0 := hR.fr 0
    have f1 := hR.fr 1
    have f2 := hR.fr 2
    have f3 := hR.fr 3
    have f4 := hR.fr 4
    have f5 := hR.fr 5
    go_wp2_with fail
    have hbE := ((((((hR.set 0 (.slice h.v C.v.length h.vc) (by simp)).set 1 (.slice h.r C.regs.length h.rc) (by simp)).set 2 (.slice h.e C.elems.length h.ec) (by simp)).set 3 (.slice h.g C.gone.length h.gc) (by simp)).set 4 (.slice h.s C.sums.length h.sc) (by simp)).set 5 (.slice h.b C.binds.length h.bc) (by simp))
    have hxE := (((((Ext.setCell (S := just (g + 1 + 1)) w2 ⟨g + 1 + 1, 0, none⟩ (.slice h.v C.v.length h.vc) rfl).comp (Ext.setCell _ ⟨g + 1 + 1, 1, none⟩ (.slice h.r C.regs.length h.rc) rfl)).comp (Ext.setCell _ ⟨g + 1 + 1, 2, none⟩ (.slice h.e C.elems.length h.ec) rfl)).comp (Ext.setCell _ ⟨g + 1 + 1, 3, none⟩ (.slice h.g C.gone.length h.gc) rfl)).comp (Ext.setCell _ ⟨g + 1 + 1, 4, none⟩ (.slice h.s C.sums.length h.sc) rfl)).comp (Ext.setCell _ ⟨g + 1 + 1, 5, none⟩ (.slice h.b C.binds.length h.bc) rfl)
    clear z0 f0 z1 f1 z2 f2 z3 f3 z4 f4 z5 f5
    generalize (((((w2.setCell ⟨g + 1 + 1, 0, none⟩ (.slice h.v C.v.length h.vc)).setCell ⟨g + 1 + 1, 1, none⟩ (.slice h.r C.regs.length h.rc)).setCell ⟨g + 1 + 1, 2, none⟩ (.slice h.e C.elems.length h.ec)).setCell ⟨g + 1 + 1, 3, none⟩ (.slice h.g C.gone.length h.gc)).setCell ⟨g + 1 + 1, 4, none⟩ (.slice h.s C.sums.length h.sc)).setCell ⟨g + 1 + 1, 5, none⟩ (.slice h.b C.binds.length h.bc) = wE at *
    have z0 := hbE.cell 0 _ rfl
    have z1 := hbE.cell 1 _ rfl
    have z2 := hbE.cell 2 _ rfl
    have z3 := hbE.cell 3 _ rfl
    have z4 := hbE.cell 4 _ rfl
    have z5 := hbE.cell 5 _ rfl
    refine bodyPost_ret (v := .tuple #[.agg #[.slice h.v C.v.length h.vc, .slice h.r C.regs.length h.rc, .slice h.e C.elems.length h.ec, .slice h.g C.gone.length h.gc, .slice h.s C.sums.length h.sc, .slice h.b C.binds.length h.bc], .int .i64 (E1 : Nat)]) ?_ rfl ?_
    · simp [results]; go_simp
    rw [Hc.out.1, Hc.out.2]
    exact ⟨h, rfl, hm.ext hxE (fun i ad hi e => by have e : ad.block = g + 1 + 1 := e; exact (haw i ad hi).2 e), hW.trans hxE (fun k hk e => by have e : k = g + 1 + 1 := e; omega)⟩
end Go.Proofs.YtejmmkjpncpedaaGreat
