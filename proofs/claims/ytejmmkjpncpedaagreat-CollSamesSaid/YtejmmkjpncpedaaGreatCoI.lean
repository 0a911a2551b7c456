/- Walks of the package coll: set, mean. -/
import Derived.Test.YtejmmkjpncpedaaGreatCoF
import Derived.Test.YtejmmkjpncpedaaGreatRowC
namespace Go.Proofs.YtejmmkjpncpedaaGreat
open Go.RowKit Go.Esc
set_option linter.unusedVariables false
set_option linter.unusedSimpArgs false
theorem dcmp_gt (a b : DotR) : 0 < a.cmp b ↔ b.lt a = true := by
  have hz := dcmp_zero a b
  have hn := a.cmp_lt b
  constructor
  · intro h
    cases q : b.lt a with
    | true => rfl
    | false =>
      exfalso
      cases q2 : a.lt b with
      | true => have := hn.2 q2; omega
      | false => have := hz.2 (dotOrd.tot q2 q); omega
  · intro h
    have h1 : ¬ a.cmp b < 0 := fun e => by have := dotOrd.asym (hn.1 e); rw [h] at this; cases this
    have h2 : a.cmp b ≠ 0 := fun e => by rw [hz.1 e, dotOrd.irr] at h; cases h
    omega
set_option maxRecDepth 100000 in
set_option maxHeartbeats 4000000 in
theorem set_any (w : World) (B : Nat) (C : CollR) (h : Six) (o : OpR) (a : Option Addr) (c : Nat) (hm : Mine C w B h) (hB : B ≤ w.heap.size) (hs : C.small 1099511627775) (hok : C.ok) :
    Calls Tryz.prog 23 #[C.val h, o.v a c] w fun e w' => ∃ h', e = .returned (({ C with regs := setL C.regs o } : CollR).val h') ∧ Mine { C with regs := setL C.regs o } w' B h' ∧ Ext (upfrom B) w w' := by
  go_enter Tryz.func23, Tryz.ntmps23
  unfold CollR.val OpR.v
  go_upto_region 1 with fail
  have hC_ := Blk.at (w) #[.slice h.v C.v.length h.vc, .slice h.r C.regs.length h.rc, .slice h.e C.elems.length h.ec, .slice h.g C.gone.length h.gc, .slice h.s C.sums.length h.sc, .slice h.b C.binds.length h.bc] 32 (w.heap.size) (by simp)
  have hx_0 := Ext.alloc no (w) (.cells #[.slice h.v C.v.length h.vc, .slice h.r C.regs.length h.rc, .slice h.e C.elems.length h.ec, .slice h.g C.gone.length h.gc, .slice h.s C.sums.length h.sc, .slice h.b C.binds.length h.bc] 32)
  have hO_ := Blk.at (w.alloc (.cells #[.slice h.v C.v.length h.vc, .slice h.r C.regs.length h.rc, .slice h.e C.elems.length h.ec, .slice h.g C.gone.length h.gc, .slice h.s C.sums.length h.sc, .slice h.b C.binds.length h.bc] 32)) #[.int .i64 o.dot.dev, .int .i64 o.dot.ep, .int .i64 o.dot.seq, .int .i64 o.coll, .int .i64 o.ver, .int .i64 o.kind, .string (str o.key), .string (str o.text), .int .i64 o.n, .int .i64 o.time, .slice a o.dots.length c] 51 (w.heap.size + 1) (by simp)
  have hx_1 := Ext.alloc no (w.alloc (.cells #[.slice h.v C.v.length h.vc, .slice h.r C.regs.length h.rc, .slice h.e C.elems.length h.ec, .slice h.g C.gone.length h.gc, .slice h.s C.sums.length h.sc, .slice h.b C.binds.length h.bc] 32)) (.cells #[.int .i64 o.dot.dev, .int .i64 o.dot.ep, .int .i64 o.dot.seq, .int .i64 o.coll, .int .i64 o.ver, .int .i64 o.kind, .string (str o.key), .string (str o.text), .int .i64 o.n, .int .i64 o.time, .slice a o.dots.length c] 51)
  have hR_ := Blk.at ((w.alloc (.cells #[.slice h.v C.v.length h.vc, .slice h.r C.regs.length h.rc, .slice h.e C.elems.length h.ec, .slice h.g C.gone.length h.gc, .slice h.s C.sums.length h.sc, .slice h.b C.binds.length h.bc] 32)).alloc (.cells #[.int .i64 o.dot.dev, .int .i64 o.dot.ep, .int .i64 o.dot.seq, .int .i64 o.coll, .int .i64 o.ver, .int .i64 o.kind, .string (str o.key), .string (str o.text), .int .i64 o.n, .int .i64 o.time, .slice a o.dots.length c] 51)) #[.slice none 0 0, .slice none 0 0, .slice none 0 0, .slice none 0 0, .slice none 0 0, .slice none 0 0] 32 (w.heap.size + 1 + 1) (by simp)
  have hx_2 := Ext.alloc no ((w.alloc (.cells #[.slice h.v C.v.length h.vc, .slice h.r C.regs.length h.rc, .slice h.e C.elems.length h.ec, .slice h.g C.gone.length h.gc, .slice h.s C.sums.length h.sc, .slice h.b C.binds.length h.bc] 32)).alloc (.cells #[.int .i64 o.dot.dev, .int .i64 o.dot.ep, .int .i64 o.dot.seq, .int .i64 o.coll, .int .i64 o.ver, .int .i64 o.kind, .string (str o.key), .string (str o.text), .int .i64 o.n, .int .i64 o.time, .slice a o.dots.length c] 51)) (.cells #[.slice none 0 0, .slice none 0 0, .slice none 0 0, .slice none 0 0, .slice none 0 0, .slice none 0 0] 32)
  have hC := (hC_.ext (by simp) hx_1 (fun h => h)).ext (by simp) hx_2 (fun h => h)
  have hO := hO_.ext (by simp) hx_2 (fun h => h)
  have hR := hR_
  have hx1 := ((hx_0).comp hx_1).comp hx_2
  clear hC_ hx_0 hO_ hx_1 hR_ hx_2
  generalize ((w.alloc (.cells #[.slice h.v C.v.length h.vc, .slice h.r C.regs.length h.rc, .slice h.e C.elems.length h.ec, .slice h.g C.gone.length h.gc, .slice h.s C.sums.length h.sc, .slice h.b C.binds.length h.bc] 32)).alloc (.cells #[.int .i64 o.dot.dev, .int .i64 o.dot.ep, .int .i64 o.dot.seq, .int .i64 o.coll, .int .i64 o.ver, .int .i64 o.kind, .string (str o.key), .string (str o.text), .int .i64 o.n, .int .i64 o.time, .slice a o.dots.length c] 51)).alloc (.cells #[.slice none 0 0, .slice none 0 0, .slice none 0 0, .slice none 0 0, .slice none 0 0, .slice none 0 0] 32) = w1 at *
  have hsz := hR.lt (by simp)
  obtain ⟨g, hg⟩ : ∃ g, g = w.heap.size := ⟨_, rfl⟩
  have hgw : w.heap.size ≤ g := by omega
  rw [← hg] at hC hO hR hsz ⊢
  clear hg
  have q0 := hO.cell 0 _ rfl
  have q1 := hO.cell 1 _ rfl
  have q2 := hO.cell 2 _ rfl
  have q4 := hO.cell 4 _ rfl
  have q6 := hO.cell 6 _ rfl
  have q7 := hO.cell 7 _ rfl
  have q9 := hO.cell 9 _ rfl
  go_upto_region 2 with fail
  clear q0 q1 q2 q4 q6 q7 q9
  have hX := Blk.at w1 #[.string (str o.key), .string (str o.text), .int .i64 o.ver, .int .i64 o.time, .int .i64 o.dot.dev, .int .i64 o.dot.ep, .int .i64 o.dot.seq] 41 w1.heap.size rfl
  have hxa := Ext.alloc no w1 (.cells #[.string (str o.key), .string (str o.text), .int .i64 o.ver, .int .i64 o.time, .int .i64 o.dot.dev, .int .i64 o.dot.ep, .int .i64 o.dot.seq] 41)
  have hCa := hC.ext (by simp) hxa (fun h => h)
  have hOa := hO.ext (by simp) hxa (fun h => h)
  have hRa := hR.ext (by simp) hxa (fun h => h)
  have hxx1 := hx1.comp hxa
  have hm1 := hm.no hxx1
  have hsx := hX.lt (by simp)
  obtain ⟨gx, hgx⟩ : ∃ gx, gx = w1.heap.size := ⟨_, rfl⟩
  rw [← hgx] at hX hsz hsx ⊢
  clear hC hO hR hx1 hxa
  generalize w1.alloc (.cells #[.string (str o.key), .string (str o.text), .int .i64 o.ver, .int .i64 o.time, .int .i64 o.dot.dev, .int .i64 o.dot.ep, .int .i64 o.dot.seq] 41) = w1' at *
  clear hgx w1
  have c0 := hCa.cell 0 _ rfl
  have c1 := hCa.cell 1 _ rfl
  have c2 := hCa.cell 2 _ rfl
  have c3 := hCa.cell 3 _ rfl
  have c4 := hCa.cell 4 _ rfl
  have c5 := hCa.cell 5 _ rfl
  have q0 := hOa.cell 0 _ rfl
  have q1 := hOa.cell 1 _ rfl
  have q2 := hOa.cell 2 _ rfl
  have q4 := hOa.cell 4 _ rfl
  have q6 := hOa.cell 6 _ rfl
  have q7 := hOa.cell 7 _ rfl
  have q9 := hOa.cell 9 _ rfl
  go_wp2_with fail
  refine (reg_any w1' C h o.key hm1.r.rd (by have := hs.r; omega) hok.r).mono ?_
  rintro e w2 ⟨rfl, hx2⟩
  have hm2 := hm1.no hx2
  have hC2 := hCa.ext (by simp) hx2 (fun h => h)
  have hO2 := hOa.ext (by simp) hx2 (fun h => h)
  have hR2 := hRa.ext (by simp) hx2 (fun h => h)
  have hX2 := hX.ext (by simp) hx2 (fun h => h)
  have hxx := hxx1.comp hx2
  have hz2 := hx2.size
  clear c0 c1 c2 c3 c4 c5 q0 q1 q2 q4 q6 q7 q9 hCa hOa hRa hX
  have hlk := look_at bytesOrd o.key C.regs hok.r
  have hple := posOf_le (κ := RegR.key) (lt := Op.bytesLess) o.key C.regs
  have hno : ∀ q, w.heap.size ≤ q → ¬ blk h.r q := by
    rintro q hq ⟨ad, ha, hb⟩
    have := (hm.r.base ad ha).2.1
    omega
  cases his : isAt RegR.key Op.bytesLess o.key C.regs with
  | true =>
    obtain ⟨x, hx, hxk⟩ := isAt_some his
    rw [his, if_pos rfl, hx] at hlk
    generalize hpp : posOf RegR.key Op.bytesLess o.key C.regs = pp at *
    have hcl : setL C.regs o = if younger o x = true then C.regs.set pp (regOf o) else C.regs := by unfold setL; rw [hlk, hpp]
    clear hlk his hpp
    have hpl : pp < C.regs.length := (List.getElem?_eq_some_iff.1 hx).1
    obtain ⟨rb, ro, hsb⟩ := hm2.r.lits (by have := hm2.r.nc; omega)
    have hm2s := hm2.r
    rw [hsb] at hC2 hm2s
    have HX := Lib.hid hx
    clear hx hxk
    have c1 := hC2.cell 1 _ rfl
    have y3 : w2.cell? ⟨rb, ro + pp * 7 + 3, none⟩ = some (.int .i64 x.time) := rows_cell kReg hm2s.rd HX.out 3 _ rfl
    have y4 : w2.cell? ⟨rb, ro + pp * 7 + 4, none⟩ = some (.int .i64 x.dot.dev) := rows_cell kReg hm2s.rd HX.out 4 _ rfl
    have y5 : w2.cell? ⟨rb, ro + pp * 7 + 5, none⟩ = some (.int .i64 x.dot.ep) := rows_cell kReg hm2s.rd HX.out 5 _ rfl
    have y6 : w2.cell? ⟨rb, ro + pp * 7 + 6, none⟩ = some (.int .i64 x.dot.seq) := rows_cell kReg hm2s.rd HX.out 6 _ rfl
    have q9 := hO2.cell 9 _ rfl
    have q0 := hO2.cell 0 _ rfl
    have q1 := hO2.cell 1 _ rfl
    have q2 := hO2.cell 2 _ rfl
    by_cases t1 : x.time < o.time
    · have Hcl := Lib.hid (show setL C.regs o = C.regs.set pp (regOf o) by rw [hcl, if_pos]; unfold younger; rw [decide_eq_true t1]; rfl)
      clear hcl
      have t1' : decide (x.time < o.time) = true := decT t1
      go_upto_region 5 with fail
      refine wp_region_F [1, 3, 7] (looks [(1, fun z => Ext no w2 z), (3, fun z => Ext no w2 z), (7, fun z => Ext no w2 z)]) (by kernel_rfl) ?_
      have hT0 : ∀ k, looks [(1, fun z => Ext no w2 z), (3, fun z => Ext no w2 z), (7, fun z => Ext no w2 z)] k (w2.drew) := looks_all ⟨Ext.drew no w2, Ext.drew no w2, Ext.drew no w2, trivial⟩
      refine wpF_take 0 (v := ?_) rfl (by kernel_rfl) (by kernel_rfl) (by kernel_rfl) (fun _ _ _ h => h) hT0 (by rfl) ?_ ?_
      rotate_left
      · (intro wq; go_simp; try with_reducible rfl)
      simp only [pz]
      refine wpF_look 1 (v := .int .i64 o.time) rfl rfl (by kernel_rfl) (by kernel_rfl) (by kernel_rfl) (by kernel_rfl) (fun _ _ _ h => h) hT0 (by rfl) (fun w hS => by have hS : Ext no w2 w := hS; have q0 := hS.keeps q9 (fun h => h); go_simp) ?_
      simp only [pz]
      refine wpF_take 2 (v := ?_) rfl (by kernel_rfl) (by kernel_rfl) (by kernel_rfl) (fun _ _ _ h => h) hT0 (by rfl) ?_ ?_
      rotate_left
      · (intro wq; go_simp; try with_reducible rfl)
      simp only [pz]
      refine wpF_look 3 (v := .slice (some ⟨rb, ro, none⟩) C.regs.length h.rc) rfl rfl (by kernel_rfl) (by kernel_rfl) (by kernel_rfl) (by kernel_rfl) (fun _ _ _ h => h) hT0 (by rfl) (fun w hS => by have hS : Ext no w2 w := hS; have q0 := hS.keeps c1 (fun h => h); go_simp) ?_
      simp only [pz]
      refine wpF_take 4 (v := ?_) rfl (by kernel_rfl) (by kernel_rfl) (by kernel_rfl) (fun _ _ _ h => h) hT0 (by rfl) ?_ ?_
      rotate_left
      · (intro wq; go_simp; try with_reducible rfl)
      simp only [pz]
      refine wpF_take 5 (v := .pointer (some ⟨rb, ro + pp * 7, none⟩)) rfl (by kernel_rfl) (by kernel_rfl) (by kernel_rfl) (fun _ _ _ h => h) hT0 (by rfl) (by intro wq; go_simp) ?_
      simp only [pz]
      refine wpF_take 6 (v := ?_) rfl (by kernel_rfl) (by kernel_rfl) (by kernel_rfl) (fun _ _ _ h => h) hT0 (by rfl) ?_ ?_
      rotate_left
      · (intro wq; go_simp; try with_reducible rfl)
      simp only [pz]
      refine wpF_look 7 (v := .int .i64 x.time) rfl rfl (by kernel_rfl) (by kernel_rfl) (by kernel_rfl) (by kernel_rfl) (fun _ _ _ h => h) hT0 (by rfl) (fun w hS => by have hS : Ext no w2 w := hS; have q0 := hS.keeps y3 (fun h => h); go_simp) ?_
      simp only [pz]
      refine wpF_take 8 (v := .bool true) rfl (by kernel_rfl) (by kernel_rfl) (by kernel_rfl) (fun _ _ _ h => h) hT0 (by rfl) (by intro wq; go_simp; first | done | rfl) ?_
      simp only [pz]
      refine wpF_take 9 (v := ?_) rfl (by kernel_rfl) (by kernel_rfl) (by kernel_rfl) (fun _ _ _ h => h) hT0 (by rfl) ?_ ?_
      rotate_left
      · (intro wq; go_simp; try with_reducible rfl)
      simp only [pz]
      refine wpF_skip 10 rfl (by kernel_rfl) (by kernel_rfl) (by kernel_rfl) (fun _ _ _ h => h) hT0 (by rfl) ?_
      simp only [pz]
      refine wpF_skip 11 rfl (by kernel_rfl) (by kernel_rfl) (by kernel_rfl) (fun _ _ _ h => h) hT0 (by rfl) ?_
      simp only [pz]
      refine wpF_skip 12 rfl (by kernel_rfl) (by kernel_rfl) (by kernel_rfl) (fun _ _ _ h => h) hT0 (by rfl) ?_
      simp only [pz]
      refine wpF_skip 13 rfl (by kernel_rfl) (by kernel_rfl) (by kernel_rfl) (fun _ _ _ h => h) hT0 (by rfl) ?_
      simp only [pz]
      refine wpF_skip 14 rfl (by kernel_rfl) (by kernel_rfl) (by kernel_rfl) (fun _ _ _ h => h) hT0 (by rfl) ?_
      simp only [pz]
      refine wpF_skip 15 rfl (by kernel_rfl) (by kernel_rfl) (by kernel_rfl) (fun _ _ _ h => h) hT0 (by rfl) ?_
      simp only [pz]
      refine wpF_skip 16 rfl (by kernel_rfl) (by kernel_rfl) (by kernel_rfl) (fun _ _ _ h => h) hT0 (by rfl) ?_
      simp only [pz]
      refine wpF_skip 17 rfl (by kernel_rfl) (by kernel_rfl) (by kernel_rfl) (fun _ _ _ h => h) hT0 (by rfl) ?_
      simp only [pz]
      refine wpF_skip 18 rfl (by kernel_rfl) (by kernel_rfl) (by kernel_rfl) (fun _ _ _ h => h) hT0 (by rfl) ?_
      simp only [pz]
      refine wpF_skip 19 rfl (by kernel_rfl) (by kernel_rfl) (by kernel_rfl) (fun _ _ _ h => h) hT0 (by rfl) ?_
      simp only [pz]
      refine wpF_skip 20 rfl (by kernel_rfl) (by kernel_rfl) (by kernel_rfl) (fun _ _ _ h => h) hT0 (by rfl) ?_
      simp only [pz]
      refine wpF_skip 21 rfl (by kernel_rfl) (by kernel_rfl) (by kernel_rfl) (fun _ _ _ h => h) hT0 (by rfl) ?_
      simp only [pz]
      refine wpF_skip 22 rfl (by kernel_rfl) (by kernel_rfl) (by kernel_rfl) (fun _ _ _ h => h) hT0 (by rfl) ?_
      simp only [pz]
      refine wpF_skip 23 rfl (by kernel_rfl) (by kernel_rfl) (by kernel_rfl) (fun _ _ _ h => h) hT0 (by rfl) ?_
      simp only [pz]
      refine wpF_skip 24 rfl (by kernel_rfl) (by kernel_rfl) (by kernel_rfl) (fun _ _ _ h => h) hT0 (by rfl) ?_
      simp only [pz]
      refine wpF_skip 25 rfl (by kernel_rfl) (by kernel_rfl) (by kernel_rfl) (fun _ _ _ h => h) hT0 (by rfl) ?_
      simp only [pz]
      refine wpF_skip 26 rfl (by kernel_rfl) (by kernel_rfl) (by kernel_rfl) (fun _ _ _ h => h) hT0 (by rfl) ?_
      simp only [pz]
      refine wpF_skip 27 rfl (by kernel_rfl) (by kernel_rfl) (by kernel_rfl) (fun _ _ _ h => h) hT0 (by rfl) ?_
      simp only [pz]
      refine wpF_skip 28 rfl (by kernel_rfl) (by kernel_rfl) (by kernel_rfl) (fun _ _ _ h => h) hT0 (by rfl) ?_
      simp only [pz]
      refine wpF_skip 29 rfl (by kernel_rfl) (by kernel_rfl) (by kernel_rfl) (fun _ _ _ h => h) hT0 (by rfl) ?_
      simp only [pz]
      refine wpF_skip 30 rfl (by kernel_rfl) (by kernel_rfl) (by kernel_rfl) (fun _ _ _ h => h) hT0 (by rfl) ?_
      simp only [pz]
      refine wpF_take 31 (v := ?_) rfl (by kernel_rfl) (by kernel_rfl) (by kernel_rfl) (fun _ _ _ h => h) hT0 (by rfl) ?_ ?_
      rotate_left
      · (intro wq; go_simp; try with_reducible rfl)
      simp only [pz]
      refine wpF_take 32 (v := ?_) rfl (by kernel_rfl) (by kernel_rfl) (by kernel_rfl) (fun _ _ _ h => h) hT0 (by rfl) ?_ ?_
      rotate_left
      · (intro wq; go_simp; try with_reducible rfl)
      simp only [pz]
      refine wpF_done (by kernel_rfl) ?_ _
      have hx3 := Ext.drew no w2
      generalize w2.drew = w3 at *
      have hm3 := hm2.no hx3
      have hC3 := hC2.ext (by simp) hx3 (fun h => h)
      have hR3 := hR2.ext (by simp) hx3 (fun h => h)
      have hX3 := hX2.ext (by simp) hx3 (fun h => h)
      have hxx3 := hxx.comp hx3
      have hz3 := hx3.size
      clear c1 y3 y4 y5 y6 q9 q0 q1 q2
      have hm3s := hm3.r
      rw [hsb] at hm3s
      have c1 := hC3.cell 1 _ rfl
      have x0 := hX3.cell 0 _ rfl
      have x1 := hX3.cell 1 _ rfl
      have x2 := hX3.cell 2 _ rfl
      have x3 := hX3.cell 3 _ rfl
      have x4 := hX3.cell 4 _ rfl
      have x5 := hX3.cell 5 _ rfl
      have x6 := hX3.cell 6 _ rfl
      have f0 : w3.frozen? ⟨rb, ro + pp * 7, none⟩ = false := hm3s.free pp 0 hpl (by omega)
      have f1 : w3.frozen? ⟨rb, ro + pp * 7 + 1, none⟩ = false := hm3s.free pp 1 hpl (by omega)
      have f2 : w3.frozen? ⟨rb, ro + pp * 7 + 2, none⟩ = false := hm3s.free pp 2 hpl (by omega)
      have f3 : w3.frozen? ⟨rb, ro + pp * 7 + 3, none⟩ = false := hm3s.free pp 3 hpl (by omega)
      have f4 : w3.frozen? ⟨rb, ro + pp * 7 + 4, none⟩ = false := hm3s.free pp 4 hpl (by omega)
      have f5 : w3.frozen? ⟨rb, ro + pp * 7 + 5, none⟩ = false := hm3s.free pp 5 hpl (by omega)
      have f6 : w3.frozen? ⟨rb, ro + pp * 7 + 6, none⟩ = false := hm3s.free pp 6 hpl (by omega)
      have z0 : w3.cell? ⟨rb, ro + pp * 7, none⟩ = some (.string (str x.key)) := rows_cell kReg hm3s.rd HX.out 0 _ rfl
      have z1 : w3.cell? ⟨rb, ro + pp * 7 + 1, none⟩ = some (.string (str x.text)) := rows_cell kReg hm3s.rd HX.out 1 _ rfl
      have z2 : w3.cell? ⟨rb, ro + pp * 7 + 2, none⟩ = some (.int .i64 x.ver) := rows_cell kReg hm3s.rd HX.out 2 _ rfl
      have z3 : w3.cell? ⟨rb, ro + pp * 7 + 3, none⟩ = some (.int .i64 x.time) := rows_cell kReg hm3s.rd HX.out 3 _ rfl
      have z4 : w3.cell? ⟨rb, ro + pp * 7 + 4, none⟩ = some (.int .i64 x.dot.dev) := rows_cell kReg hm3s.rd HX.out 4 _ rfl
      have z5 : w3.cell? ⟨rb, ro + pp * 7 + 5, none⟩ = some (.int .i64 x.dot.ep) := rows_cell kReg hm3s.rd HX.out 5 _ rfl
      have z6 : w3.cell? ⟨rb, ro + pp * 7 + 6, none⟩ = some (.int .i64 x.dot.seq) := rows_cell kReg hm3s.rd HX.out 6 _ rfl
      go_upto_region 7 with fail
      have hov : Own (((((((w3.setCell ⟨rb, ro + pp * 7, none⟩ (.string (str o.key))).setCell ⟨rb, ro + pp * 7 + 1, none⟩ (.string (str o.text))).setCell ⟨rb, ro + pp * 7 + 2, none⟩ (.int .i64 o.ver)).setCell ⟨rb, ro + pp * 7 + 3, none⟩ (.int .i64 o.time)).setCell ⟨rb, ro + pp * 7 + 4, none⟩ (.int .i64 o.dot.dev)).setCell ⟨rb, ro + pp * 7 + 5, none⟩ (.int .i64 o.dot.ep)).setCell ⟨rb, ro + pp * 7 + 6, none⟩ (.int .i64 o.dot.seq)) B (some ⟨rb, ro, none⟩) 7 C.regs.length h.rc (rows RegR.cells (C.regs.set pp (regOf o))) := by have q := hm3s.over kReg rfl pp hpl (regOf o); simp only [RegR.cells, regOf, World.setCells] at q; exact q
      have hxo : Ext (blk h.r) w3 (((((((w3.setCell ⟨rb, ro + pp * 7, none⟩ (.string (str o.key))).setCell ⟨rb, ro + pp * 7 + 1, none⟩ (.string (str o.text))).setCell ⟨rb, ro + pp * 7 + 2, none⟩ (.int .i64 o.ver)).setCell ⟨rb, ro + pp * 7 + 3, none⟩ (.int .i64 o.time)).setCell ⟨rb, ro + pp * 7 + 4, none⟩ (.int .i64 o.dot.dev)).setCell ⟨rb, ro + pp * 7 + 5, none⟩ (.int .i64 o.dot.ep)).setCell ⟨rb, ro + pp * 7 + 6, none⟩ (.int .i64 o.dot.seq)) := by have q := Ext.setCells (S := blk h.r) rb (ro + pp * 7) (RegR.cells (regOf o)) w3 ⟨_, hsb, rfl⟩; simp only [RegR.cells, regOf, World.setCells] at q; exact q
      rw [← hsb] at hov
      have hm4 := hm3.setR (l := C.regs.set pp (regOf o)) (by rw [List.length_set]) hov hxo (near_self _ _)
      have hC4 := hC3.ext (by simp) hxo (hno _ (by omega))
      have hR4 := hR3.ext (by simp) hxo (hno _ (by omega))
      have hx4 : Ext (upfrom B) w _ := (hxx3.upN).comp (hxo.upO hm.r)
      clear c1 hov hxo hC3 hR3 hX3 hm3s z0 z1 z2 z3 z4 z5 z6 x0 x1 x2 x3 x4 x5 x6 f0 f1 f2 f3 f4 f5 f6
      generalize ((((((w3.setCell ⟨rb, ro + pp * 7, none⟩ (.string (str o.key))).setCell ⟨rb, ro + pp * 7 + 1, none⟩ (.string (str o.text))).setCell ⟨rb, ro + pp * 7 + 2, none⟩ (.int .i64 o.ver)).setCell ⟨rb, ro + pp * 7 + 3, none⟩ (.int .i64 o.time)).setCell ⟨rb, ro + pp * 7 + 4, none⟩ (.int .i64 o.dot.dev)).setCell ⟨rb, ro + pp * 7 + 5, none⟩ (.int .i64 o.dot.ep)).setCell ⟨rb, ro + pp * 7 + 6, none⟩ (.int .i64 o.dot.seq) = w4 at *
      have hm4' : Mine { C with regs := C.regs.set pp (regOf o) } w4 B { h with r := some ⟨rb, ro, none⟩ } := by rw [← hsb]; exact hm4
      have haw : ∀ i ad, ({ h with r := some ⟨rb, ro, none⟩ } : Six).at i = some ad → ad.block ≠ g + 1 + 1 := by rw [← hsb]; exact hm.away (g := g + 1 + 1) (by omega)
      have c0 := hC4.cell 0 _ rfl
      have c1 := hC4.cell 1 _ rfl
      have c2 := hC4.cell 2 _ rfl
      have c3 := hC4.cell 3 _ rfl
      have c4 := hC4.cell 4 _ rfl
      have c5 := hC4.cell 5 _ rfl
      have z0 := hR4.cell 0 _ rfl
      have z1 := hR4.cell 1 _ rfl
      have z2 := hR4.cell 2 _ rfl
      have z3 := hR4.cell 3 _ rfl
      have z4 := hR4.cell 4 _ rfl
      have z5 := hR4.cell 5 _ rfl
      have f0 := hR4.fr 0
      have f1 := hR4.fr 1
      have f2 := hR4.fr 2
      have f3 := hR4.fr 3
      have f4 := hR4.fr 4
      have f5 := hR4.fr 5
      go_wp2_with fail
      have hbE := ((((((hR4.set 0 (.slice h.v C.v.length h.vc) (by simp)).set 1 (.slice (some ⟨rb, ro, none⟩) C.regs.length h.rc) (by simp)).set 2 (.slice h.e C.elems.length h.ec) (by simp)).set 3 (.slice h.g C.gone.length h.gc) (by simp)).set 4 (.slice h.s C.sums.length h.sc) (by simp)).set 5 (.slice h.b C.binds.length h.bc) (by simp))
      have hxE := (((((Ext.setCell (S := just (g + 1 + 1)) w4 ⟨g + 1 + 1, 0, none⟩ (.slice h.v C.v.length h.vc) rfl).comp (Ext.setCell _ ⟨g + 1 + 1, 1, none⟩ (.slice (some ⟨rb, ro, none⟩) C.regs.length h.rc) rfl)).comp (Ext.setCell _ ⟨g + 1 + 1, 2, none⟩ (.slice h.e C.elems.length h.ec) rfl)).comp (Ext.setCell _ ⟨g + 1 + 1, 3, none⟩ (.slice h.g C.gone.length h.gc) rfl)).comp (Ext.setCell _ ⟨g + 1 + 1, 4, none⟩ (.slice h.s C.sums.length h.sc) rfl)).comp (Ext.setCell _ ⟨g + 1 + 1, 5, none⟩ (.slice h.b C.binds.length h.bc) rfl)
      clear z0 f0 z1 f1 z2 f2 z3 f3 z4 f4 z5 f5
      generalize (((((w4.setCell ⟨g + 1 + 1, 0, none⟩ (.slice h.v C.v.length h.vc)).setCell ⟨g + 1 + 1, 1, none⟩ (.slice (some ⟨rb, ro, none⟩) C.regs.length h.rc)).setCell ⟨g + 1 + 1, 2, none⟩ (.slice h.e C.elems.length h.ec)).setCell ⟨g + 1 + 1, 3, none⟩ (.slice h.g C.gone.length h.gc)).setCell ⟨g + 1 + 1, 4, none⟩ (.slice h.s C.sums.length h.sc)).setCell ⟨g + 1 + 1, 5, none⟩ (.slice h.b C.binds.length h.bc) = wE at *
      have z0 := hbE.cell 0 _ rfl
      have z1 := hbE.cell 1 _ rfl
      have z2 := hbE.cell 2 _ rfl
      have z3 := hbE.cell 3 _ rfl
      have z4 := hbE.cell 4 _ rfl
      have z5 := hbE.cell 5 _ rfl
      refine bodyPost_ret (v := .agg #[.slice h.v C.v.length h.vc, .slice (some ⟨rb, ro, none⟩) C.regs.length h.rc, .slice h.e C.elems.length h.ec, .slice h.g C.gone.length h.gc, .slice h.s C.sums.length h.sc, .slice h.b C.binds.length h.bc]) ?_ rfl ?_
      · rw [res_cell1 rfl]
        go_simp
      rw [Hcl.out]
      refine ⟨{ h with r := some ⟨rb, ro, none⟩ }, ?_, ?_, ?_⟩
      · first | rfl | (simp [CollR.val, putAt_length]; done) | (simp [CollR.val]; done)
      · exact (hm4').ext hxE (fun i ad hi hj => haw i ad hi hj)
      · exact (hx4).comp (hxE.upJ (by omega))
    · have t1' : decide (x.time < o.time) = false := decF t1
      by_cases t2 : o.time = x.time
      · have t2' : decide (o.time = x.time) = true := decT t2
        cases t3 : DotR.lt x.dot o.dot with
        | true =>
          have t3' : decide (0 < o.dot.cmp x.dot) = true := decT ((dcmp_gt _ _).2 t3)
          have Hcl := Lib.hid (show setL C.regs o = C.regs.set pp (regOf o) by rw [hcl, if_pos]; unfold younger; rw [t1', t2', t3]; rfl)
          clear hcl t3
          go_upto_region 5 with fail
          refine wp_region_F [1, 3, 7, 11, 13, 17, 21, 23, 27] (looks [(1, fun z => Ext no w2 z), (3, fun z => Ext no w2 z), (7, fun z => Ext no w2 z), (11, fun z => Ext no w2 z), (13, fun z => Ext no w2 z), (17, fun z => Ext no w2 z), (21, fun z => Ext no w2 z), (23, fun z => Ext no w2 z), (27, fun z => Ext no w2 z)]) (by kernel_rfl) ?_
          have hT0 : ∀ k, looks [(1, fun z => Ext no w2 z), (3, fun z => Ext no w2 z), (7, fun z => Ext no w2 z), (11, fun z => Ext no w2 z), (13, fun z => Ext no w2 z), (17, fun z => Ext no w2 z), (21, fun z => Ext no w2 z), (23, fun z => Ext no w2 z), (27, fun z => Ext no w2 z)] k (w2.drew) := looks_all ⟨Ext.drew no w2, Ext.drew no w2, Ext.drew no w2, Ext.drew no w2, Ext.drew no w2, Ext.drew no w2, Ext.drew no w2, Ext.drew no w2, Ext.drew no w2, trivial⟩
          refine wpF_take 0 (v := ?_) rfl (by kernel_rfl) (by kernel_rfl) (by kernel_rfl) (fun _ _ _ h => h) hT0 (by rfl) ?_ ?_
          rotate_left
          · (intro wq; go_simp; try with_reducible rfl)
          simp only [pz]
          refine wpF_look 1 (v := .int .i64 o.time) rfl rfl (by kernel_rfl) (by kernel_rfl) (by kernel_rfl) (by kernel_rfl) (fun _ _ _ h => h) hT0 (by rfl) (fun w hS => by have hS : Ext no w2 w := hS; have q0 := hS.keeps q9 (fun h => h); go_simp) ?_
          simp only [pz]
          refine wpF_take 2 (v := ?_) rfl (by kernel_rfl) (by kernel_rfl) (by kernel_rfl) (fun _ _ _ h => h) hT0 (by rfl) ?_ ?_
          rotate_left
          · (intro wq; go_simp; try with_reducible rfl)
          simp only [pz]
          refine wpF_look 3 (v := .slice (some ⟨rb, ro, none⟩) C.regs.length h.rc) rfl rfl (by kernel_rfl) (by kernel_rfl) (by kernel_rfl) (by kernel_rfl) (fun _ _ _ h => h) hT0 (by rfl) (fun w hS => by have hS : Ext no w2 w := hS; have q0 := hS.keeps c1 (fun h => h); go_simp) ?_
          simp only [pz]
          refine wpF_take 4 (v := ?_) rfl (by kernel_rfl) (by kernel_rfl) (by kernel_rfl) (fun _ _ _ h => h) hT0 (by rfl) ?_ ?_
          rotate_left
          · (intro wq; go_simp; try with_reducible rfl)
          simp only [pz]
          refine wpF_take 5 (v := .pointer (some ⟨rb, ro + pp * 7, none⟩)) rfl (by kernel_rfl) (by kernel_rfl) (by kernel_rfl) (fun _ _ _ h => h) hT0 (by rfl) (by intro wq; go_simp) ?_
          simp only [pz]
          refine wpF_take 6 (v := ?_) rfl (by kernel_rfl) (by kernel_rfl) (by kernel_rfl) (fun _ _ _ h => h) hT0 (by rfl) ?_ ?_
          rotate_left
          · (intro wq; go_simp; try with_reducible rfl)
          simp only [pz]
          refine wpF_look 7 (v := .int .i64 x.time) rfl rfl (by kernel_rfl) (by kernel_rfl) (by kernel_rfl) (by kernel_rfl) (fun _ _ _ h => h) hT0 (by rfl) (fun w hS => by have hS : Ext no w2 w := hS; have q0 := hS.keeps y3 (fun h => h); go_simp) ?_
          simp only [pz]
          refine wpF_take 8 (v := .bool false) rfl (by kernel_rfl) (by kernel_rfl) (by kernel_rfl) (fun _ _ _ h => h) hT0 (by rfl) (by intro wq; go_simp; first | done | rfl) ?_
          simp only [pz]
          refine wpF_take 9 (v := ?_) rfl (by kernel_rfl) (by kernel_rfl) (by kernel_rfl) (fun _ _ _ h => h) hT0 (by rfl) ?_ ?_
          rotate_left
          · (intro wq; go_simp; try with_reducible rfl)
          simp only [pz]
          refine wpF_take 10 (v := ?_) rfl (by kernel_rfl) (by kernel_rfl) (by kernel_rfl) (fun _ _ _ h => h) hT0 (by rfl) ?_ ?_
          rotate_left
          · (intro wq; go_simp; try with_reducible rfl)
          simp only [pz]
          refine wpF_look 11 (v := .int .i64 o.time) rfl rfl (by kernel_rfl) (by kernel_rfl) (by kernel_rfl) (by kernel_rfl) (fun _ _ _ h => h) hT0 (by rfl) (fun w hS => by have hS : Ext no w2 w := hS; have q0 := hS.keeps q9 (fun h => h); go_simp) ?_
          simp only [pz]
          refine wpF_take 12 (v := ?_) rfl (by kernel_rfl) (by kernel_rfl) (by kernel_rfl) (fun _ _ _ h => h) hT0 (by rfl) ?_ ?_
          rotate_left
          · (intro wq; go_simp; try with_reducible rfl)
          simp only [pz]
          refine wpF_look 13 (v := .slice (some ⟨rb, ro, none⟩) C.regs.length h.rc) rfl rfl (by kernel_rfl) (by kernel_rfl) (by kernel_rfl) (by kernel_rfl) (fun _ _ _ h => h) hT0 (by rfl) (fun w hS => by have hS : Ext no w2 w := hS; have q0 := hS.keeps c1 (fun h => h); go_simp) ?_
          simp only [pz]
          refine wpF_take 14 (v := ?_) rfl (by kernel_rfl) (by kernel_rfl) (by kernel_rfl) (fun _ _ _ h => h) hT0 (by rfl) ?_ ?_
          rotate_left
          · (intro wq; go_simp; try with_reducible rfl)
          simp only [pz]
          refine wpF_take 15 (v := .pointer (some ⟨rb, ro + pp * 7, none⟩)) rfl (by kernel_rfl) (by kernel_rfl) (by kernel_rfl) (fun _ _ _ h => h) hT0 (by rfl) (by intro wq; go_simp) ?_
          simp only [pz]
          refine wpF_take 16 (v := ?_) rfl (by kernel_rfl) (by kernel_rfl) (by kernel_rfl) (fun _ _ _ h => h) hT0 (by rfl) ?_ ?_
          rotate_left
          · (intro wq; go_simp; try with_reducible rfl)
          simp only [pz]
          refine wpF_look 17 (v := .int .i64 x.time) rfl rfl (by kernel_rfl) (by kernel_rfl) (by kernel_rfl) (by kernel_rfl) (fun _ _ _ h => h) hT0 (by rfl) (fun w hS => by have hS : Ext no w2 w := hS; have q0 := hS.keeps y3 (fun h => h); go_simp) ?_
          simp only [pz]
          refine wpF_take 18 (v := .bool true) rfl (by kernel_rfl) (by kernel_rfl) (by kernel_rfl) (fun _ _ _ h => h) hT0 (by rfl) (by intro wq; go_simp; first | done | rfl) ?_
          simp only [pz]
          refine wpF_take 19 (v := ?_) rfl (by kernel_rfl) (by kernel_rfl) (by kernel_rfl) (fun _ _ _ h => h) hT0 (by rfl) ?_ ?_
          rotate_left
          · (intro wq; go_simp; try with_reducible rfl)
          simp only [pz]
          refine wpF_take 20 (v := ?_) rfl (by kernel_rfl) (by kernel_rfl) (by kernel_rfl) (fun _ _ _ h => h) hT0 (by rfl) ?_ ?_
          rotate_left
          · (intro wq; go_simp; try with_reducible rfl)
          simp only [pz]
          refine wpF_look 21 (v := .agg #[.int .i64 o.dot.dev, .int .i64 o.dot.ep, .int .i64 o.dot.seq]) rfl rfl (by kernel_rfl) (by kernel_rfl) (by kernel_rfl) (by kernel_rfl) (fun _ _ _ h => h) hT0 (by rfl) (fun w hS => by have hS : Ext no w2 w := hS; have q0 := hS.keeps q0 (fun h => h); have q1 := hS.keeps q1 (fun h => h); have q2 := hS.keeps q2 (fun h => h); go_simp) ?_
          simp only [pz]
          refine wpF_take 22 (v := ?_) rfl (by kernel_rfl) (by kernel_rfl) (by kernel_rfl) (fun _ _ _ h => h) hT0 (by rfl) ?_ ?_
          rotate_left
          · (intro wq; go_simp; try with_reducible rfl)
          simp only [pz]
          refine wpF_look 23 (v := .slice (some ⟨rb, ro, none⟩) C.regs.length h.rc) rfl rfl (by kernel_rfl) (by kernel_rfl) (by kernel_rfl) (by kernel_rfl) (fun _ _ _ h => h) hT0 (by rfl) (fun w hS => by have hS : Ext no w2 w := hS; have q0 := hS.keeps c1 (fun h => h); go_simp) ?_
          simp only [pz]
          refine wpF_take 24 (v := ?_) rfl (by kernel_rfl) (by kernel_rfl) (by kernel_rfl) (fun _ _ _ h => h) hT0 (by rfl) ?_ ?_
          rotate_left
          · (intro wq; go_simp; try with_reducible rfl)
          simp only [pz]
          refine wpF_take 25 (v := .pointer (some ⟨rb, ro + pp * 7, none⟩)) rfl (by kernel_rfl) (by kernel_rfl) (by kernel_rfl) (fun _ _ _ h => h) hT0 (by rfl) (by intro wq; go_simp) ?_
          simp only [pz]
          refine wpF_take 26 (v := ?_) rfl (by kernel_rfl) (by kernel_rfl) (by kernel_rfl) (fun _ _ _ h => h) hT0 (by rfl) ?_ ?_
          rotate_left
          · (intro wq; go_simp; try with_reducible rfl)
          simp only [pz]
          refine wpF_look 27 (v := .agg #[.int .i64 x.dot.dev, .int .i64 x.dot.ep, .int .i64 x.dot.seq]) rfl rfl (by kernel_rfl) (by kernel_rfl) (by kernel_rfl) (by kernel_rfl) (fun _ _ _ h => h) hT0 (by rfl) (fun w hS => by have hS : Ext no w2 w := hS; have q0 := hS.keeps y4 (fun h => h); have q1 := hS.keeps y5 (fun h => h); have q2 := hS.keeps y6 (fun h => h); go_simp) ?_
          simp only [pz]
          refine wpF_exec 28 rfl (by kernel_rfl) (by rfl) ?_
          intro K hK
          go_simp
          refine (dotcmp_any _ o.dot x.dot).mono ?_
          rintro e w3 ⟨rfl, hx3⟩
          have hT1 : ∀ k, looks [(1, fun z => Ext no w2 z), (3, fun z => Ext no w2 z), (7, fun z => Ext no w2 z), (11, fun z => Ext no w2 z), (13, fun z => Ext no w2 z), (17, fun z => Ext no w2 z), (21, fun z => Ext no w2 z), (23, fun z => Ext no w2 z), (27, fun z => Ext no w2 z)] k (w3) := looks_all ⟨(Ext.drew no w2).comp hx3, (Ext.drew no w2).comp hx3, (Ext.drew no w2).comp hx3, (Ext.drew no w2).comp hx3, (Ext.drew no w2).comp hx3, (Ext.drew no w2).comp hx3, (Ext.drew no w2).comp hx3, (Ext.drew no w2).comp hx3, (Ext.drew no w2).comp hx3, trivial⟩
          refine hK _ _ (looks [(1, fun z => Ext no w2 z), (3, fun z => Ext no w2 z), (7, fun z => Ext no w2 z), (11, fun z => Ext no w2 z), (13, fun z => Ext no w2 z), (17, fun z => Ext no w2 z), (21, fun z => Ext no w2 z), (23, fun z => Ext no w2 z), (27, fun z => Ext no w2 z)]) ⟨.inr (.inl (by kernel_rfl)), .inr (.inl (by kernel_rfl)), .inr (.inl (by kernel_rfl)), .inr (.inl (by kernel_rfl)), .inr (.inl (by kernel_rfl)), .inr (.inl (by kernel_rfl)), .inr (.inl (by kernel_rfl)), .inr (.inl (by kernel_rfl)), .inr (.inl (by kernel_rfl)), trivial⟩ hT1 ?_
          clear hK K
          try simp only [pz]
          replace hx3 := (Ext.drew no w2).comp hx3
          refine wpF_take 29 (v := .bool true) rfl (by kernel_rfl) (by kernel_rfl) (by kernel_rfl) (fun _ _ _ h => h) hT1 (by rfl) (by intro wq; go_simp; first | done | rfl) ?_
          simp only [pz]
          refine wpF_take 30 (v := ?_) rfl (by kernel_rfl) (by kernel_rfl) (by kernel_rfl) (fun _ _ _ h => h) hT1 (by rfl) ?_ ?_
          rotate_left
          · (intro wq; go_simp; try with_reducible rfl)
          simp only [pz]
          refine wpF_take 31 (v := ?_) rfl (by kernel_rfl) (by kernel_rfl) (by kernel_rfl) (fun _ _ _ h => h) hT1 (by rfl) ?_ ?_
          rotate_left
          · (intro wq; go_simp; try with_reducible rfl)
          simp only [pz]
          refine wpF_take 32 (v := ?_) rfl (by kernel_rfl) (by kernel_rfl) (by kernel_rfl) (fun _ _ _ h => h) hT1 (by rfl) ?_ ?_
          rotate_left
          · (intro wq; go_simp; try with_reducible rfl)
          simp only [pz]
          refine wpF_done (by kernel_rfl) ?_ _
          have hm3 := hm2.no hx3
          have hC3 := hC2.ext (by simp) hx3 (fun h => h)
          have hR3 := hR2.ext (by simp) hx3 (fun h => h)
          have hX3 := hX2.ext (by simp) hx3 (fun h => h)
          have hxx3 := hxx.comp hx3
          have hz3 := hx3.size
          clear c1 y3 y4 y5 y6 q9 q0 q1 q2
          try clear t3'
          try clear t2'
          try clear t2
          try clear t1'
          try clear t1
          clear hxx hx2 hxx1
          try clear hz2
          have hm3s := hm3.r
          rw [hsb] at hm3s
          have c1 := hC3.cell 1 _ rfl
          have x0 := hX3.cell 0 _ rfl
          have x1 := hX3.cell 1 _ rfl
          have x2 := hX3.cell 2 _ rfl
          have x3 := hX3.cell 3 _ rfl
          have x4 := hX3.cell 4 _ rfl
          have x5 := hX3.cell 5 _ rfl
          have x6 := hX3.cell 6 _ rfl
          have f0 : w3.frozen? ⟨rb, ro + pp * 7, none⟩ = false := hm3s.free pp 0 hpl (by omega)
          have f1 : w3.frozen? ⟨rb, ro + pp * 7 + 1, none⟩ = false := hm3s.free pp 1 hpl (by omega)
          have f2 : w3.frozen? ⟨rb, ro + pp * 7 + 2, none⟩ = false := hm3s.free pp 2 hpl (by omega)
          have f3 : w3.frozen? ⟨rb, ro + pp * 7 + 3, none⟩ = false := hm3s.free pp 3 hpl (by omega)
          have f4 : w3.frozen? ⟨rb, ro + pp * 7 + 4, none⟩ = false := hm3s.free pp 4 hpl (by omega)
          have f5 : w3.frozen? ⟨rb, ro + pp * 7 + 5, none⟩ = false := hm3s.free pp 5 hpl (by omega)
          have f6 : w3.frozen? ⟨rb, ro + pp * 7 + 6, none⟩ = false := hm3s.free pp 6 hpl (by omega)
          have z0 : w3.cell? ⟨rb, ro + pp * 7, none⟩ = some (.string (str x.key)) := rows_cell kReg hm3s.rd HX.out 0 _ rfl
          have z1 : w3.cell? ⟨rb, ro + pp * 7 + 1, none⟩ = some (.string (str x.text)) := rows_cell kReg hm3s.rd HX.out 1 _ rfl
          have z2 : w3.cell? ⟨rb, ro + pp * 7 + 2, none⟩ = some (.int .i64 x.ver) := rows_cell kReg hm3s.rd HX.out 2 _ rfl
          have z3 : w3.cell? ⟨rb, ro + pp * 7 + 3, none⟩ = some (.int .i64 x.time) := rows_cell kReg hm3s.rd HX.out 3 _ rfl
          have z4 : w3.cell? ⟨rb, ro + pp * 7 + 4, none⟩ = some (.int .i64 x.dot.dev) := rows_cell kReg hm3s.rd HX.out 4 _ rfl
          have z5 : w3.cell? ⟨rb, ro + pp * 7 + 5, none⟩ = some (.int .i64 x.dot.ep) := rows_cell kReg hm3s.rd HX.out 5 _ rfl
          have z6 : w3.cell? ⟨rb, ro + pp * 7 + 6, none⟩ = some (.int .i64 x.dot.seq) := rows_cell kReg hm3s.rd HX.out 6 _ rfl
          go_upto_region 7 with fail
          have hov : Own (((((((w3.setCell ⟨rb, ro + pp * 7, none⟩ (.string (str o.key))).setCell ⟨rb, ro + pp * 7 + 1, none⟩ (.string (str o.text))).setCell ⟨rb, ro + pp * 7 + 2, none⟩ (.int .i64 o.ver)).setCell ⟨rb, ro + pp * 7 + 3, none⟩ (.int .i64 o.time)).setCell ⟨rb, ro + pp * 7 + 4, none⟩ (.int .i64 o.dot.dev)).setCell ⟨rb, ro + pp * 7 + 5, none⟩ (.int .i64 o.dot.ep)).setCell ⟨rb, ro + pp * 7 + 6, none⟩ (.int .i64 o.dot.seq)) B (some ⟨rb, ro, none⟩) 7 C.regs.length h.rc (rows RegR.cells (C.regs.set pp (regOf o))) := by have q := hm3s.over kReg rfl pp hpl (regOf o); simp only [RegR.cells, regOf, World.setCells] at q; exact q
          have hxo : Ext (blk h.r) w3 (((((((w3.setCell ⟨rb, ro + pp * 7, none⟩ (.string (str o.key))).setCell ⟨rb, ro + pp * 7 + 1, none⟩ (.string (str o.text))).setCell ⟨rb, ro + pp * 7 + 2, none⟩ (.int .i64 o.ver)).setCell ⟨rb, ro + pp * 7 + 3, none⟩ (.int .i64 o.time)).setCell ⟨rb, ro + pp * 7 + 4, none⟩ (.int .i64 o.dot.dev)).setCell ⟨rb, ro + pp * 7 + 5, none⟩ (.int .i64 o.dot.ep)).setCell ⟨rb, ro + pp * 7 + 6, none⟩ (.int .i64 o.dot.seq)) := by have q := Ext.setCells (S := blk h.r) rb (ro + pp * 7) (RegR.cells (regOf o)) w3 ⟨_, hsb, rfl⟩; simp only [RegR.cells, regOf, World.setCells] at q; exact q
          rw [← hsb] at hov
          have hm4 := hm3.setR (l := C.regs.set pp (regOf o)) (by rw [List.length_set]) hov hxo (near_self _ _)
          have hC4 := hC3.ext (by simp) hxo (hno _ (by omega))
          have hR4 := hR3.ext (by simp) hxo (hno _ (by omega))
          have hx4 : Ext (upfrom B) w _ := (hxx3.upN).comp (hxo.upO hm.r)
          clear c1 hov hxo hC3 hR3 hX3 hm3s z0 z1 z2 z3 z4 z5 z6 x0 x1 x2 x3 x4 x5 x6 f0 f1 f2 f3 f4 f5 f6
          generalize ((((((w3.setCell ⟨rb, ro + pp * 7, none⟩ (.string (str o.key))).setCell ⟨rb, ro + pp * 7 + 1, none⟩ (.string (str o.text))).setCell ⟨rb, ro + pp * 7 + 2, none⟩ (.int .i64 o.ver)).setCell ⟨rb, ro + pp * 7 + 3, none⟩ (.int .i64 o.time)).setCell ⟨rb, ro + pp * 7 + 4, none⟩ (.int .i64 o.dot.dev)).setCell ⟨rb, ro + pp * 7 + 5, none⟩ (.int .i64 o.dot.ep)).setCell ⟨rb, ro + pp * 7 + 6, none⟩ (.int .i64 o.dot.seq) = w4 at *
          have hm4' : Mine { C with regs := C.regs.set pp (regOf o) } w4 B { h with r := some ⟨rb, ro, none⟩ } := by rw [← hsb]; exact hm4
          have haw : ∀ i ad, ({ h with r := some ⟨rb, ro, none⟩ } : Six).at i = some ad → ad.block ≠ g + 1 + 1 := by rw [← hsb]; exact hm.away (g := g + 1 + 1) (by omega)
          have c0 := hC4.cell 0 _ rfl
          have c1 := hC4.cell 1 _ rfl
          have c2 := hC4.cell 2 _ rfl
          have c3 := hC4.cell 3 _ rfl
          have c4 := hC4.cell 4 _ rfl
          have c5 := hC4.cell 5 _ rfl
          have z0 := hR4.cell 0 _ rfl
          have z1 := hR4.cell 1 _ rfl
          have z2 := hR4.cell 2 _ rfl
          have z3 := hR4.cell 3 _ rfl
          have z4 := hR4.cell 4 _ rfl
          have z5 := hR4.cell 5 _ rfl
          have f0 := hR4.fr 0
          have f1 := hR4.fr 1
          have f2 := hR4.fr 2
          have f3 := hR4.fr 3
          have f4 := hR4.fr 4
          have f5 := hR4.fr 5
          go_wp2_with fail
          have hbE := ((((((hR4.set 0 (.slice h.v C.v.length h.vc) (by simp)).set 1 (.slice (some ⟨rb, ro, none⟩) C.regs.length h.rc) (by simp)).set 2 (.slice h.e C.elems.length h.ec) (by simp)).set 3 (.slice h.g C.gone.length h.gc) (by simp)).set 4 (.slice h.s C.sums.length h.sc) (by simp)).set 5 (.slice h.b C.binds.length h.bc) (by simp))
          have hxE := (((((Ext.setCell (S := just (g + 1 + 1)) w4 ⟨g + 1 + 1, 0, none⟩ (.slice h.v C.v.length h.vc) rfl).comp (Ext.setCell _ ⟨g + 1 + 1, 1, none⟩ (.slice (some ⟨rb, ro, none⟩) C.regs.length h.rc) rfl)).comp (Ext.setCell _ ⟨g + 1 + 1, 2, none⟩ (.slice h.e C.elems.length h.ec) rfl)).comp (Ext.setCell _ ⟨g + 1 + 1, 3, none⟩ (.slice h.g C.gone.length h.gc) rfl)).comp (Ext.setCell _ ⟨g + 1 + 1, 4, none⟩ (.slice h.s C.sums.length h.sc) rfl)).comp (Ext.setCell _ ⟨g + 1 + 1, 5, none⟩ (.slice h.b C.binds.length h.bc) rfl)
          clear z0 f0 z1 f1 z2 f2 z3 f3 z4 f4 z5 f5
          generalize (((((w4.setCell ⟨g + 1 + 1, 0, none⟩ (.slice h.v C.v.length h.vc)).setCell ⟨g + 1 + 1, 1, none⟩ (.slice (some ⟨rb, ro, none⟩) C.regs.length h.rc)).setCell ⟨g + 1 + 1, 2, none⟩ (.slice h.e C.elems.length h.ec)).setCell ⟨g + 1 + 1, 3, none⟩ (.slice h.g C.gone.length h.gc)).setCell ⟨g + 1 + 1, 4, none⟩ (.slice h.s C.sums.length h.sc)).setCell ⟨g + 1 + 1, 5, none⟩ (.slice h.b C.binds.length h.bc) = wE at *
          have z0 := hbE.cell 0 _ rfl
          have z1 := hbE.cell 1 _ rfl
          have z2 := hbE.cell 2 _ rfl
          have z3 := hbE.cell 3 _ rfl
          have z4 := hbE.cell 4 _ rfl
          have z5 := hbE.cell 5 _ rfl
          refine bodyPost_ret (v := .agg #[.slice h.v C.v.length h.vc, .slice (some ⟨rb, ro, none⟩) C.regs.length h.rc, .slice h.e C.elems.length h.ec, .slice h.g C.gone.length h.gc, .slice h.s C.sums.length h.sc, .slice h.b C.binds.length h.bc]) ?_ rfl ?_
          · rw [res_cell1 rfl]
            go_simp
          rw [Hcl.out]
          refine ⟨{ h with r := some ⟨rb, ro, none⟩ }, ?_, ?_, ?_⟩
          · first | rfl | (simp [CollR.val, putAt_length]; done) | (simp [CollR.val]; done)
          · exact (hm4').ext hxE (fun i ad hi hj => haw i ad hi hj)
          · exact (hx4).comp (hxE.upJ (by omega))
        | false =>
          have t3' : decide (0 < o.dot.cmp x.dot) = false := decF (fun h => by rw [dcmp_gt, t3] at h; cases h)
          have Hcl := Lib.hid (show setL C.regs o = C.regs by rw [hcl, if_neg]; unfold younger; rw [t1', t2', t3]; simp)
          clear hcl t3
          go_upto_region 5 with fail
          refine wp_region_F [1, 3, 7, 11, 13, 17, 21, 23, 27] (looks [(1, fun z => Ext no w2 z), (3, fun z => Ext no w2 z), (7, fun z => Ext no w2 z), (11, fun z => Ext no w2 z), (13, fun z => Ext no w2 z), (17, fun z => Ext no w2 z), (21, fun z => Ext no w2 z), (23, fun z => Ext no w2 z), (27, fun z => Ext no w2 z)]) (by kernel_rfl) ?_
          have hT0 : ∀ k, looks [(1, fun z => Ext no w2 z), (3, fun z => Ext no w2 z), (7, fun z => Ext no w2 z), (11, fun z => Ext no w2 z), (13, fun z => Ext no w2 z), (17, fun z => Ext no w2 z), (21, fun z => Ext no w2 z), (23, fun z => Ext no w2 z), (27, fun z => Ext no w2 z)] k (w2.drew) := looks_all ⟨Ext.drew no w2, Ext.drew no w2, Ext.drew no w2, Ext.drew no w2, Ext.drew no w2, Ext.drew no w2, Ext.drew no w2, Ext.drew no w2, Ext.drew no w2, trivial⟩
          refine wpF_take 0 (v := ?_) rfl (by kernel_rfl) (by kernel_rfl) (by kernel_rfl) (fun _ _ _ h => h) hT0 (by rfl) ?_ ?_
          rotate_left
          · (intro wq; go_simp; try with_reducible rfl)
          simp only [pz]
          refine wpF_look 1 (v := .int .i64 o.time) rfl rfl (by kernel_rfl) (by kernel_rfl) (by kernel_rfl) (by kernel_rfl) (fun _ _ _ h => h) hT0 (by rfl) (fun w hS => by have hS : Ext no w2 w := hS; have q0 := hS.keeps q9 (fun h => h); go_simp) ?_
          simp only [pz]
          refine wpF_take 2 (v := ?_) rfl (by kernel_rfl) (by kernel_rfl) (by kernel_rfl) (fun _ _ _ h => h) hT0 (by rfl) ?_ ?_
          rotate_left
          · (intro wq; go_simp; try with_reducible rfl)
          simp only [pz]
          refine wpF_look 3 (v := .slice (some ⟨rb, ro, none⟩) C.regs.length h.rc) rfl rfl (by kernel_rfl) (by kernel_rfl) (by kernel_rfl) (by kernel_rfl) (fun _ _ _ h => h) hT0 (by rfl) (fun w hS => by have hS : Ext no w2 w := hS; have q0 := hS.keeps c1 (fun h => h); go_simp) ?_
          simp only [pz]
          refine wpF_take 4 (v := ?_) rfl (by kernel_rfl) (by kernel_rfl) (by kernel_rfl) (fun _ _ _ h => h) hT0 (by rfl) ?_ ?_
          rotate_left
          · (intro wq; go_simp; try with_reducible rfl)
          simp only [pz]
          refine wpF_take 5 (v := .pointer (some ⟨rb, ro + pp * 7, none⟩)) rfl (by kernel_rfl) (by kernel_rfl) (by kernel_rfl) (fun _ _ _ h => h) hT0 (by rfl) (by intro wq; go_simp) ?_
          simp only [pz]
          refine wpF_take 6 (v := ?_) rfl (by kernel_rfl) (by kernel_rfl) (by kernel_rfl) (fun _ _ _ h => h) hT0 (by rfl) ?_ ?_
          rotate_left
          · (intro wq; go_simp; try with_reducible rfl)
          simp only [pz]
          refine wpF_look 7 (v := .int .i64 x.time) rfl rfl (by kernel_rfl) (by kernel_rfl) (by kernel_rfl) (by kernel_rfl) (fun _ _ _ h => h) hT0 (by rfl) (fun w hS => by have hS : Ext no w2 w := hS; have q0 := hS.keeps y3 (fun h => h); go_simp) ?_
          simp only [pz]
          refine wpF_take 8 (v := .bool false) rfl (by kernel_rfl) (by kernel_rfl) (by kernel_rfl) (fun _ _ _ h => h) hT0 (by rfl) (by intro wq; go_simp; first | done | rfl) ?_
          simp only [pz]
          refine wpF_take 9 (v := ?_) rfl (by kernel_rfl) (by kernel_rfl) (by kernel_rfl) (fun _ _ _ h => h) hT0 (by rfl) ?_ ?_
          rotate_left
          · (intro wq; go_simp; try with_reducible rfl)
          simp only [pz]
          refine wpF_take 10 (v := ?_) rfl (by kernel_rfl) (by kernel_rfl) (by kernel_rfl) (fun _ _ _ h => h) hT0 (by rfl) ?_ ?_
          rotate_left
          · (intro wq; go_simp; try with_reducible rfl)
          simp only [pz]
          refine wpF_look 11 (v := .int .i64 o.time) rfl rfl (by kernel_rfl) (by kernel_rfl) (by kernel_rfl) (by kernel_rfl) (fun _ _ _ h => h) hT0 (by rfl) (fun w hS => by have hS : Ext no w2 w := hS; have q0 := hS.keeps q9 (fun h => h); go_simp) ?_
          simp only [pz]
          refine wpF_take 12 (v := ?_) rfl (by kernel_rfl) (by kernel_rfl) (by kernel_rfl) (fun _ _ _ h => h) hT0 (by rfl) ?_ ?_
          rotate_left
          · (intro wq; go_simp; try with_reducible rfl)
          simp only [pz]
          refine wpF_look 13 (v := .slice (some ⟨rb, ro, none⟩) C.regs.length h.rc) rfl rfl (by kernel_rfl) (by kernel_rfl) (by kernel_rfl) (by kernel_rfl) (fun _ _ _ h => h) hT0 (by rfl) (fun w hS => by have hS : Ext no w2 w := hS; have q0 := hS.keeps c1 (fun h => h); go_simp) ?_
          simp only [pz]
          refine wpF_take 14 (v := ?_) rfl (by kernel_rfl) (by kernel_rfl) (by kernel_rfl) (fun _ _ _ h => h) hT0 (by rfl) ?_ ?_
          rotate_left
          · (intro wq; go_simp; try with_reducible rfl)
          simp only [pz]
          refine wpF_take 15 (v := .pointer (some ⟨rb, ro + pp * 7, none⟩)) rfl (by kernel_rfl) (by kernel_rfl) (by kernel_rfl) (fun _ _ _ h => h) hT0 (by rfl) (by intro wq; go_simp) ?_
          simp only [pz]
          refine wpF_take 16 (v := ?_) rfl (by kernel_rfl) (by kernel_rfl) (by kernel_rfl) (fun _ _ _ h => h) hT0 (by rfl) ?_ ?_
          rotate_left
          · (intro wq; go_simp; try with_reducible rfl)
          simp only [pz]
          refine wpF_look 17 (v := .int .i64 x.time) rfl rfl (by kernel_rfl) (by kernel_rfl) (by kernel_rfl) (by kernel_rfl) (fun _ _ _ h => h) hT0 (by rfl) (fun w hS => by have hS : Ext no w2 w := hS; have q0 := hS.keeps y3 (fun h => h); go_simp) ?_
          simp only [pz]
          refine wpF_take 18 (v := .bool true) rfl (by kernel_rfl) (by kernel_rfl) (by kernel_rfl) (fun _ _ _ h => h) hT0 (by rfl) (by intro wq; go_simp; first | done | rfl) ?_
          simp only [pz]
          refine wpF_take 19 (v := ?_) rfl (by kernel_rfl) (by kernel_rfl) (by kernel_rfl) (fun _ _ _ h => h) hT0 (by rfl) ?_ ?_
          rotate_left
          · (intro wq; go_simp; try with_reducible rfl)
          simp only [pz]
          refine wpF_take 20 (v := ?_) rfl (by kernel_rfl) (by kernel_rfl) (by kernel_rfl) (fun _ _ _ h => h) hT0 (by rfl) ?_ ?_
          rotate_left
          · (intro wq; go_simp; try with_reducible rfl)
          simp only [pz]
          refine wpF_look 21 (v := .agg #[.int .i64 o.dot.dev, .int .i64 o.dot.ep, .int .i64 o.dot.seq]) rfl rfl (by kernel_rfl) (by kernel_rfl) (by kernel_rfl) (by kernel_rfl) (fun _ _ _ h => h) hT0 (by rfl) (fun w hS => by have hS : Ext no w2 w := hS; have q0 := hS.keeps q0 (fun h => h); have q1 := hS.keeps q1 (fun h => h); have q2 := hS.keeps q2 (fun h => h); go_simp) ?_
          simp only [pz]
          refine wpF_take 22 (v := ?_) rfl (by kernel_rfl) (by kernel_rfl) (by kernel_rfl) (fun _ _ _ h => h) hT0 (by rfl) ?_ ?_
          rotate_left
          · (intro wq; go_simp; try with_reducible rfl)
          simp only [pz]
          refine wpF_look 23 (v := .slice (some ⟨rb, ro, none⟩) C.regs.length h.rc) rfl rfl (by kernel_rfl) (by kernel_rfl) (by kernel_rfl) (by kernel_rfl) (fun _ _ _ h => h) hT0 (by rfl) (fun w hS => by have hS : Ext no w2 w := hS; have q0 := hS.keeps c1 (fun h => h); go_simp) ?_
          simp only [pz]
          refine wpF_take 24 (v := ?_) rfl (by kernel_rfl) (by kernel_rfl) (by kernel_rfl) (fun _ _ _ h => h) hT0 (by rfl) ?_ ?_
          rotate_left
          · (intro wq; go_simp; try with_reducible rfl)
          simp only [pz]
          refine wpF_take 25 (v := .pointer (some ⟨rb, ro + pp * 7, none⟩)) rfl (by kernel_rfl) (by kernel_rfl) (by kernel_rfl) (fun _ _ _ h => h) hT0 (by rfl) (by intro wq; go_simp) ?_
          simp only [pz]
          refine wpF_take 26 (v := ?_) rfl (by kernel_rfl) (by kernel_rfl) (by kernel_rfl) (fun _ _ _ h => h) hT0 (by rfl) ?_ ?_
          rotate_left
          · (intro wq; go_simp; try with_reducible rfl)
          simp only [pz]
          refine wpF_look 27 (v := .agg #[.int .i64 x.dot.dev, .int .i64 x.dot.ep, .int .i64 x.dot.seq]) rfl rfl (by kernel_rfl) (by kernel_rfl) (by kernel_rfl) (by kernel_rfl) (fun _ _ _ h => h) hT0 (by rfl) (fun w hS => by have hS : Ext no w2 w := hS; have q0 := hS.keeps y4 (fun h => h); have q1 := hS.keeps y5 (fun h => h); have q2 := hS.keeps y6 (fun h => h); go_simp) ?_
          simp only [pz]
          refine wpF_exec 28 rfl (by kernel_rfl) (by rfl) ?_
          intro K hK
          go_simp
          refine (dotcmp_any _ o.dot x.dot).mono ?_
          rintro e w3 ⟨rfl, hx3⟩
          have hT1 : ∀ k, looks [(1, fun z => Ext no w2 z), (3, fun z => Ext no w2 z), (7, fun z => Ext no w2 z), (11, fun z => Ext no w2 z), (13, fun z => Ext no w2 z), (17, fun z => Ext no w2 z), (21, fun z => Ext no w2 z), (23, fun z => Ext no w2 z), (27, fun z => Ext no w2 z)] k (w3) := looks_all ⟨(Ext.drew no w2).comp hx3, (Ext.drew no w2).comp hx3, (Ext.drew no w2).comp hx3, (Ext.drew no w2).comp hx3, (Ext.drew no w2).comp hx3, (Ext.drew no w2).comp hx3, (Ext.drew no w2).comp hx3, (Ext.drew no w2).comp hx3, (Ext.drew no w2).comp hx3, trivial⟩
          refine hK _ _ (looks [(1, fun z => Ext no w2 z), (3, fun z => Ext no w2 z), (7, fun z => Ext no w2 z), (11, fun z => Ext no w2 z), (13, fun z => Ext no w2 z), (17, fun z => Ext no w2 z), (21, fun z => Ext no w2 z), (23, fun z => Ext no w2 z), (27, fun z => Ext no w2 z)]) ⟨.inr (.inl (by kernel_rfl)), .inr (.inl (by kernel_rfl)), .inr (.inl (by kernel_rfl)), .inr (.inl (by kernel_rfl)), .inr (.inl (by kernel_rfl)), .inr (.inl (by kernel_rfl)), .inr (.inl (by kernel_rfl)), .inr (.inl (by kernel_rfl)), .inr (.inl (by kernel_rfl)), trivial⟩ hT1 ?_
          clear hK K
          try simp only [pz]
          replace hx3 := (Ext.drew no w2).comp hx3
          refine wpF_take 29 (v := .bool false) rfl (by kernel_rfl) (by kernel_rfl) (by kernel_rfl) (fun _ _ _ h => h) hT1 (by rfl) (by intro wq; go_simp; first | done | rfl) ?_
          simp only [pz]
          refine wpF_take 30 (v := ?_) rfl (by kernel_rfl) (by kernel_rfl) (by kernel_rfl) (fun _ _ _ h => h) hT1 (by rfl) ?_ ?_
          rotate_left
          · (intro wq; go_simp; try with_reducible rfl)
          simp only [pz]
          refine wpF_take 31 (v := ?_) rfl (by kernel_rfl) (by kernel_rfl) (by kernel_rfl) (fun _ _ _ h => h) hT1 (by rfl) ?_ ?_
          rotate_left
          · (intro wq; go_simp; try with_reducible rfl)
          simp only [pz]
          refine wpF_take 32 (v := ?_) rfl (by kernel_rfl) (by kernel_rfl) (by kernel_rfl) (fun _ _ _ h => h) hT1 (by rfl) ?_ ?_
          rotate_left
          · (intro wq; go_simp; try with_reducible rfl)
          simp only [pz]
          refine wpF_done (by kernel_rfl) ?_ _
          have hm3 := hm2.no hx3
          have hC3 := hC2.ext (by simp) hx3 (fun h => h)
          have hR3 := hR2.ext (by simp) hx3 (fun h => h)
          have hX3 := hX2.ext (by simp) hx3 (fun h => h)
          have hxx3 := hxx.comp hx3
          have hz3 := hx3.size
          clear c1 y3 y4 y5 y6 q9 q0 q1 q2
          try clear t3'
          try clear t2'
          try clear t2
          try clear t1'
          try clear t1
          clear hxx hx2 hxx1
          try clear hz2
          have hm3' : Mine C w3 B { h with r := some ⟨rb, ro, none⟩ } := by rw [← hsb]; exact hm3
          have haw : ∀ i ad, ({ h with r := some ⟨rb, ro, none⟩ } : Six).at i = some ad → ad.block ≠ g + 1 + 1 := by rw [← hsb]; exact hm.away (g := g + 1 + 1) (by omega)
          have c0 := hC3.cell 0 _ rfl
          have c1 := hC3.cell 1 _ rfl
          have c2 := hC3.cell 2 _ rfl
          have c3 := hC3.cell 3 _ rfl
          have c4 := hC3.cell 4 _ rfl
          have c5 := hC3.cell 5 _ rfl
          have z0 := hR3.cell 0 _ rfl
          have z1 := hR3.cell 1 _ rfl
          have z2 := hR3.cell 2 _ rfl
          have z3 := hR3.cell 3 _ rfl
          have z4 := hR3.cell 4 _ rfl
          have z5 := hR3.cell 5 _ rfl
          have f0 := hR3.fr 0
          have f1 := hR3.fr 1
          have f2 := hR3.fr 2
          have f3 := hR3.fr 3
          have f4 := hR3.fr 4
          have f5 := hR3.fr 5
          go_wp2_with fail
          have hbE := ((((((hR3.set 0 (.slice h.v C.v.length h.vc) (by simp)).set 1 (.slice (some ⟨rb, ro, none⟩) C.regs.length h.rc) (by simp)).set 2 (.slice h.e C.elems.length h.ec) (by simp)).set 3 (.slice h.g C.gone.length h.gc) (by simp)).set 4 (.slice h.s C.sums.length h.sc) (by simp)).set 5 (.slice h.b C.binds.length h.bc) (by simp))
          have hxE := (((((Ext.setCell (S := just (g + 1 + 1)) w3 ⟨g + 1 + 1, 0, none⟩ (.slice h.v C.v.length h.vc) rfl).comp (Ext.setCell _ ⟨g + 1 + 1, 1, none⟩ (.slice (some ⟨rb, ro, none⟩) C.regs.length h.rc) rfl)).comp (Ext.setCell _ ⟨g + 1 + 1, 2, none⟩ (.slice h.e C.elems.length h.ec) rfl)).comp (Ext.setCell _ ⟨g + 1 + 1, 3, none⟩ (.slice h.g C.gone.length h.gc) rfl)).comp (Ext.setCell _ ⟨g + 1 + 1, 4, none⟩ (.slice h.s C.sums.length h.sc) rfl)).comp (Ext.setCell _ ⟨g + 1 + 1, 5, none⟩ (.slice h.b C.binds.length h.bc) rfl)
          clear z0 f0 z1 f1 z2 f2 z3 f3 z4 f4 z5 f5
          generalize (((((w3.setCell ⟨g + 1 + 1, 0, none⟩ (.slice h.v C.v.length h.vc)).setCell ⟨g + 1 + 1, 1, none⟩ (.slice (some ⟨rb, ro, none⟩) C.regs.length h.rc)).setCell ⟨g + 1 + 1, 2, none⟩ (.slice h.e C.elems.length h.ec)).setCell ⟨g + 1 + 1, 3, none⟩ (.slice h.g C.gone.length h.gc)).setCell ⟨g + 1 + 1, 4, none⟩ (.slice h.s C.sums.length h.sc)).setCell ⟨g + 1 + 1, 5, none⟩ (.slice h.b C.binds.length h.bc) = wE at *
          have z0 := hbE.cell 0 _ rfl
          have z1 := hbE.cell 1 _ rfl
          have z2 := hbE.cell 2 _ rfl
          have z3 := hbE.cell 3 _ rfl
          have z4 := hbE.cell 4 _ rfl
          have z5 := hbE.cell 5 _ rfl
          refine bodyPost_ret (v := .agg #[.slice h.v C.v.length h.vc, .slice (some ⟨rb, ro, none⟩) C.regs.length h.rc, .slice h.e C.elems.length h.ec, .slice h.g C.gone.length h.gc, .slice h.s C.sums.length h.sc, .slice h.b C.binds.length h.bc]) ?_ rfl ?_
          · rw [res_cell1 rfl]
            go_simp
          rw [Hcl.out]
          refine ⟨{ h with r := some ⟨rb, ro, none⟩ }, ?_, ?_, ?_⟩
          · first | rfl | (simp [CollR.val, putAt_length]; done) | (simp [CollR.val]; done)
          · exact (hm3').ext hxE (fun i ad hi hj => haw i ad hi hj)
          · exact (hxx3.upN).comp (hxE.upJ (by omega))
      · have t2' : decide (o.time = x.time) = false := decF t2
        have Hcl := Lib.hid (show setL C.regs o = C.regs by rw [hcl, if_neg]; unfold younger; rw [t1', t2']; simp)
        clear hcl
        go_upto_region 5 with fail
        refine wp_region_F [1, 3, 7, 11, 13, 17] (looks [(1, fun z => Ext no w2 z), (3, fun z => Ext no w2 z), (7, fun z => Ext no w2 z), (11, fun z => Ext no w2 z), (13, fun z => Ext no w2 z), (17, fun z => Ext no w2 z)]) (by kernel_rfl) ?_
        have hT0 : ∀ k, looks [(1, fun z => Ext no w2 z), (3, fun z => Ext no w2 z), (7, fun z => Ext no w2 z), (11, fun z => Ext no w2 z), (13, fun z => Ext no w2 z), (17, fun z => Ext no w2 z)] k (w2.drew) := looks_all ⟨Ext.drew no w2, Ext.drew no w2, Ext.drew no w2, Ext.drew no w2, Ext.drew no w2, Ext.drew no w2, trivial⟩
        refine wpF_take 0 (v := ?_) rfl (by kernel_rfl) (by kernel_rfl) (by kernel_rfl) (fun _ _ _ h => h) hT0 (by rfl) ?_ ?_
        rotate_left
        · (intro wq; go_simp; try with_reducible rfl)
        simp only [pz]
        refine wpF_look 1 (v := .int .i64 o.time) rfl rfl (by kernel_rfl) (by kernel_rfl) (by kernel_rfl) (by kernel_rfl) (fun _ _ _ h => h) hT0 (by rfl) (fun w hS => by have hS : Ext no w2 w := hS; have q0 := hS.keeps q9 (fun h => h); go_simp) ?_
        simp only [pz]
        refine wpF_take 2 (v := ?_) rfl (by kernel_rfl) (by kernel_rfl) (by kernel_rfl) (fun _ _ _ h => h) hT0 (by rfl) ?_ ?_
        rotate_left
        · (intro wq; go_simp; try with_reducible rfl)
        simp only [pz]
        refine wpF_look 3 (v := .slice (some ⟨rb, ro, none⟩) C.regs.length h.rc) rfl rfl (by kernel_rfl) (by kernel_rfl) (by kernel_rfl) (by kernel_rfl) (fun _ _ _ h => h) hT0 (by rfl) (fun w hS => by have hS : Ext no w2 w := hS; have q0 := hS.keeps c1 (fun h => h); go_simp) ?_
        simp only [pz]
        refine wpF_take 4 (v := ?_) rfl (by kernel_rfl) (by kernel_rfl) (by kernel_rfl) (fun _ _ _ h => h) hT0 (by rfl) ?_ ?_
        rotate_left
        · (intro wq; go_simp; try with_reducible rfl)
        simp only [pz]
        refine wpF_take 5 (v := .pointer (some ⟨rb, ro + pp * 7, none⟩)) rfl (by kernel_rfl) (by kernel_rfl) (by kernel_rfl) (fun _ _ _ h => h) hT0 (by rfl) (by intro wq; go_simp) ?_
        simp only [pz]
        refine wpF_take 6 (v := ?_) rfl (by kernel_rfl) (by kernel_rfl) (by kernel_rfl) (fun _ _ _ h => h) hT0 (by rfl) ?_ ?_
        rotate_left
        · (intro wq; go_simp; try with_reducible rfl)
        simp only [pz]
        refine wpF_look 7 (v := .int .i64 x.time) rfl rfl (by kernel_rfl) (by kernel_rfl) (by kernel_rfl) (by kernel_rfl) (fun _ _ _ h => h) hT0 (by rfl) (fun w hS => by have hS : Ext no w2 w := hS; have q0 := hS.keeps y3 (fun h => h); go_simp) ?_
        simp only [pz]
        refine wpF_take 8 (v := .bool false) rfl (by kernel_rfl) (by kernel_rfl) (by kernel_rfl) (fun _ _ _ h => h) hT0 (by rfl) (by intro wq; go_simp; first | done | rfl) ?_
        simp only [pz]
        refine wpF_take 9 (v := ?_) rfl (by kernel_rfl) (by kernel_rfl) (by kernel_rfl) (fun _ _ _ h => h) hT0 (by rfl) ?_ ?_
        rotate_left
        · (intro wq; go_simp; try with_reducible rfl)
        simp only [pz]
        refine wpF_take 10 (v := ?_) rfl (by kernel_rfl) (by kernel_rfl) (by kernel_rfl) (fun _ _ _ h => h) hT0 (by rfl) ?_ ?_
        rotate_left
        · (intro wq; go_simp; try with_reducible rfl)
        simp only [pz]
        refine wpF_look 11 (v := .int .i64 o.time) rfl rfl (by kernel_rfl) (by kernel_rfl) (by kernel_rfl) (by kernel_rfl) (fun _ _ _ h => h) hT0 (by rfl) (fun w hS => by have hS : Ext no w2 w := hS; have q0 := hS.keeps q9 (fun h => h); go_simp) ?_
        simp only [pz]
        refine wpF_take 12 (v := ?_) rfl (by kernel_rfl) (by kernel_rfl) (by kernel_rfl) (fun _ _ _ h => h) hT0 (by rfl) ?_ ?_
        rotate_left
        · (intro wq; go_simp; try with_reducible rfl)
        simp only [pz]
        refine wpF_look 13 (v := .slice (some ⟨rb, ro, none⟩) C.regs.length h.rc) rfl rfl (by kernel_rfl) (by kernel_rfl) (by kernel_rfl) (by kernel_rfl) (fun _ _ _ h => h) hT0 (by rfl) (fun w hS => by have hS : Ext no w2 w := hS; have q0 := hS.keeps c1 (fun h => h); go_simp) ?_
        simp only [pz]
        refine wpF_take 14 (v := ?_) rfl (by kernel_rfl) (by kernel_rfl) (by kernel_rfl) (fun _ _ _ h => h) hT0 (by rfl) ?_ ?_
        rotate_left
        · (intro wq; go_simp; try with_reducible rfl)
        simp only [pz]
        refine wpF_take 15 (v := .pointer (some ⟨rb, ro + pp * 7, none⟩)) rfl (by kernel_rfl) (by kernel_rfl) (by kernel_rfl) (fun _ _ _ h => h) hT0 (by rfl) (by intro wq; go_simp) ?_
        simp only [pz]
        refine wpF_take 16 (v := ?_) rfl (by kernel_rfl) (by kernel_rfl) (by kernel_rfl) (fun _ _ _ h => h) hT0 (by rfl) ?_ ?_
        rotate_left
        · (intro wq; go_simp; try with_reducible rfl)
        simp only [pz]
        refine wpF_look 17 (v := .int .i64 x.time) rfl rfl (by kernel_rfl) (by kernel_rfl) (by kernel_rfl) (by kernel_rfl) (fun _ _ _ h => h) hT0 (by rfl) (fun w hS => by have hS : Ext no w2 w := hS; have q0 := hS.keeps y3 (fun h => h); go_simp) ?_
        simp only [pz]
        refine wpF_take 18 (v := .bool false) rfl (by kernel_rfl) (by kernel_rfl) (by kernel_rfl) (fun _ _ _ h => h) hT0 (by rfl) (by intro wq; go_simp; first | done | rfl) ?_
        simp only [pz]
        refine wpF_take 19 (v := ?_) rfl (by kernel_rfl) (by kernel_rfl) (by kernel_rfl) (fun _ _ _ h => h) hT0 (by rfl) ?_ ?_
        rotate_left
        · (intro wq; go_simp; try with_reducible rfl)
        simp only [pz]
        refine wpF_skip 20 rfl (by kernel_rfl) (by kernel_rfl) (by kernel_rfl) (fun _ _ _ h => h) hT0 (by rfl) ?_
        simp only [pz]
        refine wpF_skip 21 rfl (by kernel_rfl) (by kernel_rfl) (by kernel_rfl) (fun _ _ _ h => h) hT0 (by rfl) ?_
        simp only [pz]
        refine wpF_skip 22 rfl (by kernel_rfl) (by kernel_rfl) (by kernel_rfl) (fun _ _ _ h => h) hT0 (by rfl) ?_
        simp only [pz]
        refine wpF_skip 23 rfl (by kernel_rfl) (by kernel_rfl) (by kernel_rfl) (fun _ _ _ h => h) hT0 (by rfl) ?_
        simp only [pz]
        refine wpF_skip 24 rfl (by kernel_rfl) (by kernel_rfl) (by kernel_rfl) (fun _ _ _ h => h) hT0 (by rfl) ?_
        simp only [pz]
        refine wpF_skip 25 rfl (by kernel_rfl) (by kernel_rfl) (by kernel_rfl) (fun _ _ _ h => h) hT0 (by rfl) ?_
        simp only [pz]
        refine wpF_skip 26 rfl (by kernel_rfl) (by kernel_rfl) (by kernel_rfl) (fun _ _ _ h => h) hT0 (by rfl) ?_
        simp only [pz]
        refine wpF_skip 27 rfl (by kernel_rfl) (by kernel_rfl) (by kernel_rfl) (fun _ _ _ h => h) hT0 (by rfl) ?_
        simp only [pz]
        refine wpF_skip 28 rfl (by kernel_rfl) (by kernel_rfl) (by kernel_rfl) (fun _ _ _ h => h) hT0 (by rfl) ?_
        simp only [pz]
        refine wpF_skip 29 rfl (by kernel_rfl) (by kernel_rfl) (by kernel_rfl) (fun _ _ _ h => h) hT0 (by rfl) ?_
        simp only [pz]
        refine wpF_take 30 (v := ?_) rfl (by kernel_rfl) (by kernel_rfl) (by kernel_rfl) (fun _ _ _ h => h) hT0 (by rfl) ?_ ?_
        rotate_left
        · (intro wq; go_simp; try with_reducible rfl)
        simp only [pz]
        refine wpF_take 31 (v := ?_) rfl (by kernel_rfl) (by kernel_rfl) (by kernel_rfl) (fun _ _ _ h => h) hT0 (by rfl) ?_ ?_
        rotate_left
        · (intro wq; go_simp; try with_reducible rfl)
        simp only [pz]
        refine wpF_take 32 (v := ?_) rfl (by kernel_rfl) (by kernel_rfl) (by kernel_rfl) (fun _ _ _ h => h) hT0 (by rfl) ?_ ?_
        rotate_left
        · (intro wq; go_simp; try with_reducible rfl)
        simp only [pz]
        refine wpF_done (by kernel_rfl) ?_ _
        have hx3 := Ext.drew no w2
        generalize w2.drew = w3 at *
        have hm3 := hm2.no hx3
        have hC3 := hC2.ext (by simp) hx3 (fun h => h)
        have hR3 := hR2.ext (by simp) hx3 (fun h => h)
        have hX3 := hX2.ext (by simp) hx3 (fun h => h)
        have hxx3 := hxx.comp hx3
        have hz3 := hx3.size
        clear c1 y3 y4 y5 y6 q9 q0 q1 q2
        have hm3' : Mine C w3 B { h with r := some ⟨rb, ro, none⟩ } := by rw [← hsb]; exact hm3
        have haw : ∀ i ad, ({ h with r := some ⟨rb, ro, none⟩ } : Six).at i = some ad → ad.block ≠ g + 1 + 1 := by rw [← hsb]; exact hm.away (g := g + 1 + 1) (by omega)
        have c0 := hC3.cell 0 _ rfl
        have c1 := hC3.cell 1 _ rfl
        have c2 := hC3.cell 2 _ rfl
        have c3 := hC3.cell 3 _ rfl
        have c4 := hC3.cell 4 _ rfl
        have c5 := hC3.cell 5 _ rfl
        have z0 := hR3.cell 0 _ rfl
        have z1 := hR3.cell 1 _ rfl
        have z2 := hR3.cell 2 _ rfl
        have z3 := hR3.cell 3 _ rfl
        have z4 := hR3.cell 4 _ rfl
        have z5 := hR3.cell 5 _ rfl
        have f0 := hR3.fr 0
        have f1 := hR3.fr 1
        have f2 := hR3.fr 2
        have f3 := hR3.fr 3
        have f4 := hR3.fr 4
        have f5 := hR3.fr 5
        go_wp2_with fail
        have hbE := ((((((hR3.set 0 (.slice h.v C.v.length h.vc) (by simp)).set 1 (.slice (some ⟨rb, ro, none⟩) C.regs.length h.rc) (by simp)).set 2 (.slice h.e C.elems.length h.ec) (by simp)).set 3 (.slice h.g C.gone.length h.gc) (by simp)).set 4 (.slice h.s C.sums.length h.sc) (by simp)).set 5 (.slice h.b C.binds.length h.bc) (by simp))
        have hxE := (((((Ext.setCell (S := just (g + 1 + 1)) w3 ⟨g + 1 + 1, 0, none⟩ (.slice h.v C.v.length h.vc) rfl).comp (Ext.setCell _ ⟨g + 1 + 1, 1, none⟩ (.slice (some ⟨rb, ro, none⟩) C.regs.length h.rc) rfl)).comp (Ext.setCell _ ⟨g + 1 + 1, 2, none⟩ (.slice h.e C.elems.length h.ec) rfl)).comp (Ext.setCell _ ⟨g + 1 + 1, 3, none⟩ (.slice h.g C.gone.length h.gc) rfl)).comp (Ext.setCell _ ⟨g + 1 + 1, 4, none⟩ (.slice h.s C.sums.length h.sc) rfl)).comp (Ext.setCell _ ⟨g + 1 + 1, 5, none⟩ (.slice h.b C.binds.length h.bc) rfl)
        clear z0 f0 z1 f1 z2 f2 z3 f3 z4 f4 z5 f5
        generalize (((((w3.setCell ⟨g + 1 + 1, 0, none⟩ (.slice h.v C.v.length h.vc)).setCell ⟨g + 1 + 1, 1, none⟩ (.slice (some ⟨rb, ro, none⟩) C.regs.length h.rc)).setCell ⟨g + 1 + 1, 2, none⟩ (.slice h.e C.elems.length h.ec)).setCell ⟨g + 1 + 1, 3, none⟩ (.slice h.g C.gone.length h.gc)).setCell ⟨g + 1 + 1, 4, none⟩ (.slice h.s C.sums.length h.sc)).setCell ⟨g + 1 + 1, 5, none⟩ (.slice h.b C.binds.length h.bc) = wE at *
        have z0 := hbE.cell 0 _ rfl
        have z1 := hbE.cell 1 _ rfl
        have z2 := hbE.cell 2 _ rfl
        have z3 := hbE.cell 3 _ rfl
        have z4 := hbE.cell 4 _ rfl
        have z5 := hbE.cell 5 _ rfl
        refine bodyPost_ret (v := .agg #[.slice h.v C.v.length h.vc, .slice (some ⟨rb, ro, none⟩) C.regs.length h.rc, .slice h.e C.elems.length h.ec, .slice h.g C.gone.length h.gc, .slice h.s C.sums.length h.sc, .slice h.b C.binds.length h.bc]) ?_ rfl ?_
        · rw [res_cell1 rfl]
          go_simp
        rw [Hcl.out]
        refine ⟨{ h with r := some ⟨rb, ro, none⟩ }, ?_, ?_, ?_⟩
        · first | rfl | (simp [CollR.val, putAt_length]; done) | (simp [CollR.val]; done)
        · exact (hm3').ext hxE (fun i ad hi hj => haw i ad hi hj)
        · exact (hxx3.upN).comp (hxE.upJ (by omega))
  | false =>
    rw [his] at hlk
    have hcl : setL C.regs o = putAt (posOf RegR.key Op.bytesLess o.key C.regs) (regOf o) C.regs := by unfold setL; rw [hlk]; rfl
    generalize hpp : posOf RegR.key Op.bytesLess o.key C.regs = pp at *
    have Hcl := Lib.hid hcl
    clear hcl hlk his hpp
    have c1 := hC2.cell 1 _ rfl
    have x0 := hX2.cell 0 _ rfl
    have x1 := hX2.cell 1 _ rfl
    have x2 := hX2.cell 2 _ rfl
    have x3 := hX2.cell 3 _ rfl
    have x4 := hX2.cell 4 _ rfl
    have x5 := hX2.cell 5 _ rfl
    have x6 := hX2.cell 6 _ rfl
    go_wp2_with fail
    have hxa := Ext.alloc no w2 (.cells #[.string (str o.key), .string (str o.text), .int .i64 o.ver, .int .i64 o.time, .int .i64 o.dot.dev, .int .i64 o.dot.ep, .int .i64 o.dot.seq] 41)
    have hmA := hm2.no hxa
    have hCA := hC2.ext (by simp) hxa (fun h => h)
    have hRA := hR2.ext (by simp) hxa (fun h => h)
    refine (insertReg_any _ B h.r h.rc C.regs pp (regOf o) w2.heap.size 1 (by simp; omega) hmA.r (by have := hs.r; omega) hple (whole_new _) (fun ad ha => by have := (hm2.r.base ad ha).2.1; omega)).mono ?_
    rintro e w4 ⟨a', c', rfl, hown4, hx4, hnr4⟩
    have hm4 := hmA.setR (l := putAt pp (regOf o) C.regs) (putAt_length _ _ _).symm hown4 hx4 hnr4
    have hC4 := hCA.ext (by simp) hx4 (hno _ (by omega))
    have hR4 := hRA.ext (by simp) hx4 (hno _ (by omega))
    have hx5 : Ext (upfrom B) w w4 := ((hxx.comp hxa).upN).comp (hx4.upO hm.r)
    have haw := away_upd (h' := { h with r := a', rc := c' }) hm 1 (fun i hi => by rcases i with _ | _ | _ | _ | _ | _ | i <;> first | rfl | exact absurd rfl hi) hnr4 (g := g) (by omega) (by simp; omega)
    have haw2 := away_upd (h' := { h with r := a', rc := c' }) hm 1 (fun i hi => by rcases i with _ | _ | _ | _ | _ | _ | i <;> first | rfl | exact absurd rfl hi) hnr4 (g := g + 1 + 1) (by omega) (by simp; omega)
    clear c1 x0 x1 x2 x3 x4 x5 x6 hC2 hO2 hR2 hX2 hCA hRA
    have u4 := hC4.cell 1 _ rfl
    have v4 := hC4.fr 1
    go_upto_region 7 with fail
    have hC5 := hC4.set 1 (.slice a' (C.regs.length + 1) c') (by simp)
    have hxs : Ext (just g) w4 (w4.setCell ⟨g, 1, none⟩ (.slice a' (C.regs.length + 1) c')) := Ext.setCell _ _ _ rfl
    have hR5 := hR4.ext (by simp) hxs (fun e => by have e : g + 1 + 1 = g := e; omega)
    have hm5 := hm4.ext hxs haw
    have hx6 := hx5.comp (hxs.upJ (by omega))
    clear u4 v4 hC4 hR4
    generalize w4.setCell ⟨g, 1, none⟩ (.slice a' (C.regs.length + 1) c') = w5 at *
    have c0 := hC5.cell 0 _ rfl
    have c1 := hC5.cell 1 _ rfl
    have c2 := hC5.cell 2 _ rfl
    have c3 := hC5.cell 3 _ rfl
    have c4 := hC5.cell 4 _ rfl
    have c5 := hC5.cell 5 _ rfl
    have z0 := hR5.cell 0 _ rfl
    have z1 := hR5.cell 1 _ rfl
    have z2 := hR5.cell 2 _ rfl
    have z3 := hR5.cell 3 _ rfl
    have z4 := hR5.cell 4 _ rfl
    have z5 := hR5.cell 5 _ rfl
    have f0 := hR5.fr 0
    have f1 := hR5.fr 1
    have f2 := hR5.fr 2
    have f3 := hR5.fr 3
    have f4 := hR5.fr 4
    have f5 := hR5.fr 5
    go_wp2_with fail
    have hbE := ((((((hR5.set 0 (.slice h.v C.v.length h.vc) (by simp)).set 1 (.slice a' (C.regs.length + 1) c') (by simp)).set 2 (.slice h.e C.elems.length h.ec) (by simp)).set 3 (.slice h.g C.gone.length h.gc) (by simp)).set 4 (.slice h.s C.sums.length h.sc) (by simp)).set 5 (.slice h.b C.binds.length h.bc) (by simp))
    have hxE := (((((Ext.setCell (S := just (g + 1 + 1)) w5 ⟨g + 1 + 1, 0, none⟩ (.slice h.v C.v.length h.vc) rfl).comp (Ext.setCell _ ⟨g + 1 + 1, 1, none⟩ (.slice a' (C.regs.length + 1) c') rfl)).comp (Ext.setCell _ ⟨g + 1 + 1, 2, none⟩ (.slice h.e C.elems.length h.ec) rfl)).comp (Ext.setCell _ ⟨g + 1 + 1, 3, none⟩ (.slice h.g C.gone.length h.gc) rfl)).comp (Ext.setCell _ ⟨g + 1 + 1, 4, none⟩ (.slice h.s C.sums.length h.sc) rfl)).comp (Ext.setCell _ ⟨g + 1 + 1, 5, none⟩ (.slice h.b C.binds.length h.bc) rfl)
    clear z0 f0 z1 f1 z2 f2 z3 f3 z4 f4 z5 f5
    generalize (((((w5.setCell ⟨g + 1 + 1, 0, none⟩ (.slice h.v C.v.length h.vc)).setCell ⟨g + 1 + 1, 1, none⟩ (.slice a' (C.regs.length + 1) c')).setCell ⟨g + 1 + 1, 2, none⟩ (.slice h.e C.elems.length h.ec)).setCell ⟨g + 1 + 1, 3, none⟩ (.slice h.g C.gone.length h.gc)).setCell ⟨g + 1 + 1, 4, none⟩ (.slice h.s C.sums.length h.sc)).setCell ⟨g + 1 + 1, 5, none⟩ (.slice h.b C.binds.length h.bc) = wE at *
    have z0 := hbE.cell 0 _ rfl
    have z1 := hbE.cell 1 _ rfl
    have z2 := hbE.cell 2 _ rfl
    have z3 := hbE.cell 3 _ rfl
    have z4 := hbE.cell 4 _ rfl
    have z5 := hbE.cell 5 _ rfl
    refine bodyPost_ret (v := .agg #[.slice h.v C.v.length h.vc, .slice a' (C.regs.length + 1) c', .slice h.e C.elems.length h.ec, .slice h.g C.gone.length h.gc, .slice h.s C.sums.length h.sc, .slice h.b C.binds.length h.bc]) ?_ rfl ?_
    · rw [res_cell1 rfl]
      go_simp
    rw [Hcl.out]
    refine ⟨{ h with r := a', rc := c' }, ?_, ?_, ?_⟩
    · first | rfl | (simp [CollR.val, putAt_length]; done) | (simp [CollR.val]; done)
    · exact (hm5).ext hxE (fun i ad hi hj => haw2 i ad hi hj)
    · exact (hx6).comp (hxE.upJ (by omega))
set_option maxRecDepth 100000 in
set_option maxHeartbeats 4000000 in
theorem mean_any (w : World) (B : Nat) (C : CollR) (h : Six) (o : OpR) (a : Option Addr) (c : Nat) (hm : Mine C w B h) (hB : B ≤ w.heap.size) (hs : C.small 1099511627775) (hok : C.ok) :
    Calls Tryz.prog 27 #[C.val h, o.v a c] w fun e w' => ∃ h', e = .returned (({ C with binds := bindL C.binds o } : CollR).val h') ∧ Mine { C with binds := bindL C.binds o } w' B h' ∧ Ext (upfrom B) w w' := by
  go_enter Tryz.func27, Tryz.ntmps27
  unfold CollR.val OpR.v
  go_upto_region 1 with fail
  have hC_ := Blk.at (w) #[.slice h.v C.v.length h.vc, .slice h.r C.regs.length h.rc, .slice h.e C.elems.length h.ec, .slice h.g C.gone.length h.gc, .slice h.s C.sums.length h.sc, .slice h.b C.binds.length h.bc] 32 (w.heap.size) (by simp)
  have hx_0 := Ext.alloc no (w) (.cells #[.slice h.v C.v.length h.vc, .slice h.r C.regs.length h.rc, .slice h.e C.elems.length h.ec, .slice h.g C.gone.length h.gc, .slice h.s C.sums.length h.sc, .slice h.b C.binds.length h.bc] 32)
  have hO_ := Blk.at (w.alloc (.cells #[.slice h.v C.v.length h.vc, .slice h.r C.regs.length h.rc, .slice h.e C.elems.length h.ec, .slice h.g C.gone.length h.gc, .slice h.s C.sums.length h.sc, .slice h.b C.binds.length h.bc] 32)) #[.int .i64 o.dot.dev, .int .i64 o.dot.ep, .int .i64 o.dot.seq, .int .i64 o.coll, .int .i64 o.ver, .int .i64 o.kind, .string (str o.key), .string (str o.text), .int .i64 o.n, .int .i64 o.time, .slice a o.dots.length c] 51 (w.heap.size + 1) (by simp)
  have hx_1 := Ext.alloc no (w.alloc (.cells #[.slice h.v C.v.length h.vc, .slice h.r C.regs.length h.rc, .slice h.e C.elems.length h.ec, .slice h.g C.gone.length h.gc, .slice h.s C.sums.length h.sc, .slice h.b C.binds.length h.bc] 32)) (.cells #[.int .i64 o.dot.dev, .int .i64 o.dot.ep, .int .i64 o.dot.seq, .int .i64 o.coll, .int .i64 o.ver, .int .i64 o.kind, .string (str o.key), .string (str o.text), .int .i64 o.n, .int .i64 o.time, .slice a o.dots.length c] 51)
  have hR_ := Blk.at ((w.alloc (.cells #[.slice h.v C.v.length h.vc, .slice h.r C.regs.length h.rc, .slice h.e C.elems.length h.ec, .slice h.g C.gone.length h.gc, .slice h.s C.sums.length h.sc, .slice h.b C.binds.length h.bc] 32)).alloc (.cells #[.int .i64 o.dot.dev, .int .i64 o.dot.ep, .int .i64 o.dot.seq, .int .i64 o.coll, .int .i64 o.ver, .int .i64 o.kind, .string (str o.key), .string (str o.text), .int .i64 o.n, .int .i64 o.time, .slice a o.dots.length c] 51)) #[.slice none 0 0, .slice none 0 0, .slice none 0 0, .slice none 0 0, .slice none 0 0, .slice none 0 0] 32 (w.heap.size + 1 + 1) (by simp)
  have hx_2 := Ext.alloc no ((w.alloc (.cells #[.slice h.v C.v.length h.vc, .slice h.r C.regs.length h.rc, .slice h.e C.elems.length h.ec, .slice h.g C.gone.length h.gc, .slice h.s C.sums.length h.sc, .slice h.b C.binds.length h.bc] 32)).alloc (.cells #[.int .i64 o.dot.dev, .int .i64 o.dot.ep, .int .i64 o.dot.seq, .int .i64 o.coll, .int .i64 o.ver, .int .i64 o.kind, .string (str o.key), .string (str o.text), .int .i64 o.n, .int .i64 o.time, .slice a o.dots.length c] 51)) (.cells #[.slice none 0 0, .slice none 0 0, .slice none 0 0, .slice none 0 0, .slice none 0 0, .slice none 0 0] 32)
  have hC := (hC_.ext (by simp) hx_1 (fun h => h)).ext (by simp) hx_2 (fun h => h)
  have hO := hO_.ext (by simp) hx_2 (fun h => h)
  have hR := hR_
  have hx1 := ((hx_0).comp hx_1).comp hx_2
  clear hC_ hx_0 hO_ hx_1 hR_ hx_2
  generalize ((w.alloc (.cells #[.slice h.v C.v.length h.vc, .slice h.r C.regs.length h.rc, .slice h.e C.elems.length h.ec, .slice h.g C.gone.length h.gc, .slice h.s C.sums.length h.sc, .slice h.b C.binds.length h.bc] 32)).alloc (.cells #[.int .i64 o.dot.dev, .int .i64 o.dot.ep, .int .i64 o.dot.seq, .int .i64 o.coll, .int .i64 o.ver, .int .i64 o.kind, .string (str o.key), .string (str o.text), .int .i64 o.n, .int .i64 o.time, .slice a o.dots.length c] 51)).alloc (.cells #[.slice none 0 0, .slice none 0 0, .slice none 0 0, .slice none 0 0, .slice none 0 0, .slice none 0 0] 32) = w1 at *
  have hsz := hR.lt (by simp)
  obtain ⟨g, hg⟩ : ∃ g, g = w.heap.size := ⟨_, rfl⟩
  have hgw : w.heap.size ≤ g := by omega
  rw [← hg] at hC hO hR hsz ⊢
  clear hg
  have q0 := hO.cell 0 _ rfl
  have q1 := hO.cell 1 _ rfl
  have q2 := hO.cell 2 _ rfl
  have q4 := hO.cell 4 _ rfl
  have q7 := hO.cell 7 _ rfl
  have q8 := hO.cell 8 _ rfl
  go_upto_region 2 with fail
  clear q0 q1 q2 q4 q7 q8
  have hX := Blk.at w1 #[.int .i64 o.n, .string (str o.text), .int .i64 o.ver, .int .i64 o.dot.dev, .int .i64 o.dot.ep, .int .i64 o.dot.seq] 45 w1.heap.size rfl
  have hxa := Ext.alloc no w1 (.cells #[.int .i64 o.n, .string (str o.text), .int .i64 o.ver, .int .i64 o.dot.dev, .int .i64 o.dot.ep, .int .i64 o.dot.seq] 45)
  have hCa := hC.ext (by simp) hxa (fun h => h)
  have hOa := hO.ext (by simp) hxa (fun h => h)
  have hRa := hR.ext (by simp) hxa (fun h => h)
  have hxx1 := hx1.comp hxa
  have hm1 := hm.no hxx1
  have hsx := hX.lt (by simp)
  obtain ⟨gx, hgx⟩ : ∃ gx, gx = w1.heap.size := ⟨_, rfl⟩
  rw [← hgx] at hX hsz hsx ⊢
  clear hC hO hR hx1 hxa
  generalize w1.alloc (.cells #[.int .i64 o.n, .string (str o.text), .int .i64 o.ver, .int .i64 o.dot.dev, .int .i64 o.dot.ep, .int .i64 o.dot.seq] 45) = w1' at *
  clear hgx w1
  have c0 := hCa.cell 0 _ rfl
  have c1 := hCa.cell 1 _ rfl
  have c2 := hCa.cell 2 _ rfl
  have c3 := hCa.cell 3 _ rfl
  have c4 := hCa.cell 4 _ rfl
  have c5 := hCa.cell 5 _ rfl
  have q0 := hOa.cell 0 _ rfl
  have q1 := hOa.cell 1 _ rfl
  have q2 := hOa.cell 2 _ rfl
  have q4 := hOa.cell 4 _ rfl
  have q7 := hOa.cell 7 _ rfl
  have q8 := hOa.cell 8 _ rfl
  go_wp2_with fail
  refine (bind_any w1' C h o.n hm1.b.rd (by have := hs.b; omega) hok.b).mono ?_
  rintro e w2 ⟨rfl, hx2⟩
  have hm2 := hm1.no hx2
  have hC2 := hCa.ext (by simp) hx2 (fun h => h)
  have hO2 := hOa.ext (by simp) hx2 (fun h => h)
  have hR2 := hRa.ext (by simp) hx2 (fun h => h)
  have hX2 := hX.ext (by simp) hx2 (fun h => h)
  have hxx := hxx1.comp hx2
  have hz2 := hx2.size
  clear c0 c1 c2 c3 c4 c5 q0 q1 q2 q4 q7 q8 hCa hOa hRa hX
  have hlk := look_at intOrd o.n C.binds hok.b
  have hple := posOf_le (κ := BindR.id) (lt := intLt) o.n C.binds
  have hno : ∀ q, w.heap.size ≤ q → ¬ blk h.b q := by
    rintro q hq ⟨ad, ha, hb⟩
    have := (hm.b.base ad ha).2.1
    omega
  cases his : isAt BindR.id intLt o.n C.binds with
  | true =>
    obtain ⟨x, hx, hxk⟩ := isAt_some his
    rw [his, if_pos rfl, hx] at hlk
    generalize hpp : posOf BindR.id intLt o.n C.binds = pp at *
    have hcl : bindL C.binds o = if DotR.lt o.dot x.dot = true then C.binds.set pp (bindOf o) else C.binds := by unfold bindL; rw [hlk, hpp]
    clear hlk his hpp
    have hpl : pp < C.binds.length := (List.getElem?_eq_some_iff.1 hx).1
    obtain ⟨rb, ro, hsb⟩ := hm2.b.lits (by have := hm2.b.nc; omega)
    have hm2s := hm2.b
    rw [hsb] at hC2 hm2s
    have HX := Lib.hid hx
    clear hx hxk
    have c5 := hC2.cell 5 _ rfl
    have y3 : w2.cell? ⟨rb, ro + pp * 6 + 3, none⟩ = some (.int .i64 x.dot.dev) := rows_cell kBind hm2s.rd HX.out 3 _ rfl
    have y4 : w2.cell? ⟨rb, ro + pp * 6 + 4, none⟩ = some (.int .i64 x.dot.ep) := rows_cell kBind hm2s.rd HX.out 4 _ rfl
    have y5 : w2.cell? ⟨rb, ro + pp * 6 + 5, none⟩ = some (.int .i64 x.dot.seq) := rows_cell kBind hm2s.rd HX.out 5 _ rfl
    have q0 := hO2.cell 0 _ rfl
    have q1 := hO2.cell 1 _ rfl
    have q2 := hO2.cell 2 _ rfl
    cases t3 : DotR.lt o.dot x.dot with
    | true =>
      have t3' : decide (o.dot.cmp x.dot < 0) = true := decT ((DotR.cmp_lt _ _).2 t3)
      have Hcl := Lib.hid (show bindL C.binds o = C.binds.set pp (bindOf o) by rw [hcl, if_pos t3])
      clear hcl t3
      go_upto_region 5 with fail
      refine wp_region_F [1, 3, 7] (looks [(1, fun z => Ext no w2 z), (3, fun z => Ext no w2 z), (7, fun z => Ext no w2 z)]) (by kernel_rfl) ?_
      have hT0 : ∀ k, looks [(1, fun z => Ext no w2 z), (3, fun z => Ext no w2 z), (7, fun z => Ext no w2 z)] k (w2.drew) := looks_all ⟨Ext.drew no w2, Ext.drew no w2, Ext.drew no w2, trivial⟩
      refine wpF_take 0 (v := ?_) rfl (by kernel_rfl) (by kernel_rfl) (by kernel_rfl) (fun _ _ _ h => h) hT0 (by rfl) ?_ ?_
      rotate_left
      · (intro wq; go_simp; try with_reducible rfl)
      simp only [pz]
      refine wpF_look 1 (v := .agg #[.int .i64 o.dot.dev, .int .i64 o.dot.ep, .int .i64 o.dot.seq]) rfl rfl (by kernel_rfl) (by kernel_rfl) (by kernel_rfl) (by kernel_rfl) (fun _ _ _ h => h) hT0 (by rfl) (fun w hS => by have hS : Ext no w2 w := hS; have q0 := hS.keeps q0 (fun h => h); have q1 := hS.keeps q1 (fun h => h); have q2 := hS.keeps q2 (fun h => h); go_simp) ?_
      simp only [pz]
      refine wpF_take 2 (v := ?_) rfl (by kernel_rfl) (by kernel_rfl) (by kernel_rfl) (fun _ _ _ h => h) hT0 (by rfl) ?_ ?_
      rotate_left
      · (intro wq; go_simp; try with_reducible rfl)
      simp only [pz]
      refine wpF_look 3 (v := .slice (some ⟨rb, ro, none⟩) C.binds.length h.bc) rfl rfl (by kernel_rfl) (by kernel_rfl) (by kernel_rfl) (by kernel_rfl) (fun _ _ _ h => h) hT0 (by rfl) (fun w hS => by have hS : Ext no w2 w := hS; have q0 := hS.keeps c5 (fun h => h); go_simp) ?_
      simp only [pz]
      refine wpF_take 4 (v := ?_) rfl (by kernel_rfl) (by kernel_rfl) (by kernel_rfl) (fun _ _ _ h => h) hT0 (by rfl) ?_ ?_
      rotate_left
      · (intro wq; go_simp; try with_reducible rfl)
      simp only [pz]
      refine wpF_take 5 (v := .pointer (some ⟨rb, ro + pp * 6, none⟩)) rfl (by kernel_rfl) (by kernel_rfl) (by kernel_rfl) (fun _ _ _ h => h) hT0 (by rfl) (by intro wq; go_simp) ?_
      simp only [pz]
      refine wpF_take 6 (v := ?_) rfl (by kernel_rfl) (by kernel_rfl) (by kernel_rfl) (fun _ _ _ h => h) hT0 (by rfl) ?_ ?_
      rotate_left
      · (intro wq; go_simp; try with_reducible rfl)
      simp only [pz]
      refine wpF_look 7 (v := .agg #[.int .i64 x.dot.dev, .int .i64 x.dot.ep, .int .i64 x.dot.seq]) rfl rfl (by kernel_rfl) (by kernel_rfl) (by kernel_rfl) (by kernel_rfl) (fun _ _ _ h => h) hT0 (by rfl) (fun w hS => by have hS : Ext no w2 w := hS; have q0 := hS.keeps y3 (fun h => h); have q1 := hS.keeps y4 (fun h => h); have q2 := hS.keeps y5 (fun h => h); go_simp) ?_
      simp only [pz]
      refine wpF_exec 8 rfl (by kernel_rfl) (by rfl) ?_
      intro K hK
      go_simp
      refine (dotcmp_any _ o.dot x.dot).mono ?_
      rintro e w3 ⟨rfl, hx3⟩
      have hT1 : ∀ k, looks [(1, fun z => Ext no w2 z), (3, fun z => Ext no w2 z), (7, fun z => Ext no w2 z)] k (w3) := looks_all ⟨(Ext.drew no w2).comp hx3, (Ext.drew no w2).comp hx3, (Ext.drew no w2).comp hx3, trivial⟩
      refine hK _ _ (looks [(1, fun z => Ext no w2 z), (3, fun z => Ext no w2 z), (7, fun z => Ext no w2 z)]) ⟨.inr (.inl (by kernel_rfl)), .inr (.inl (by kernel_rfl)), .inr (.inl (by kernel_rfl)), trivial⟩ hT1 ?_
      clear hK K
      try simp only [pz]
      replace hx3 := (Ext.drew no w2).comp hx3
      refine wpF_take 9 (v := .bool true) rfl (by kernel_rfl) (by kernel_rfl) (by kernel_rfl) (fun _ _ _ h => h) hT1 (by rfl) (by intro wq; go_simp; first | done | rfl) ?_
      simp only [pz]
      refine wpF_take 10 (v := ?_) rfl (by kernel_rfl) (by kernel_rfl) (by kernel_rfl) (fun _ _ _ h => h) hT1 (by rfl) ?_ ?_
      rotate_left
      · (intro wq; go_simp; try with_reducible rfl)
      simp only [pz]
      refine wpF_done (by kernel_rfl) ?_ _
      have hm3 := hm2.no hx3
      have hC3 := hC2.ext (by simp) hx3 (fun h => h)
      have hR3 := hR2.ext (by simp) hx3 (fun h => h)
      have hX3 := hX2.ext (by simp) hx3 (fun h => h)
      have hxx3 := hxx.comp hx3
      have hz3 := hx3.size
      clear c5 y3 y4 y5 q0 q1 q2
      try clear t3'
      try clear t2'
      try clear t2
      try clear t1'
      try clear t1
      clear hxx hx2 hxx1
      try clear hz2
      have hm3s := hm3.b
      rw [hsb] at hm3s
      have c5 := hC3.cell 5 _ rfl
      have x0 := hX3.cell 0 _ rfl
      have x1 := hX3.cell 1 _ rfl
      have x2 := hX3.cell 2 _ rfl
      have x3 := hX3.cell 3 _ rfl
      have x4 := hX3.cell 4 _ rfl
      have x5 := hX3.cell 5 _ rfl
      have f0 : w3.frozen? ⟨rb, ro + pp * 6, none⟩ = false := hm3s.free pp 0 hpl (by omega)
      have f1 : w3.frozen? ⟨rb, ro + pp * 6 + 1, none⟩ = false := hm3s.free pp 1 hpl (by omega)
      have f2 : w3.frozen? ⟨rb, ro + pp * 6 + 2, none⟩ = false := hm3s.free pp 2 hpl (by omega)
      have f3 : w3.frozen? ⟨rb, ro + pp * 6 + 3, none⟩ = false := hm3s.free pp 3 hpl (by omega)
      have f4 : w3.frozen? ⟨rb, ro + pp * 6 + 4, none⟩ = false := hm3s.free pp 4 hpl (by omega)
      have f5 : w3.frozen? ⟨rb, ro + pp * 6 + 5, none⟩ = false := hm3s.free pp 5 hpl (by omega)
      have z0 : w3.cell? ⟨rb, ro + pp * 6, none⟩ = some (.int .i64 x.id) := rows_cell kBind hm3s.rd HX.out 0 _ rfl
      have z1 : w3.cell? ⟨rb, ro + pp * 6 + 1, none⟩ = some (.string (str x.text)) := rows_cell kBind hm3s.rd HX.out 1 _ rfl
      have z2 : w3.cell? ⟨rb, ro + pp * 6 + 2, none⟩ = some (.int .i64 x.ver) := rows_cell kBind hm3s.rd HX.out 2 _ rfl
      have z3 : w3.cell? ⟨rb, ro + pp * 6 + 3, none⟩ = some (.int .i64 x.dot.dev) := rows_cell kBind hm3s.rd HX.out 3 _ rfl
      have z4 : w3.cell? ⟨rb, ro + pp * 6 + 4, none⟩ = some (.int .i64 x.dot.ep) := rows_cell kBind hm3s.rd HX.out 4 _ rfl
      have z5 : w3.cell? ⟨rb, ro + pp * 6 + 5, none⟩ = some (.int .i64 x.dot.seq) := rows_cell kBind hm3s.rd HX.out 5 _ rfl
      go_upto_region 7 with fail
      have hov : Own ((((((w3.setCell ⟨rb, ro + pp * 6, none⟩ (.int .i64 o.n)).setCell ⟨rb, ro + pp * 6 + 1, none⟩ (.string (str o.text))).setCell ⟨rb, ro + pp * 6 + 2, none⟩ (.int .i64 o.ver)).setCell ⟨rb, ro + pp * 6 + 3, none⟩ (.int .i64 o.dot.dev)).setCell ⟨rb, ro + pp * 6 + 4, none⟩ (.int .i64 o.dot.ep)).setCell ⟨rb, ro + pp * 6 + 5, none⟩ (.int .i64 o.dot.seq)) B (some ⟨rb, ro, none⟩) 6 C.binds.length h.bc (rows BindR.cells (C.binds.set pp (bindOf o))) := by have q := hm3s.over kBind rfl pp hpl (bindOf o); simp only [BindR.cells, bindOf, World.setCells] at q; exact q
      have hxo : Ext (blk h.b) w3 ((((((w3.setCell ⟨rb, ro + pp * 6, none⟩ (.int .i64 o.n)).setCell ⟨rb, ro + pp * 6 + 1, none⟩ (.string (str o.text))).setCell ⟨rb, ro + pp * 6 + 2, none⟩ (.int .i64 o.ver)).setCell ⟨rb, ro + pp * 6 + 3, none⟩ (.int .i64 o.dot.dev)).setCell ⟨rb, ro + pp * 6 + 4, none⟩ (.int .i64 o.dot.ep)).setCell ⟨rb, ro + pp * 6 + 5, none⟩ (.int .i64 o.dot.seq)) := by have q := Ext.setCells (S := blk h.b) rb (ro + pp * 6) (BindR.cells (bindOf o)) w3 ⟨_, hsb, rfl⟩; simp only [BindR.cells, bindOf, World.setCells] at q; exact q
      rw [← hsb] at hov
      have hm4 := hm3.setB (l := C.binds.set pp (bindOf o)) (by rw [List.length_set]) hov hxo (near_self _ _)
      have hC4 := hC3.ext (by simp) hxo (hno _ (by omega))
      have hR4 := hR3.ext (by simp) hxo (hno _ (by omega))
      have hx4 : Ext (upfrom B) w _ := (hxx3.upN).comp (hxo.upO hm.b)
      clear c5 hov hxo hC3 hR3 hX3 hm3s z0 z1 z2 z3 z4 z5 x0 x1 x2 x3 x4 x5 f0 f1 f2 f3 f4 f5
      generalize (((((w3.setCell ⟨rb, ro + pp * 6, none⟩ (.int .i64 o.n)).setCell ⟨rb, ro + pp * 6 + 1, none⟩ (.string (str o.text))).setCell ⟨rb, ro + pp * 6 + 2, none⟩ (.int .i64 o.ver)).setCell ⟨rb, ro + pp * 6 + 3, none⟩ (.int .i64 o.dot.dev)).setCell ⟨rb, ro + pp * 6 + 4, none⟩ (.int .i64 o.dot.ep)).setCell ⟨rb, ro + pp * 6 + 5, none⟩ (.int .i64 o.dot.seq) = w4 at *
      have hm4' : Mine { C with binds := C.binds.set pp (bindOf o) } w4 B { h with b := some ⟨rb, ro, none⟩ } := by rw [← hsb]; exact hm4
      have haw : ∀ i ad, ({ h with b := some ⟨rb, ro, none⟩ } : Six).at i = some ad → ad.block ≠ g + 1 + 1 := by rw [← hsb]; exact hm.away (g := g + 1 + 1) (by omega)
      have c0 := hC4.cell 0 _ rfl
      have c1 := hC4.cell 1 _ rfl
      have c2 := hC4.cell 2 _ rfl
      have c3 := hC4.cell 3 _ rfl
      have c4 := hC4.cell 4 _ rfl
      have c5 := hC4.cell 5 _ rfl
      have z0 := hR4.cell 0 _ rfl
      have z1 := hR4.cell 1 _ rfl
      have z2 := hR4.cell 2 _ rfl
      have z3 := hR4.cell 3 _ rfl
      have z4 := hR4.cell 4 _ rfl
      have z5 := hR4.cell 5 _ rfl
      have f0 := hR4.fr 0
      have f1 := hR4.fr 1
      have f2 := hR4.fr 2
      have f3 := hR4.fr 3
      have f4 := hR4.fr 4
      have f5 := hR4.fr 5
      go_wp2_with fail
      have hbE := ((((((hR4.set 0 (.slice h.v C.v.length h.vc) (by simp)).set 1 (.slice h.r C.regs.length h.rc) (by simp)).set 2 (.slice h.e C.elems.length h.ec) (by simp)).set 3 (.slice h.g C.gone.length h.gc) (by simp)).set 4 (.slice h.s C.sums.length h.sc) (by simp)).set 5 (.slice (some ⟨rb, ro, none⟩) C.binds.length h.bc) (by simp))
      have hxE := (((((Ext.setCell (S := just (g + 1 + 1)) w4 ⟨g + 1 + 1, 0, none⟩ (.slice h.v C.v.length h.vc) rfl).comp (Ext.setCell _ ⟨g + 1 + 1, 1, none⟩ (.slice h.r C.regs.length h.rc) rfl)).comp (Ext.setCell _ ⟨g + 1 + 1, 2, none⟩ (.slice h.e C.elems.length h.ec) rfl)).comp (Ext.setCell _ ⟨g + 1 + 1, 3, none⟩ (.slice h.g C.gone.length h.gc) rfl)).comp (Ext.setCell _ ⟨g + 1 + 1, 4, none⟩ (.slice h.s C.sums.length h.sc) rfl)).comp (Ext.setCell _ ⟨g + 1 + 1, 5, none⟩ (.slice (some ⟨rb, ro, none⟩) C.binds.length h.bc) rfl)
      clear z0 f0 z1 f1 z2 f2 z3 f3 z4 f4 z5 f5
      generalize (((((w4.setCell ⟨g + 1 + 1, 0, none⟩ (.slice h.v C.v.length h.vc)).setCell ⟨g + 1 + 1, 1, none⟩ (.slice h.r C.regs.length h.rc)).setCell ⟨g + 1 + 1, 2, none⟩ (.slice h.e C.elems.length h.ec)).setCell ⟨g + 1 + 1, 3, none⟩ (.slice h.g C.gone.length h.gc)).setCell ⟨g + 1 + 1, 4, none⟩ (.slice h.s C.sums.length h.sc)).setCell ⟨g + 1 + 1, 5, none⟩ (.slice (some ⟨rb, ro, none⟩) C.binds.length h.bc) = wE at *
      have z0 := hbE.cell 0 _ rfl
      have z1 := hbE.cell 1 _ rfl
      have z2 := hbE.cell 2 _ rfl
      have z3 := hbE.cell 3 _ rfl
      have z4 := hbE.cell 4 _ rfl
      have z5 := hbE.cell 5 _ rfl
      refine bodyPost_ret (v := .agg #[.slice h.v C.v.length h.vc, .slice h.r C.regs.length h.rc, .slice h.e C.elems.length h.ec, .slice h.g C.gone.length h.gc, .slice h.s C.sums.length h.sc, .slice (some ⟨rb, ro, none⟩) C.binds.length h.bc]) ?_ rfl ?_
      · rw [res_cell1 rfl]
        go_simp
      rw [Hcl.out]
      refine ⟨{ h with b := some ⟨rb, ro, none⟩ }, ?_, ?_, ?_⟩
      · first | rfl | (simp [CollR.val, putAt_length]; done) | (simp [CollR.val]; done)
      · exact (hm4').ext hxE (fun i ad hi hj => haw i ad hi hj)
      · exact (hx4).comp (hxE.upJ (by omega))
    | false =>
      have t3' : decide (o.dot.cmp x.dot < 0) = false := decF (fun h => by rw [DotR.cmp_lt, t3] at h; cases h)
      have Hcl := Lib.hid (show bindL C.binds o = C.binds by rw [hcl, if_neg (by rw [t3]; decide)])
      clear hcl t3
      go_upto_region 5 with fail
      refine wp_region_F [1, 3, 7] (looks [(1, fun z => Ext no w2 z), (3, fun z => Ext no w2 z), (7, fun z => Ext no w2 z)]) (by kernel_rfl) ?_
      have hT0 : ∀ k, looks [(1, fun z => Ext no w2 z), (3, fun z => Ext no w2 z), (7, fun z => Ext no w2 z)] k (w2.drew) := looks_all ⟨Ext.drew no w2, Ext.drew no w2, Ext.drew no w2, trivial⟩
      refine wpF_take 0 (v := ?_) rfl (by kernel_rfl) (by kernel_rfl) (by kernel_rfl) (fun _ _ _ h => h) hT0 (by rfl) ?_ ?_
      rotate_left
      · (intro wq; go_simp; try with_reducible rfl)
      simp only [pz]
      refine wpF_look 1 (v := .agg #[.int .i64 o.dot.dev, .int .i64 o.dot.ep, .int .i64 o.dot.seq]) rfl rfl (by kernel_rfl) (by kernel_rfl) (by kernel_rfl) (by kernel_rfl) (fun _ _ _ h => h) hT0 (by rfl) (fun w hS => by have hS : Ext no w2 w := hS; have q0 := hS.keeps q0 (fun h => h); have q1 := hS.keeps q1 (fun h => h); have q2 := hS.keeps q2 (fun h => h); go_simp) ?_
      simp only [pz]
      refine wpF_take 2 (v := ?_) rfl (by kernel_rfl) (by kernel_rfl) (by kernel_rfl) (fun _ _ _ h => h) hT0 (by rfl) ?_ ?_
      rotate_left
      · (intro wq; go_simp; try with_reducible rfl)
      simp only [pz]
      refine wpF_look 3 (v := .slice (some ⟨rb, ro, none⟩) C.binds.length h.bc) rfl rfl (by kernel_rfl) (by kernel_rfl) (by kernel_rfl) (by kernel_rfl) (fun _ _ _ h => h) hT0 (by rfl) (fun w hS => by have hS : Ext no w2 w := hS; have q0 := hS.keeps c5 (fun h => h); go_simp) ?_
      simp only [pz]
      refine wpF_take 4 (v := ?_) rfl (by kernel_rfl) (by kernel_rfl) (by kernel_rfl) (fun _ _ _ h => h) hT0 (by rfl) ?_ ?_
      rotate_left
      · (intro wq; go_simp; try with_reducible rfl)
      simp only [pz]
      refine wpF_take 5 (v := .pointer (some ⟨rb, ro + pp * 6, none⟩)) rfl (by kernel_rfl) (by kernel_rfl) (by kernel_rfl) (fun _ _ _ h => h) hT0 (by rfl) (by intro wq; go_simp) ?_
      simp only [pz]
      refine wpF_take 6 (v := ?_) rfl (by kernel_rfl) (by kernel_rfl) (by kernel_rfl) (fun _ _ _ h => h) hT0 (by rfl) ?_ ?_
      rotate_left
      · (intro wq; go_simp; try with_reducible rfl)
      simp only [pz]
      refine wpF_look 7 (v := .agg #[.int .i64 x.dot.dev, .int .i64 x.dot.ep, .int .i64 x.dot.seq]) rfl rfl (by kernel_rfl) (by kernel_rfl) (by kernel_rfl) (by kernel_rfl) (fun _ _ _ h => h) hT0 (by rfl) (fun w hS => by have hS : Ext no w2 w := hS; have q0 := hS.keeps y3 (fun h => h); have q1 := hS.keeps y4 (fun h => h); have q2 := hS.keeps y5 (fun h => h); go_simp) ?_
      simp only [pz]
      refine wpF_exec 8 rfl (by kernel_rfl) (by rfl) ?_
      intro K hK
      go_simp
      refine (dotcmp_any _ o.dot x.dot).mono ?_
      rintro e w3 ⟨rfl, hx3⟩
      have hT1 : ∀ k, looks [(1, fun z => Ext no w2 z), (3, fun z => Ext no w2 z), (7, fun z => Ext no w2 z)] k (w3) := looks_all ⟨(Ext.drew no w2).comp hx3, (Ext.drew no w2).comp hx3, (Ext.drew no w2).comp hx3, trivial⟩
      refine hK _ _ (looks [(1, fun z => Ext no w2 z), (3, fun z => Ext no w2 z), (7, fun z => Ext no w2 z)]) ⟨.inr (.inl (by kernel_rfl)), .inr (.inl (by kernel_rfl)), .inr (.inl (by kernel_rfl)), trivial⟩ hT1 ?_
      clear hK K
      try simp only [pz]
      replace hx3 := (Ext.drew no w2).comp hx3
      refine wpF_take 9 (v := .bool false) rfl (by kernel_rfl) (by kernel_rfl) (by kernel_rfl) (fun _ _ _ h => h) hT1 (by rfl) (by intro wq; go_simp; first | done | rfl) ?_
      simp only [pz]
      refine wpF_take 10 (v := ?_) rfl (by kernel_rfl) (by kernel_rfl) (by kernel_rfl) (fun _ _ _ h => h) hT1 (by rfl) ?_ ?_
      rotate_left
      · (intro wq; go_simp; try with_reducible rfl)
      simp only [pz]
      refine wpF_done (by kernel_rfl) ?_ _
      have hm3 := hm2.no hx3
      have hC3 := hC2.ext (by simp) hx3 (fun h => h)
      have hR3 := hR2.ext (by simp) hx3 (fun h => h)
      have hX3 := hX2.ext (by simp) hx3 (fun h => h)
      have hxx3 := hxx.comp hx3
      have hz3 := hx3.size
      clear c5 y3 y4 y5 q0 q1 q2
      try clear t3'
      try clear t2'
      try clear t2
      try clear t1'
      try clear t1
      clear hxx hx2 hxx1
      try clear hz2
      have hm3' : Mine C w3 B { h with b := some ⟨rb, ro, none⟩ } := by rw [← hsb]; exact hm3
      have haw : ∀ i ad, ({ h with b := some ⟨rb, ro, none⟩ } : Six).at i = some ad → ad.block ≠ g + 1 + 1 := by rw [← hsb]; exact hm.away (g := g + 1 + 1) (by omega)
      have c0 := hC3.cell 0 _ rfl
      have c1 := hC3.cell 1 _ rfl
      have c2 := hC3.cell 2 _ rfl
      have c3 := hC3.cell 3 _ rfl
      have c4 := hC3.cell 4 _ rfl
      have c5 := hC3.cell 5 _ rfl
      have z0 := hR3.cell 0 _ rfl
      have z1 := hR3.cell 1 _ rfl
      have z2 := hR3.cell 2 _ rfl
      have z3 := hR3.cell 3 _ rfl
      have z4 := hR3.cell 4 _ rfl
      have z5 := hR3.cell 5 _ rfl
      have f0 := hR3.fr 0
      have f1 := hR3.fr 1
      have f2 := hR3.fr 2
      have f3 := hR3.fr 3
      have f4 := hR3.fr 4
      have f5 := hR3.fr 5
      go_wp2_with fail
      have hbE := ((((((hR3.set 0 (.slice h.v C.v.length h.vc) (by simp)).set 1 (.slice h.r C.regs.length h.rc) (by simp)).set 2 (.slice h.e C.elems.length h.ec) (by simp)).set 3 (.slice h.g C.gone.length h.gc) (by simp)).set 4 (.slice h.s C.sums.length h.sc) (by simp)).set 5 (.slice (some ⟨rb, ro, none⟩) C.binds.length h.bc) (by simp))
      have hxE := (((((Ext.setCell (S := just (g + 1 + 1)) w3 ⟨g + 1 + 1, 0, none⟩ (.slice h.v C.v.length h.vc) rfl).comp (Ext.setCell _ ⟨g + 1 + 1, 1, none⟩ (.slice h.r C.regs.length h.rc) rfl)).comp (Ext.setCell _ ⟨g + 1 + 1, 2, none⟩ (.slice h.e C.elems.length h.ec) rfl)).comp (Ext.setCell _ ⟨g + 1 + 1, 3, none⟩ (.slice h.g C.gone.length h.gc) rfl)).comp (Ext.setCell _ ⟨g + 1 + 1, 4, none⟩ (.slice h.s C.sums.length h.sc) rfl)).comp (Ext.setCell _ ⟨g + 1 + 1, 5, none⟩ (.slice (some ⟨rb, ro, none⟩) C.binds.length h.bc) rfl)
      clear z0 f0 z1 f1 z2 f2 z3 f3 z4 f4 z5 f5
      generalize (((((w3.setCell ⟨g + 1 + 1, 0, none⟩ (.slice h.v C.v.length h.vc)).setCell ⟨g + 1 + 1, 1, none⟩ (.slice h.r C.regs.length h.rc)).setCell ⟨g + 1 + 1, 2, none⟩ (.slice h.e C.elems.length h.ec)).setCell ⟨g + 1 + 1, 3, none⟩ (.slice h.g C.gone.length h.gc)).setCell ⟨g + 1 + 1, 4, none⟩ (.slice h.s C.sums.length h.sc)).setCell ⟨g + 1 + 1, 5, none⟩ (.slice (some ⟨rb, ro, none⟩) C.binds.length h.bc) = wE at *
      have z0 := hbE.cell 0 _ rfl
      have z1 := hbE.cell 1 _ rfl
      have z2 := hbE.cell 2 _ rfl
      have z3 := hbE.cell 3 _ rfl
      have z4 := hbE.cell 4 _ rfl
      have z5 := hbE.cell 5 _ rfl
      refine bodyPost_ret (v := .agg #[.slice h.v C.v.length h.vc, .slice h.r C.regs.length h.rc, .slice h.e C.elems.length h.ec, .slice h.g C.gone.length h.gc, .slice h.s C.sums.length h.sc, .slice (some ⟨rb, ro, none⟩) C.binds.length h.bc]) ?_ rfl ?_
      · rw [res_cell1 rfl]
        go_simp
      rw [Hcl.out]
      refine ⟨{ h with b := some ⟨rb, ro, none⟩ }, ?_, ?_, ?_⟩
      · first | rfl | (simp [CollR.val, putAt_length]; done) | (simp [CollR.val]; done)
      · exact (hm3').ext hxE (fun i ad hi hj => haw i ad hi hj)
      · exact (hxx3.upN).comp (hxE.upJ (by omega))
  | false =>
    rw [his] at hlk
    have hcl : bindL C.binds o = putAt (posOf BindR.id intLt o.n C.binds) (bindOf o) C.binds := by unfold bindL; rw [hlk]; rfl
    generalize hpp : posOf BindR.id intLt o.n C.binds = pp at *
    have Hcl := Lib.hid hcl
    clear hcl hlk his hpp
    have c5 := hC2.cell 5 _ rfl
    have x0 := hX2.cell 0 _ rfl
    have x1 := hX2.cell 1 _ rfl
    have x2 := hX2.cell 2 _ rfl
    have x3 := hX2.cell 3 _ rfl
    have x4 := hX2.cell 4 _ rfl
    have x5 := hX2.cell 5 _ rfl
    go_wp2_with fail
    have hxa := Ext.alloc no w2 (.cells #[.int .i64 o.n, .string (str o.text), .int .i64 o.ver, .int .i64 o.dot.dev, .int .i64 o.dot.ep, .int .i64 o.dot.seq] 45)
    have hmA := hm2.no hxa
    have hCA := hC2.ext (by simp) hxa (fun h => h)
    have hRA := hR2.ext (by simp) hxa (fun h => h)
    refine (insertBind_any _ B h.b h.bc C.binds pp (bindOf o) w2.heap.size 1 (by simp; omega) hmA.b (by have := hs.b; omega) hple (whole_new _) (fun ad ha => by have := (hm2.b.base ad ha).2.1; omega)).mono ?_
    rintro e w4 ⟨a', c', rfl, hown4, hx4, hnr4⟩
    have hm4 := hmA.setB (l := putAt pp (bindOf o) C.binds) (putAt_length _ _ _).symm hown4 hx4 hnr4
    have hC4 := hCA.ext (by simp) hx4 (hno _ (by omega))
    have hR4 := hRA.ext (by simp) hx4 (hno _ (by omega))
    have hx5 : Ext (upfrom B) w w4 := ((hxx.comp hxa).upN).comp (hx4.upO hm.b)
    have haw := away_upd (h' := { h with b := a', bc := c' }) hm 5 (fun i hi => by rcases i with _ | _ | _ | _ | _ | _ | i <;> first | rfl | exact absurd rfl hi) hnr4 (g := g) (by omega) (by simp; omega)
    have haw2 := away_upd (h' := { h with b := a', bc := c' }) hm 5 (fun i hi => by rcases i with _ | _ | _ | _ | _ | _ | i <;> first | rfl | exact absurd rfl hi) hnr4 (g := g + 1 + 1) (by omega) (by simp; omega)
    clear c5 x0 x1 x2 x3 x4 x5 hC2 hO2 hR2 hX2 hCA hRA
    have u4 := hC4.cell 5 _ rfl
    have v4 := hC4.fr 5
    go_upto_region 7 with fail
    have hC5 := hC4.set 5 (.slice a' (C.binds.length + 1) c') (by simp)
    have hxs : Ext (just g) w4 (w4.setCell ⟨g, 5, none⟩ (.slice a' (C.binds.length + 1) c')) := Ext.setCell _ _ _ rfl
    have hR5 := hR4.ext (by simp) hxs (fun e => by have e : g + 1 + 1 = g := e; omega)
    have hm5 := hm4.ext hxs haw
    have hx6 := hx5.comp (hxs.upJ (by omega))
    clear u4 v4 hC4 hR4
    generalize w4.setCell ⟨g, 5, none⟩ (.slice a' (C.binds.length + 1) c') = w5 at *
    have c0 := hC5.cell 0 _ rfl
    have c1 := hC5.cell 1 _ rfl
    have c2 := hC5.cell 2 _ rfl
    have c3 := hC5.cell 3 _ rfl
    have c4 := hC5.cell 4 _ rfl
    have c5 := hC5.cell 5 _ rfl
    have z0 := hR5.cell 0 _ rfl
    have z1 := hR5.cell 1 _ rfl
    have z2 := hR5.cell 2 _ rfl
    have z3 := hR5.cell 3 _ rfl
    have z4 := hR5.cell 4 _ rfl
    have z5 := hR5.cell 5 _ rfl
    have f0 := hR5.fr 0
    have f1 := hR5.fr 1
    have f2 := hR5.fr 2
    have f3 := hR5.fr 3
    have f4 := hR5.fr 4
    have f5 := hR5.fr 5
    go_wp2_with fail
    have hbE := ((((((hR5.set 0 (.slice h.v C.v.length h.vc) (by simp)).set 1 (.slice h.r C.regs.length h.rc) (by simp)).set 2 (.slice h.e C.elems.length h.ec) (by simp)).set 3 (.slice h.g C.gone.length h.gc) (by simp)).set 4 (.slice h.s C.sums.length h.sc) (by simp)).set 5 (.slice a' (C.binds.length + 1) c') (by simp))
    have hxE := (((((Ext.setCell (S := just (g + 1 + 1)) w5 ⟨g + 1 + 1, 0, none⟩ (.slice h.v C.v.length h.vc) rfl).comp (Ext.setCell _ ⟨g + 1 + 1, 1, none⟩ (.slice h.r C.regs.length h.rc) rfl)).comp (Ext.setCell _ ⟨g + 1 + 1, 2, none⟩ (.slice h.e C.elems.length h.ec) rfl)).comp (Ext.setCell _ ⟨g + 1 + 1, 3, none⟩ (.slice h.g C.gone.length h.gc) rfl)).comp (Ext.setCell _ ⟨g + 1 + 1, 4, none⟩ (.slice h.s C.sums.length h.sc) rfl)).comp (Ext.setCell _ ⟨g + 1 + 1, 5, none⟩ (.slice a' (C.binds.length + 1) c') rfl)
    clear z0 f0 z1 f1 z2 f2 z3 f3 z4 f4 z5 f5
    generalize (((((w5.setCell ⟨g + 1 + 1, 0, none⟩ (.slice h.v C.v.length h.vc)).setCell ⟨g + 1 + 1, 1, none⟩ (.slice h.r C.regs.length h.rc)).setCell ⟨g + 1 + 1, 2, none⟩ (.slice h.e C.elems.length h.ec)).setCell ⟨g + 1 + 1, 3, none⟩ (.slice h.g C.gone.length h.gc)).setCell ⟨g + 1 + 1, 4, none⟩ (.slice h.s C.sums.length h.sc)).setCell ⟨g + 1 + 1, 5, none⟩ (.slice a' (C.binds.length + 1) c') = wE at *
    have z0 := hbE.cell 0 _ rfl
    have z1 := hbE.cell 1 _ rfl
    have z2 := hbE.cell 2 _ rfl
    have z3 := hbE.cell 3 _ rfl
    have z4 := hbE.cell 4 _ rfl
    have z5 := hbE.cell 5 _ rfl
    refine bodyPost_ret (v := .agg #[.slice h.v C.v.length h.vc, .slice h.r C.regs.length h.rc, .slice h.e C.elems.length h.ec, .slice h.g C.gone.length h.gc, .slice h.s C.sums.length h.sc, .slice a' (C.binds.length + 1) c']) ?_ rfl ?_
    · rw [res_cell1 rfl]
      go_simp
    rw [Hcl.out]
    refine ⟨{ h with b := a', bc := c' }, ?_, ?_, ?_⟩
    · first | rfl | (simp [CollR.val, putAt_length]; done) | (simp [CollR.val]; done)
    · exact (hm5).ext hxE (fun i ad hi hj => haw2 i ad hi hj)
    · exact (hx6).comp (hxE.upJ (by omega))
end Go.Proofs.YtejmmkjpncpedaaGreat
