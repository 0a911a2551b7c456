/- Walks of the package coll: count. -/
import Derived.Test.YtejmmkjpncpedaaGreatCoF
import Derived.Test.YtejmmkjpncpedaaGreatCoG
namespace Go.Proofs.YtejmmkjpncpedaaGreat
open Go.RowKit Go.Esc
set_option linter.unusedVariables false
set_option linter.unusedSimpArgs false
set_option maxRecDepth 100000 in
set_option maxHeartbeats 2000000 in
theorem count_any (w : World) (B : Nat) (C : CollR) (h : Six) (o : OpR) (a : Option Addr) (c : Nat) (hm : Mine C w B h) (hB : B ≤ w.heap.size) (hs : C.small 1099511627775) (hok : C.ok) :
    Calls Tryz.prog 26 #[C.val h, o.v a c] w fun e w' => ∃ h', e = .returned (({ C with sums := countL C.sums o } : CollR).val h') ∧ Mine { C with sums := countL C.sums o } w' B h' ∧ Ext (upfrom B) w w' := by
  go_enter Tryz.func26, Tryz.ntmps26
  unfold CollR.val OpR.v
  go_upto_region 1 with fail
  have hC_ := Blk.at (w) #[.slice h.v C.v.length h.vc, .slice h.r C.regs.length h.rc, .slice h.e C.elems.length h.ec, .slice h.g C.gone.length h.gc, .slice h.s C.sums.length h.sc, .slice h.b C.binds.length h.bc] 32 (w.heap.size) (by simp)
  have hx_0 := Ext.alloc no (w) (.cells #[.slice h.v C.v.length h.vc, .slice h.r C.regs.length h.rc, .slice h.e C.elems.length h.ec, .slice h.g C.gone.length h.gc, .slice h.s C.sums.length h.sc, .slice h.b C.binds.length h.bc] 32)
  have hO_ := Blk.at (w.alloc (.cells #[.slice h.v C.v.length h.vc, .slice h.r C.regs.length h.rc, .slice h.e C.elems.length h.ec, .slice h.g C.gone.length h.gc, .slice h.s C.sums.length h.sc, .slice h.b C.binds.length h.bc] 32)) #[.int .i64 o.dot.dev, .int .i64 o.dot.ep, .int .i64 o.dot.seq, .int .i64 o.coll, .int .i64 o.ver, .int .i64 o.kind, .string (str o.key), .string (str o.text), .int .i64 o.n, .int .i64 o.time, .slice a o.dots.length c] 51 (w.heap.size + 1) (by simp)
  have hx_1 := Ext.alloc no (w.alloc (.cells #[.slice h.v C.v.length h.vc, .slice h.r C.regs.length h.rc, .slice h.e C.elems.length h.ec, .slice h.g C.gone.length h.gc, .slice h.s C.sums.length h.sc, .slice h.b C.binds.length h.bc] 32)) (.cells #[.int .i64 o.dot.dev, .int .i64 o.dot.ep, .int .i64 o.dot.seq, .int .i64 o.coll, .int .i64 o.ver, .int .i64 o.kind, .string (str o.key), .string (str o.text), .int .i64 o.n, .int .i64 o.time, .slice a o.dots.length c] 51)
  have hR_ := Blk.at ((w.alloc (.cells #[.slice h.v C.v.length h.vc, .slice h.r C.regs.length h.rc, .slice h.e C.elems.length h.ec, .slice h.g C.gone.length h.gc, .slice h.s C.sums.length h.sc, .slice h.b C.binds.length h.bc] 32)).alloc (.cells #[.int .i64 o.dot.dev, .int .i64 o.dot.ep, .int .i64 o.dot.seq, .int .i64 o.coll, .int .i64 o.ver, .int .i64 o.kind, .string (str o.key), .string (str o.text), .int .i64 o.n, .int .i64 o.time, .slice a o.dots.length c] 51)) #[.slice none 0 0, .slice none 0 0, .slice none 0 0, .slice none 0 0, .slice none 0 0, .slice none 0 0] 32 (w.heap.size + 1 + 1) (by simp)
  have hx_2 := Ext.alloc no ((w.alloc (.cells #[.slice h.v C.v.length h.vc, .slice h.r C.regs.length h.rc, .slice h.e C.elems.length h.ec, .slice h.g C.gone.length h.gc, .slice h.s C.sums.length h.sc, .slice h.b C.binds.length h.bc] 32)).alloc (.cells #[.int .i64 o.dot.dev, .int .i64 o.dot.ep, .int .i64 o.dot.seq, .int .i64 o.coll, .int .i64 o.ver, .int .i64 o.kind, .string (str o.key), .string (str o.text), .int .i64 o.n, .int .i64 o.time, .slice a o.dots.length c] 51)) (.cells #[.slice none 0 0, .slice none 0 0, .slice none 0 0, .slice none 0 0, .slice none 0 0, .slice none 0 0] 32)
  have hC := (hC_.ext (by simp) hx_1 (fun h => h)).ext (by simp) hx_2 (fun h => h)
  have hO := hO_.ext (by simp) hx_2 (fun h => h)
  have hR := hR_
  have hx1 := ((hx_0).comp hx_1).comp hx_2
  clear hC_ hx_0 hO_ hx_1 hR_ hx_2
  generalize ((w.alloc (.cells #[.slice h.v C.v.length h.vc, .slice h.r C.regs.length h.rc, .slice h.e C.elems.length h.ec, .slice h.g C.gone.length h.gc, .slice h.s C.sums.length h.sc, .slice h.b C.binds.length h.bc] 32)).alloc (.cells #[.int .i64 o.dot.dev, .int .i64 o.dot.ep, .int .i64 o.dot.seq, .int .i64 o.coll, .int .i64 o.ver, .int .i64 o.kind, .string (str o.key), .string (str o.text), .int .i64 o.n, .int .i64 o.time, .slice a o.dots.length c] 51)).alloc (.cells #[.slice none 0 0, .slice none 0 0, .slice none 0 0, .slice none 0 0, .slice none 0 0, .slice none 0 0] 32) = w1 at *
  have hsz := hR.lt (by simp)
  obtain ⟨g, hg⟩ : ∃ g, g = w.heap.size := ⟨_, rfl⟩
  have hgw : w.heap.size ≤ g := by omega
  rw [← hg] at hC hO hR hsz ⊢
  clear hg
  have c0 := hC.cell 0 _ rfl
  have c1 := hC.cell 1 _ rfl
  have c2 := hC.cell 2 _ rfl
  have c3 := hC.cell 3 _ rfl
  have c4 := hC.cell 4 _ rfl
  have c5 := hC.cell 5 _ rfl
  have q6 := hO.cell 6 _ rfl
  have q8 := hO.cell 8 _ rfl
  have hm1 := hm.no hx1
  go_wp2_with fail
  refine (sum_any w1 C h o.key hm1.s.rd (by have := hs.s; omega) hok.s).mono ?_
  rintro e w2 ⟨rfl, hx2⟩
  have hm2 := hm1.no hx2
  have hC2 := hC.ext (by simp) hx2 (fun h => h)
  have hO2 := hO.ext (by simp) hx2 (fun h => h)
  have hR2 := hR.ext (by simp) hx2 (fun h => h)
  have hxx := hx1.comp hx2
  have hz2 := hx2.size
  clear c0 c1 c2 c3 c4 c5 q6 q8 hC hO hR
  have hlk := look_at bytesOrd o.key C.sums hok.s
  have hple := posOf_le (κ := SumR.key) (lt := Op.bytesLess) o.key C.sums
  cases his : isAt SumR.key Op.bytesLess o.key C.sums with
  | true =>
    obtain ⟨x, hx, hxk⟩ := isAt_some his
    rw [his, if_pos rfl, hx] at hlk
    generalize hpp : posOf SumR.key Op.bytesLess o.key C.sums = pp at *
    have hcl : countL C.sums o = C.sums.set pp ⟨o.key, Go.Esc.wrap64 (x.n + o.n)⟩ := by unfold countL; rw [hlk, hpp]
    have Hcl := Lib.hid hcl
    clear hcl hlk his hpp
    have hpl : pp < C.sums.length := (List.getElem?_eq_some_iff.1 hx).1
    obtain ⟨sb, so, hsb⟩ := hm2.s.lits (by have := hm2.s.nc; omega)
    have hm2s := hm2.s
    rw [hsb] at hC2 hm2s
    have HX := Lib.hid hx
    have HXK := Lib.hid hxk
    clear hx hxk
    have c0 := hC2.cell 0 _ rfl
    have c1 := hC2.cell 1 _ rfl
    have c2 := hC2.cell 2 _ rfl
    have c3 := hC2.cell 3 _ rfl
    have c4 := hC2.cell 4 _ rfl
    have c5 := hC2.cell 5 _ rfl
    have q8 := hO2.cell 8 _ rfl
    have y1 : w2.cell? ⟨sb, so + pp * 2 + 1, none⟩ = some (.int .i64 x.n) := rows_cell kSum hm2s.rd HX.out 1 _ rfl
    have fy : w2.frozen? ⟨sb, so + pp * 2 + 1, none⟩ = false := hm2s.free pp 1 hpl (by omega)
    go_upto_region 3 with fail
    refine wp_region_F [1, 5, 7] (looks [(1, fun z => Ext no w2 z), (5, fun z => Ext no w2 z), (7, fun z => Ext no w2 z)]) (by kernel_rfl) ?_
    have hT0 : ∀ k, looks [(1, fun z => Ext no w2 z), (5, fun z => Ext no w2 z), (7, fun z => Ext no w2 z)] k (w2.drew) := looks_all ⟨Ext.drew no w2, Ext.drew no w2, Ext.drew no w2, trivial⟩
    refine wpF_take 0 (v := ?_) rfl (by kernel_rfl) (by kernel_rfl) (by kernel_rfl) (fun _ _ _ h => h) hT0 (by rfl) ?_ ?_
    rotate_left
    · (intro wq; go_simp; try with_reducible rfl)
    simp only [pz]
    refine wpF_look 1 (v := .slice (some ⟨sb, so, none⟩) C.sums.length h.sc) rfl rfl (by kernel_rfl) (by kernel_rfl) (by kernel_rfl) (by kernel_rfl) (fun _ _ _ h => h) hT0 (by rfl) (fun w hS => by have hS : Ext no w2 w := hS; have q := hS.keeps c4 (fun h => h); go_simp) ?_
    simp only [pz]
    refine wpF_take 2 (v := ?_) rfl (by kernel_rfl) (by kernel_rfl) (by kernel_rfl) (fun _ _ _ h => h) hT0 (by rfl) ?_ ?_
    rotate_left
    · (intro wq; go_simp; try with_reducible rfl)
    simp only [pz]
    refine wpF_take 3 (v := .pointer (some ⟨sb, so + pp * 2, none⟩)) rfl (by kernel_rfl) (by kernel_rfl) (by kernel_rfl) (fun _ _ _ h => h) hT0 (by rfl) (by intro wq; go_simp) ?_
    simp only [pz]
    refine wpF_take 4 (v := ?_) rfl (by kernel_rfl) (by kernel_rfl) (by kernel_rfl) (fun _ _ _ h => h) hT0 (by rfl) ?_ ?_
    rotate_left
    · (intro wq; go_simp; try with_reducible rfl)
    simp only [pz]
    refine wpF_look 5 (v := .int .i64 x.n) rfl rfl (by kernel_rfl) (by kernel_rfl) (by kernel_rfl) (by kernel_rfl) (fun _ _ _ h => h) hT0 (by rfl) (fun w hS => by have hS : Ext no w2 w := hS; have q := hS.keeps y1 (fun h => h); go_simp) ?_
    simp only [pz]
    refine wpF_take 6 (v := ?_) rfl (by kernel_rfl) (by kernel_rfl) (by kernel_rfl) (fun _ _ _ h => h) hT0 (by rfl) ?_ ?_
    rotate_left
    · (intro wq; go_simp; try with_reducible rfl)
    simp only [pz]
    refine wpF_look 7 (v := .int .i64 o.n) rfl rfl (by kernel_rfl) (by kernel_rfl) (by kernel_rfl) (by kernel_rfl) (fun _ _ _ h => h) hT0 (by rfl) (fun w hS => by have hS : Ext no w2 w := hS; have q := hS.keeps q8 (fun h => h); go_simp) ?_
    simp only [pz]
    refine wpF_take 8 (v := .int .i64 (Go.Esc.wrap64 (x.n + o.n))) rfl (by kernel_rfl) (by kernel_rfl) (by kernel_rfl) (fun _ _ _ h => h) hT0 (by rfl) (by intro wq; go_simp; rfl) ?_
    simp only [pz]
    refine wpF_take 9 (v := .pointer (some ⟨sb, so + pp * 2, none⟩)) rfl (by kernel_rfl) (by kernel_rfl) (by kernel_rfl) (fun _ _ _ h => h) hT0 (by rfl) (by intro wq; go_simp) ?_
    simp only [pz]
    refine wpF_take 10 (v := ?_) rfl (by kernel_rfl) (by kernel_rfl) (by kernel_rfl) (fun _ _ _ h => h) hT0 (by rfl) ?_ ?_
    rotate_left
    · (intro wq; go_simp; try with_reducible rfl)
    simp only [pz]
    refine wpF_exec 11 rfl (by kernel_rfl) (by rfl) ?_
    intro K hK
    go_simp
    have hT1 : ∀ k, looks [(1, fun z => True), (5, fun z => True), (7, fun z => True)] k ((w2.setCell ⟨sb, so + pp * 2 + 1, none⟩ (.int .i64 (Go.Esc.wrap64 (x.n + o.n)))).drew) := looks_all ⟨trivial, trivial, trivial, trivial⟩
    refine hK _ _ (looks [(1, fun z => True), (5, fun z => True), (7, fun z => True)]) ⟨.inr (.inl (by kernel_rfl)), .inr (.inl (by kernel_rfl)), .inr (.inl (by kernel_rfl)), trivial⟩ hT1 ?_
    clear hK K
    try simp only [pz]
    refine wpF_done (by kernel_rfl) ?_ _
    have hset := hm2s.set (pp * 2 + 1) (by have := Nat.mul_le_mul_right 2 hpl; omega) (.int .i64 (Go.Esc.wrap64 (x.n + o.n)))
    rw [rows_setcell kSum C.sums pp x ⟨o.key, Go.Esc.wrap64 (x.n + o.n)⟩ HX.out 1 _ (by omega) (by rw [← HXK.out]; rfl), Addr.add_lit] at hset
    have hxs : Ext (blk h.s) w2 (w2.setCell ⟨sb, so + (pp * 2 + 1), none⟩ (.int .i64 (Go.Esc.wrap64 (x.n + o.n)))) := Ext.setCell _ _ _ ⟨_, hsb, rfl⟩
    rw [← hsb] at hset
    have hsb3 : sb < w.heap.size := (hm.s.base _ hsb).2.1
    have hno : ∀ q, w.heap.size ≤ q → ¬ blk h.s q := by
      rintro q hq ⟨ad, ha, hb⟩
      rw [hsb] at ha
      cases ha
      simp only at hb
      omega
    have hm3 := (hm2.setS (l := C.sums.set pp ⟨o.key, Go.Esc.wrap64 (x.n + o.n)⟩) (by rw [List.length_set]) hset hxs (near_self _ _)).no (Ext.drew no _)
    have hC3 := (hC2.ext (by simp) hxs (hno _ (by omega))).drew
    have hO3 := (hO2.ext (by simp) hxs (hno _ (by omega))).drew
    have hR3 := (hR2.ext (by simp) hxs (hno _ (by omega))).drew
    have hx3 : Ext (upfrom B) w _ := ((hxx.upN).comp (hxs.upO hm.s)).comp (Ext.drew (upfrom B) _)
    clear c0 c1 c2 c3 c4 c5 q8 y1 fy hset hxs hC2 hO2 hR2
    rw [show so + (pp * 2 + 1) = so + pp * 2 + 1 by omega] at hC3 hO3 hR3 hm3 hx3
    generalize (w2.setCell ⟨sb, so + pp * 2 + 1, none⟩ (.int .i64 (Go.Esc.wrap64 (x.n + o.n)))).drew = w3 at *
    have hm3' : Mine { C with sums := C.sums.set pp ⟨o.key, Go.Esc.wrap64 (x.n + o.n)⟩ } w3 B { h with s := some ⟨sb, so, none⟩ } := by rw [← hsb]; exact hm3
    have haw : ∀ i ad, ({ h with s := some ⟨sb, so, none⟩ } : Six).at i = some ad → ad.block ≠ g + 1 + 1 := by rw [← hsb]; exact hm.away (g := g + 1 + 1) (by omega)
    have c0 := hC3.cell 0 _ rfl
    have c1 := hC3.cell 1 _ rfl
    have c2 := hC3.cell 2 _ rfl
    have c3 := hC3.cell 3 _ rfl
    have c4 := hC3.cell 4 _ rfl
    have c5 := hC3.cell 5 _ rfl
    have z0 := hR3.cell 0 _ rfl
    have z1 := hR3.cell 1 _ rfl
    have z2 := hR3.cell 2 _ rfl
    have z3 := hR3.cell 3 _ rfl
    have z4 := hR3.cell 4 _ rfl
    have z5 := hR3.cell 5 _ rfl
    have f0 := hR3.fr 0
    have f1 := hR3.fr 1
    have f2 := hR3.fr 2
    have f3 := hR3.fr 3
    have f4 := hR3.fr 4
    have f5 := hR3.fr 5
    go_wp2_with fail
    have hbE := ((((((hR3.set 0 (.slice h.v C.v.length h.vc) (by simp)).set 1 (.slice h.r C.regs.length h.rc) (by simp)).set 2 (.slice h.e C.elems.length h.ec) (by simp)).set 3 (.slice h.g C.gone.length h.gc) (by simp)).set 4 (.slice (some ⟨sb, so, none⟩) C.sums.length h.sc) (by simp)).set 5 (.slice h.b C.binds.length h.bc) (by simp))
    have hxE := (((((Ext.setCell (S := just (g + 1 + 1)) w3 ⟨g + 1 + 1, 0, none⟩ (.slice h.v C.v.length h.vc) rfl).comp (Ext.setCell _ ⟨g + 1 + 1, 1, none⟩ (.slice h.r C.regs.length h.rc) rfl)).comp (Ext.setCell _ ⟨g + 1 + 1, 2, none⟩ (.slice h.e C.elems.length h.ec) rfl)).comp (Ext.setCell _ ⟨g + 1 + 1, 3, none⟩ (.slice h.g C.gone.length h.gc) rfl)).comp (Ext.setCell _ ⟨g + 1 + 1, 4, none⟩ (.slice (some ⟨sb, so, none⟩) C.sums.length h.sc) rfl)).comp (Ext.setCell _ ⟨g + 1 + 1, 5, none⟩ (.slice h.b C.binds.length h.bc) rfl)
    clear z0 f0 z1 f1 z2 f2 z3 f3 z4 f4 z5 f5
    generalize (((((w3.setCell ⟨g + 1 + 1, 0, none⟩ (.slice h.v C.v.length h.vc)).setCell ⟨g + 1 + 1, 1, none⟩ (.slice h.r C.regs.length h.rc)).setCell ⟨g + 1 + 1, 2, none⟩ (.slice h.e C.elems.length h.ec)).setCell ⟨g + 1 + 1, 3, none⟩ (.slice h.g C.gone.length h.gc)).setCell ⟨g + 1 + 1, 4, none⟩ (.slice (some ⟨sb, so, none⟩) C.sums.length h.sc)).setCell ⟨g + 1 + 1, 5, none⟩ (.slice h.b C.binds.length h.bc) = wE at *
    have z0 := hbE.cell 0 _ rfl
    have z1 := hbE.cell 1 _ rfl
    have z2 := hbE.cell 2 _ rfl
    have z3 := hbE.cell 3 _ rfl
    have z4 := hbE.cell 4 _ rfl
    have z5 := hbE.cell 5 _ rfl
    refine bodyPost_ret (v := .agg #[.slice h.v C.v.length h.vc, .slice h.r C.regs.length h.rc, .slice h.e C.elems.length h.ec, .slice h.g C.gone.length h.gc, .slice (some ⟨sb, so, none⟩) C.sums.length h.sc, .slice h.b C.binds.length h.bc]) ?_ rfl ?_
    · rw [res_cell1 rfl]
      go_simp
    rw [Hcl.out]
    refine ⟨{ h with s := some ⟨sb, so, none⟩ }, ?_, ?_, ?_⟩
    · first | rfl | (simp [CollR.val, putAt_length]; done) | (simp [CollR.val]; done)
    · exact (hm3').ext hxE (fun i ad hi hj => haw i ad hi hj)
    · exact (hx3).comp (hxE.upJ (by omega))
  | false =>
    rw [his] at hlk
    have hcl : countL C.sums o = putAt (posOf SumR.key Op.bytesLess o.key C.sums) ⟨o.key, o.n⟩ C.sums := by unfold countL; rw [hlk]; rfl
    generalize hpp : posOf SumR.key Op.bytesLess o.key C.sums = pp at *
    have Hcl := Lib.hid hcl
    clear hcl hlk his hpp
    have c0 := hC2.cell 0 _ rfl
    have c1 := hC2.cell 1 _ rfl
    have c2 := hC2.cell 2 _ rfl
    have c3 := hC2.cell 3 _ rfl
    have c4 := hC2.cell 4 _ rfl
    have c5 := hC2.cell 5 _ rfl
    have q6 := hO2.cell 6 _ rfl
    have q8 := hO2.cell 8 _ rfl
    go_wp2_with fail
    have hxa := Ext.alloc no w2 (.cells #[.string (str o.key), .int .i64 o.n] 43)
    have hmA := hm2.no hxa
    have hCA := hC2.ext (by simp) hxa (fun h => h)
    have hRA := hR2.ext (by simp) hxa (fun h => h)
    refine (insertSum_any _ B h.s h.sc C.sums pp ⟨o.key, o.n⟩ w2.heap.size 1 (by simp; omega) hmA.s (by have := hs.s; omega) hple (whole_new _) (fun ad ha => by have := (hm2.s.base ad ha).2.1; omega)).mono ?_
    rintro e w4 ⟨a', c', rfl, hown4, hx4, hnr4⟩
    have hno : ∀ q, w.heap.size ≤ q → ¬ blk h.s q := by
      rintro q hq ⟨ad, ha, hb⟩
      have := (hm.s.base ad ha).2.1
      omega
    have hm4 := hmA.setS (l := putAt pp ⟨o.key, o.n⟩ C.sums) (putAt_length _ _ _).symm hown4 hx4 hnr4
    have hC4 := hCA.ext (by simp) hx4 (hno _ (by omega))
    have hR4 := hRA.ext (by simp) hx4 (hno _ (by omega))
    have hx5 : Ext (upfrom B) w w4 := ((hxx.comp hxa).upN).comp (hx4.upO hm.s)
    have haw := away_upd (h' := { h with s := a', sc := c' }) hm 4 (fun i hi => by rcases i with _ | _ | _ | _ | _ | _ | i <;> first | rfl | exact absurd rfl hi) hnr4 (g := g) (by omega) (by simp; omega)
    have haw2 := away_upd (h' := { h with s := a', sc := c' }) hm 4 (fun i hi => by rcases i with _ | _ | _ | _ | _ | _ | i <;> first | rfl | exact absurd rfl hi) hnr4 (g := g + 1 + 1) (by omega) (by simp; omega)
    clear c0 c1 c2 c3 c4 c5 q6 q8 hC2 hO2 hR2 hCA hRA
    have u4 := hC4.cell 4 _ rfl
    have v4 := hC4.fr 4
    go_upto_region 6 with fail
    have hC5 := hC4.set 4 (.slice a' (C.sums.length + 1) c') (by simp)
    have hxs : Ext (just g) w4 (w4.setCell ⟨g, 4, none⟩ (.slice a' (C.sums.length + 1) c')) := Ext.setCell _ _ _ rfl
    have hR5 := hR4.ext (by simp) hxs (fun e => by have e : g + 1 + 1 = g := e; omega)
    have hm5 := hm4.ext hxs haw
    have hx6 := hx5.comp (hxs.upJ (by omega))
    clear u4 v4 hC4 hR4
    generalize w4.setCell ⟨g, 4, none⟩ (.slice a' (C.sums.length + 1) c') = w5 at *
    have c0 := hC5.cell 0 _ rfl
    have c1 := hC5.cell 1 _ rfl
    have c2 := hC5.cell 2 _ rfl
    have c3 := hC5.cell 3 _ rfl
    have c4 := hC5.cell 4 _ rfl
    have c5 := hC5.cell 5 _ rfl
    have z0 := hR5.cell 0 _ rfl
    have z1 := hR5.cell 1 _ rfl
    have z2 := hR5.cell 2 _ rfl
    have z3 := hR5.cell 3 _ rfl
    have z4 := hR5.cell 4 _ rfl
    have z5 := hR5.cell 5 _ rfl
    have f0 := hR5.fr 0
    have f1 := hR5.fr 1
    have f2 := hR5.fr 2
    have f3 := hR5.fr 3
    have f4 := hR5.fr 4
    have f5 := hR5.fr 5
    go_wp2_with fail
    have hbE := ((((((hR5.set 0 (.slice h.v C.v.length h.vc) (by simp)).set 1 (.slice h.r C.regs.length h.rc) (by simp)).set 2 (.slice h.e C.elems.length h.ec) (by simp)).set 3 (.slice h.g C.gone.length h.gc) (by simp)).set 4 (.slice a' (C.sums.length + 1) c') (by simp)).set 5 (.slice h.b C.binds.length h.bc) (by simp))
    have hxE := (((((Ext.setCell (S := just (g + 1 + 1)) w5 ⟨g + 1 + 1, 0, none⟩ (.slice h.v C.v.length h.vc) rfl).comp (Ext.setCell _ ⟨g + 1 + 1, 1, none⟩ (.slice h.r C.regs.length h.rc) rfl)).comp (Ext.setCell _ ⟨g + 1 + 1, 2, none⟩ (.slice h.e C.elems.length h.ec) rfl)).comp (Ext.setCell _ ⟨g + 1 + 1, 3, none⟩ (.slice h.g C.gone.length h.gc) rfl)).comp (Ext.setCell _ ⟨g + 1 + 1, 4, none⟩ (.slice a' (C.sums.length + 1) c') rfl)).comp (Ext.setCell _ ⟨g + 1 + 1, 5, none⟩ (.slice h.b C.binds.length h.bc) rfl)
    clear z0 f0 z1 f1 z2 f2 z3 f3 z4 f4 z5 f5
    generalize (((((w5.setCell ⟨g + 1 + 1, 0, none⟩ (.slice h.v C.v.length h.vc)).setCell ⟨g + 1 + 1, 1, none⟩ (.slice h.r C.regs.length h.rc)).setCell ⟨g + 1 + 1, 2, none⟩ (.slice h.e C.elems.length h.ec)).setCell ⟨g + 1 + 1, 3, none⟩ (.slice h.g C.gone.length h.gc)).setCell ⟨g + 1 + 1, 4, none⟩ (.slice a' (C.sums.length + 1) c')).setCell ⟨g + 1 + 1, 5, none⟩ (.slice h.b C.binds.length h.bc) = wE at *
    have z0 := hbE.cell 0 _ rfl
    have z1 := hbE.cell 1 _ rfl
    have z2 := hbE.cell 2 _ rfl
    have z3 := hbE.cell 3 _ rfl
    have z4 := hbE.cell 4 _ rfl
    have z5 := hbE.cell 5 _ rfl
    refine bodyPost_ret (v := .agg #[.slice h.v C.v.length h.vc, .slice h.r C.regs.length h.rc, .slice h.e C.elems.length h.ec, .slice h.g C.gone.length h.gc, .slice a' (C.sums.length + 1) c', .slice h.b C.binds.length h.bc]) ?_ rfl ?_
    · rw [res_cell1 rfl]
      go_simp
    rw [Hcl.out]
    refine ⟨{ h with s := a', sc := c' }, ?_, ?_, ?_⟩
    · first | rfl | (simp [CollR.val, putAt_length]; done) | (simp [CollR.val]; done)
    · exact (hm5).ext hxE (fun i ad hi hj => haw2 i ad hi hj)
    · exact (hx6).comp (hxE.upJ (by omega))
end Go.Proofs.YtejmmkjpncpedaaGreat
