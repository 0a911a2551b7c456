/- Walks of the package coll: own; sum, reg, bind, gone. -/
import Derived.Test.YtejmmkjpncpedaaGreatCoD
import Derived.Test.YtejmmkjpncpedaaGreatCoE
import Derived.Test.YtejmmkjpncpedaaGreatCoM
import Derived.Laws.EntriesVeiled
namespace Go.Proofs.YtejmmkjpncpedaaGreat
open Go.RowKit Go.Esc
set_option linter.unusedVariables false
set_option linter.unusedSimpArgs false
set_option maxRecDepth 100000 in
set_option maxHeartbeats 1000000 in
theorem sum_any (w : World) (C : CollR) (h : Six) (key : List UInt8) (hr : Rd w h.s (rows SumR.cells C.sums)) (hl : C.sums.length ≤ 1099511627776) (ho : InOrd SumR.key Op.bytesLess C.sums) :
    Calls Tryz.prog 61 #[C.val h, .string (str key)] w fun e w' => e = .returned (.tuple #[.int .i64 (posOf SumR.key Op.bytesLess key C.sums), .bool (isAt SumR.key Op.bytesLess key C.sums)]) ∧ Ext no w w' := by
  have hmf : ∀ (fn : Fn) (first cap : Array Value) (w : World), (Instr.makeFunc fn first cap).run Tryz.prog w = .ok (.func fn first cap) w := fun _ _ _ _ => rfl
  go_enter Tryz.func61, Tryz.ntmps61
  unfold CollR.val
  go_upto_region 1 with fail
  have hb1 := Blk.lit w #[.slice h.v C.v.length h.vc, .slice h.r C.regs.length h.rc, .slice h.e C.elems.length h.ec, .slice h.g C.gone.length h.gc, .slice h.s C.sums.length h.sc, .slice h.b C.binds.length h.bc] 32
  have hx1 := Ext.alloc no w (.cells #[.slice h.v C.v.length h.vc, .slice h.r C.regs.length h.rc, .slice h.e C.elems.length h.ec, .slice h.g C.gone.length h.gc, .slice h.s C.sums.length h.sc, .slice h.b C.binds.length h.bc] 32)
  have hb2 := Blk.at (w.alloc (.cells #[.slice h.v C.v.length h.vc, .slice h.r C.regs.length h.rc, .slice h.e C.elems.length h.ec, .slice h.g C.gone.length h.gc, .slice h.s C.sums.length h.sc, .slice h.b C.binds.length h.bc] 32)) #[.string (str key)] 9 (w.heap.size + 1) (by simp)
  have hx2 := Ext.alloc no (w.alloc (.cells #[.slice h.v C.v.length h.vc, .slice h.r C.regs.length h.rc, .slice h.e C.elems.length h.ec, .slice h.g C.gone.length h.gc, .slice h.s C.sums.length h.sc, .slice h.b C.binds.length h.bc] 32)) (.cells #[.string (str key)] 9)
  have hb1' := hb1.ext (by simp) hx2 (fun h => h)
  replace hx1 := hx1.comp hx2
  clear hb1 hx2
  generalize (w.alloc (.cells #[.slice h.v C.v.length h.vc, .slice h.r C.regs.length h.rc, .slice h.e C.elems.length h.ec, .slice h.g C.gone.length h.gc, .slice h.s C.sums.length h.sc, .slice h.b C.binds.length h.bc] 32)).alloc (.cells #[.string (str key)] 9) = w1 at *
  have p0 := hb1'.cell 4 _ rfl
  have p1 : w1.cell? ⟨w.heap.size + 1, 0, none⟩ = some (.string (str key)) := hb2.cell 0 _ rfl
  have hr1 := hr.ext hx1 (fun _ _ h => h)
  go_wp2_with fail
  refine (findSum_any w1 h.s h.sc C.sums 87 (w.heap.size + 1) 0 (fun x => cmpS x.key key) hr1 hl (fun _ _ => by kernel_rfl) (fun w2 x hx hx2 => sum1_any w2 x key _ _ (hx2.keeps p1 (fun h => h)))
    (posOf SumR.key Op.bytesLess key C.sums) (posOf_le _ _) (fun j x hj => by rw [← less_iff bytesOrd key C.sums ho j x hj]; exact cmpS_neg _ _)).mono ?_
  rintro e w2 ⟨rfl, hx2⟩
  have Hq := Lib.hid (show atCmp (fun x => cmpS x.key key) C.sums (posOf SumR.key Op.bytesLess key C.sums) = isAt SumR.key Op.bytesLess key C.sums from atCmp_isAt' (κ := SumR.key) C.sums (fun x => cmpS_zero _ _))
  rw [Hq.out]
  go_wp2_with fail
  go_ret2
  exact ⟨rfl, hx1.comp hx2⟩
set_option maxRecDepth 100000 in
set_option maxHeartbeats 1000000 in
theorem reg_any (w : World) (C : CollR) (h : Six) (key : List UInt8) (hr : Rd w h.r (rows RegR.cells C.regs)) (hl : C.regs.length ≤ 1099511627776) (ho : InOrd RegR.key Op.bytesLess C.regs) :
    Calls Tryz.prog 49 #[C.val h, .string (str key)] w fun e w' => e = .returned (.tuple #[.int .i64 (posOf RegR.key Op.bytesLess key C.regs), .bool (isAt RegR.key Op.bytesLess key C.regs)]) ∧ Ext no w w' := by
  have hmf : ∀ (fn : Fn) (first cap : Array Value) (w : World), (Instr.makeFunc fn first cap).run Tryz.prog w = .ok (.func fn first cap) w := fun _ _ _ _ => rfl
  go_enter Tryz.func49, Tryz.ntmps49
  unfold CollR.val
  go_upto_region 1 with fail
  have hb1 := Blk.lit w #[.slice h.v C.v.length h.vc, .slice h.r C.regs.length h.rc, .slice h.e C.elems.length h.ec, .slice h.g C.gone.length h.gc, .slice h.s C.sums.length h.sc, .slice h.b C.binds.length h.bc] 32
  have hx1 := Ext.alloc no w (.cells #[.slice h.v C.v.length h.vc, .slice h.r C.regs.length h.rc, .slice h.e C.elems.length h.ec, .slice h.g C.gone.length h.gc, .slice h.s C.sums.length h.sc, .slice h.b C.binds.length h.bc] 32)
  have hb2 := Blk.at (w.alloc (.cells #[.slice h.v C.v.length h.vc, .slice h.r C.regs.length h.rc, .slice h.e C.elems.length h.ec, .slice h.g C.gone.length h.gc, .slice h.s C.sums.length h.sc, .slice h.b C.binds.length h.bc] 32)) #[.string (str key)] 9 (w.heap.size + 1) (by simp)
  have hx2 := Ext.alloc no (w.alloc (.cells #[.slice h.v C.v.length h.vc, .slice h.r C.regs.length h.rc, .slice h.e C.elems.length h.ec, .slice h.g C.gone.length h.gc, .slice h.s C.sums.length h.sc, .slice h.b C.binds.length h.bc] 32)) (.cells #[.string (str key)] 9)
  have hb1' := hb1.ext (by simp) hx2 (fun h => h)
  replace hx1 := hx1.comp hx2
  clear hb1 hx2
  generalize (w.alloc (.cells #[.slice h.v C.v.length h.vc, .slice h.r C.regs.length h.rc, .slice h.e C.elems.length h.ec, .slice h.g C.gone.length h.gc, .slice h.s C.sums.length h.sc, .slice h.b C.binds.length h.bc] 32)).alloc (.cells #[.string (str key)] 9) = w1 at *
  have p0 := hb1'.cell 1 _ rfl
  have p1 : w1.cell? ⟨w.heap.size + 1, 0, none⟩ = some (.string (str key)) := hb2.cell 0 _ rfl
  have hr1 := hr.ext hx1 (fun _ _ h => h)
  go_wp2_with fail
  refine (findReg_any w1 h.r h.rc C.regs 74 (w.heap.size + 1) 0 (fun x => cmpS x.key key) hr1 hl (fun _ _ => by kernel_rfl) (fun w2 x hx hx2 => reg1_any w2 x key _ _ (hx2.keeps p1 (fun h => h)))
    (posOf RegR.key Op.bytesLess key C.regs) (posOf_le _ _) (fun j x hj => by rw [← less_iff bytesOrd key C.regs ho j x hj]; exact cmpS_neg _ _)).mono ?_
  rintro e w2 ⟨rfl, hx2⟩
  have Hq := Lib.hid (show atCmp (fun x => cmpS x.key key) C.regs (posOf RegR.key Op.bytesLess key C.regs) = isAt RegR.key Op.bytesLess key C.regs from atCmp_isAt' (κ := RegR.key) C.regs (fun x => cmpS_zero _ _))
  rw [Hq.out]
  go_wp2_with fail
  go_ret2
  exact ⟨rfl, hx1.comp hx2⟩
theorem cmpI_lt (a b : Int) : cmpI a b < 0 ↔ intLt a b = true := by rw [cmpI_neg]; simp [intLt]
set_option maxRecDepth 100000 in
set_option maxHeartbeats 1000000 in
theorem bind_any (w : World) (C : CollR) (h : Six) (key : Int) (hr : Rd w h.b (rows BindR.cells C.binds)) (hl : C.binds.length ≤ 1099511627776) (ho : InOrd BindR.id intLt C.binds) :
    Calls Tryz.prog 63 #[C.val h, .int .i64 key] w fun e w' => e = .returned (.tuple #[.int .i64 (posOf BindR.id intLt key C.binds), .bool (isAt BindR.id intLt key C.binds)]) ∧ Ext no w w' := by
  have hmf : ∀ (fn : Fn) (first cap : Array Value) (w : World), (Instr.makeFunc fn first cap).run Tryz.prog w = .ok (.func fn first cap) w := fun _ _ _ _ => rfl
  go_enter Tryz.func63, Tryz.ntmps63
  unfold CollR.val
  go_upto_region 1 with fail
  have hb1 := Blk.lit w #[.slice h.v C.v.length h.vc, .slice h.r C.regs.length h.rc, .slice h.e C.elems.length h.ec, .slice h.g C.gone.length h.gc, .slice h.s C.sums.length h.sc, .slice h.b C.binds.length h.bc] 32
  have hx1 := Ext.alloc no w (.cells #[.slice h.v C.v.length h.vc, .slice h.r C.regs.length h.rc, .slice h.e C.elems.length h.ec, .slice h.g C.gone.length h.gc, .slice h.s C.sums.length h.sc, .slice h.b C.binds.length h.bc] 32)
  have hb2 := Blk.at (w.alloc (.cells #[.slice h.v C.v.length h.vc, .slice h.r C.regs.length h.rc, .slice h.e C.elems.length h.ec, .slice h.g C.gone.length h.gc, .slice h.s C.sums.length h.sc, .slice h.b C.binds.length h.bc] 32)) #[.int .i64 key] 3 (w.heap.size + 1) (by simp)
  have hx2 := Ext.alloc no (w.alloc (.cells #[.slice h.v C.v.length h.vc, .slice h.r C.regs.length h.rc, .slice h.e C.elems.length h.ec, .slice h.g C.gone.length h.gc, .slice h.s C.sums.length h.sc, .slice h.b C.binds.length h.bc] 32)) (.cells #[.int .i64 key] 3)
  have hb1' := hb1.ext (by simp) hx2 (fun h => h)
  replace hx1 := hx1.comp hx2
  clear hb1 hx2
  generalize (w.alloc (.cells #[.slice h.v C.v.length h.vc, .slice h.r C.regs.length h.rc, .slice h.e C.elems.length h.ec, .slice h.g C.gone.length h.gc, .slice h.s C.sums.length h.sc, .slice h.b C.binds.length h.bc] 32)).alloc (.cells #[.int .i64 key] 3) = w1 at *
  have p0 := hb1'.cell 5 _ rfl
  have p1 : w1.cell? ⟨w.heap.size + 1, 0, none⟩ = some (.int .i64 key) := hb2.cell 0 _ rfl
  have hr1 := hr.ext hx1 (fun _ _ h => h)
  go_wp2_with fail
  refine (findBind_any w1 h.b h.bc C.binds 91 (w.heap.size + 1) 0 (fun x => cmpI x.id key) hr1 hl (fun _ _ => by kernel_rfl) (fun w2 x hx hx2 => bind1_any w2 x key _ _ (hx2.keeps p1 (fun h => h)))
    (posOf BindR.id intLt key C.binds) (posOf_le _ _) (fun j x hj => by rw [← less_iff intOrd key C.binds ho j x hj]; exact cmpI_lt _ _)).mono ?_
  rintro e w2 ⟨rfl, hx2⟩
  have Hq := Lib.hid (show atCmp (fun x => cmpI x.id key) C.binds (posOf BindR.id intLt key C.binds) = isAt BindR.id intLt key C.binds from atCmp_isAt' (κ := BindR.id) C.binds (fun x => cmpI_zero _ _))
  rw [Hq.out]
  go_wp2_with fail
  go_ret2
  exact ⟨rfl, hx1.comp hx2⟩
set_option maxRecDepth 100000 in
set_option maxHeartbeats 1000000 in
theorem gone_any (w : World) (C : CollR) (h : Six) (d : DotR) (hr : Rd w h.g (rows DotR.cells C.gone)) (hl : C.gone.length ≤ 1099511627776) (ho : InOrd (fun d => d) DotR.lt C.gone) :
    Calls Tryz.prog 52 #[C.val h, .agg #[.int .i64 d.dev, .int .i64 d.ep, .int .i64 d.seq]] w fun e w' => e = .returned (.tuple #[.int .i64 (posOf (fun d => d) DotR.lt d C.gone), .bool (isAt (fun d => d) DotR.lt d C.gone)]) ∧ Ext no w w' := by
  have hmf : ∀ (fn : Fn) (first cap : Array Value) (w : World), (Instr.makeFunc fn first cap).run Tryz.prog w = .ok (.func fn first cap) w := fun _ _ _ _ => rfl
  go_enter Tryz.func52, Tryz.ntmps52
  unfold CollR.val
  go_upto_region 2 with fail
  have hb1 := Blk.lit w #[.slice h.v C.v.length h.vc, .slice h.r C.regs.length h.rc, .slice h.e C.elems.length h.ec, .slice h.g C.gone.length h.gc, .slice h.s C.sums.length h.sc, .slice h.b C.binds.length h.bc] 32
  have hx1 := Ext.alloc no w (.cells #[.slice h.v C.v.length h.vc, .slice h.r C.regs.length h.rc, .slice h.e C.elems.length h.ec, .slice h.g C.gone.length h.gc, .slice h.s C.sums.length h.sc, .slice h.b C.binds.length h.bc] 32)
  have hb2 := Blk.at (w.alloc (.cells #[.slice h.v C.v.length h.vc, .slice h.r C.regs.length h.rc, .slice h.e C.elems.length h.ec, .slice h.g C.gone.length h.gc, .slice h.s C.sums.length h.sc, .slice h.b C.binds.length h.bc] 32)) #[.int .i64 d.dev, .int .i64 d.ep, .int .i64 d.seq] 39 (w.heap.size + 1) (by simp)
  have hx2 := Ext.alloc no (w.alloc (.cells #[.slice h.v C.v.length h.vc, .slice h.r C.regs.length h.rc, .slice h.e C.elems.length h.ec, .slice h.g C.gone.length h.gc, .slice h.s C.sums.length h.sc, .slice h.b C.binds.length h.bc] 32)) (.cells #[.int .i64 d.dev, .int .i64 d.ep, .int .i64 d.seq] 39)
  have hb1' := hb1.ext (by simp) hx2 (fun h => h)
  replace hx1 := hx1.comp hx2
  clear hb1 hx2
  have hb3 := Blk.at ((w.alloc (.cells #[.slice h.v C.v.length h.vc, .slice h.r C.regs.length h.rc, .slice h.e C.elems.length h.ec, .slice h.g C.gone.length h.gc, .slice h.s C.sums.length h.sc, .slice h.b C.binds.length h.bc] 32)).alloc (.cells #[.int .i64 d.dev, .int .i64 d.ep, .int .i64 d.seq] 39)) #[.func (.func 51) #[] #[]] 118 (w.heap.size + 1 + 1) (by simp)
  have hx3 := Ext.alloc no ((w.alloc (.cells #[.slice h.v C.v.length h.vc, .slice h.r C.regs.length h.rc, .slice h.e C.elems.length h.ec, .slice h.g C.gone.length h.gc, .slice h.s C.sums.length h.sc, .slice h.b C.binds.length h.bc] 32)).alloc (.cells #[.int .i64 d.dev, .int .i64 d.ep, .int .i64 d.seq] 39)) (.cells #[.func (.func 51) #[] #[]] 118)
  have hb1'' := hb1'.ext (by simp) hx3 (fun h => h)
  have hb2' := hb2.ext (by simp) hx3 (fun h => h)
  replace hx1 := hx1.comp hx3
  clear hb1' hb2 hx3
  generalize ((w.alloc (.cells #[.slice h.v C.v.length h.vc, .slice h.r C.regs.length h.rc, .slice h.e C.elems.length h.ec, .slice h.g C.gone.length h.gc, .slice h.s C.sums.length h.sc, .slice h.b C.binds.length h.bc] 32)).alloc (.cells #[.int .i64 d.dev, .int .i64 d.ep, .int .i64 d.seq] 39)).alloc (.cells #[.func (.func 51) #[] #[]] 118) = w1 at *
  have p0 := hb1''.cell 3 _ rfl
  have p1 : w1.cell? ⟨w.heap.size + 1 + 1, 0, none⟩ = some (.func (.func 51) #[] #[]) := hb3.cell 0 _ rfl
  have q0 : w1.cell? ⟨w.heap.size + 1, 0, none⟩ = some (.int .i64 d.dev) := hb2'.cell 0 _ rfl
  have q1 : w1.cell? ⟨w.heap.size + 1, 0 + 1, none⟩ = some (.int .i64 d.ep) := hb2'.cell 1 _ rfl
  have q2 : w1.cell? ⟨w.heap.size + 1, 0 + 2, none⟩ = some (.int .i64 d.seq) := hb2'.cell 2 _ rfl
  have hr1 := hr.ext hx1 (fun _ _ h => h)
  go_wp2_with fail
  refine (findDot_any w1 h.g h.gc C.gone 79 (w.heap.size + 1 + 1) 0 (w.heap.size + 1) 0 (fun x => x.cmp d) hr1 hl (fun _ _ => by kernel_rfl) (fun w2 x hx hx2 => gone1_any w2 x d _ _ _ _ (hx2.keeps p1 (fun h => h)) (hx2.keeps q0 (fun h => h)) (hx2.keeps q1 (fun h => h)) (hx2.keeps q2 (fun h => h)))
    (posOf (fun d => d) DotR.lt d C.gone) (posOf_le _ _) (fun j x hj => by rw [← less_iff dotOrd d C.gone ho j x hj]; exact DotR.cmp_lt _ _)).mono ?_
  rintro e w2 ⟨rfl, hx2⟩
  have Hq := Lib.hid (show atCmp (fun x => x.cmp d) C.gone (posOf (fun d => d) DotR.lt d C.gone) = isAt (fun d => d) DotR.lt d C.gone from atCmp_isAt' (κ := fun d => d) C.gone (fun x => dcmp_zero _ _))
  rw [Hq.out]
  go_wp2_with fail
  go_ret2
  exact ⟨rfl, hx1.comp hx2⟩
set_option maxRecDepth 100000 in
set_option maxHeartbeats 1000000 in
theorem own_any (w : World) (C : CollR) (h : Six) (hin0 : C.In w h) (hsm : C.small 1099511627776) :
    Calls Tryz.prog 20 #[C.val h] w fun e w' => ∃ h', e = .returned (C.val h') ∧ Mine C w' w.heap.size h' ∧ Ext no w w' := by
  go_enter Tryz.func20, Tryz.ntmps20
  unfold CollR.val
  go_upto_region 1 with fail
  have hb1 := Blk.lit w #[.slice h.v C.v.length h.vc, .slice h.r C.regs.length h.rc, .slice h.e C.elems.length h.ec, .slice h.g C.gone.length h.gc, .slice h.s C.sums.length h.sc, .slice h.b C.binds.length h.bc] 32
  have hx1 := Ext.alloc no w (.cells #[.slice h.v C.v.length h.vc, .slice h.r C.regs.length h.rc, .slice h.e C.elems.length h.ec, .slice h.g C.gone.length h.gc, .slice h.s C.sums.length h.sc, .slice h.b C.binds.length h.bc] 32)
  have hb2 := Blk.at (w.alloc (.cells #[.slice h.v C.v.length h.vc, .slice h.r C.regs.length h.rc, .slice h.e C.elems.length h.ec, .slice h.g C.gone.length h.gc, .slice h.s C.sums.length h.sc, .slice h.b C.binds.length h.bc] 32)) #[.slice none 0 0, .slice none 0 0, .slice none 0 0, .slice none 0 0, .slice none 0 0, .slice none 0 0] 32 (w.heap.size + 1) (by simp)
  have hx2 := Ext.alloc no (w.alloc (.cells #[.slice h.v C.v.length h.vc, .slice h.r C.regs.length h.rc, .slice h.e C.elems.length h.ec, .slice h.g C.gone.length h.gc, .slice h.s C.sums.length h.sc, .slice h.b C.binds.length h.bc] 32)) (.cells #[.slice none 0 0, .slice none 0 0, .slice none 0 0, .slice none 0 0, .slice none 0 0, .slice none 0 0] 32)
  have hb1' := hb1.ext (by simp) hx2 (fun h => h)
  replace hx1 := hx1.comp hx2
  clear hb1 hx2
  generalize (w.alloc (.cells #[.slice h.v C.v.length h.vc, .slice h.r C.regs.length h.rc, .slice h.e C.elems.length h.ec, .slice h.g C.gone.length h.gc, .slice h.s C.sums.length h.sc, .slice h.b C.binds.length h.bc] 32)).alloc (.cells #[.slice none 0 0, .slice none 0 0, .slice none 0 0, .slice none 0 0, .slice none 0 0, .slice none 0 0] 32) = w1 at *
  have hsz := hb2.lt (by simp)
  have hin : C.In w1 h := ⟨hin0.v.ext hx1 (fun _ _ h => h), hin0.r.ext hx1 (fun _ _ h => h), hin0.e.ext hx1 (fun _ _ h => h), hin0.g.ext hx1 (fun _ _ h => h), hin0.s.ext hx1 (fun _ _ h => h), hin0.b.ext hx1 (fun _ _ h => h), hin0.lv, hin0.lr, hin0.le, hin0.lg, hin0.ls, hin0.lb, hin0.mv, hin0.mr, hin0.me, hin0.mg, hin0.ms, hin0.mb⟩
  have p0 := hb1'.cell 0 _ rfl
  have p1 := hb1'.cell 1 _ rfl
  have p2 := hb1'.cell 2 _ rfl
  have p3 := hb1'.cell 3 _ rfl
  have p4 := hb1'.cell 4 _ rfl
  have p5 := hb1'.cell 5 _ rfl
  have hS0 := Ext.drew no w1
  refine wp_region_E [1, 4, 7, 10, 13, 16] (fun z => Ext no w1 z) (by kernel_rfl) ?_
  refine wpE_take 0 (v := ?_) rfl (by kernel_rfl) (by kernel_rfl) (by kernel_rfl) (fun _ _ _ h => h) hS0 (by rfl) ?_ ?_
  rotate_left
  · (intro wq; go_simp; try with_reducible rfl)
  simp only [pz]
  refine wpE_look 1 (v := .slice h.v C.v.length h.vc) rfl rfl (by kernel_rfl) (by kernel_rfl) (by kernel_rfl) (by kernel_rfl) (fun _ _ _ h => h) hS0 (by rfl) (fun w hS => by have q := hS.keeps p0 (fun h => h); go_simp) ?_
  simp only [pz]
  refine wpE_take 3 (v := ?_) rfl (by kernel_rfl) (by kernel_rfl) (by kernel_rfl) (fun _ _ _ h => h) hS0 (by rfl) ?_ ?_
  rotate_left
  · (intro wq; go_simp; try with_reducible rfl)
  simp only [pz]
  refine wpE_look 4 (v := .slice h.r C.regs.length h.rc) rfl rfl (by kernel_rfl) (by kernel_rfl) (by kernel_rfl) (by kernel_rfl) (fun _ _ _ h => h) hS0 (by rfl) (fun w hS => by have q := hS.keeps p1 (fun h => h); go_simp) ?_
  simp only [pz]
  refine wpE_take 6 (v := ?_) rfl (by kernel_rfl) (by kernel_rfl) (by kernel_rfl) (fun _ _ _ h => h) hS0 (by rfl) ?_ ?_
  rotate_left
  · (intro wq; go_simp; try with_reducible rfl)
  simp only [pz]
  refine wpE_look 7 (v := .slice h.e C.elems.length h.ec) rfl rfl (by kernel_rfl) (by kernel_rfl) (by kernel_rfl) (by kernel_rfl) (fun _ _ _ h => h) hS0 (by rfl) (fun w hS => by have q := hS.keeps p2 (fun h => h); go_simp) ?_
  simp only [pz]
  refine wpE_take 9 (v := ?_) rfl (by kernel_rfl) (by kernel_rfl) (by kernel_rfl) (fun _ _ _ h => h) hS0 (by rfl) ?_ ?_
  rotate_left
  · (intro wq; go_simp; try with_reducible rfl)
  simp only [pz]
  refine wpE_look 10 (v := .slice h.g C.gone.length h.gc) rfl rfl (by kernel_rfl) (by kernel_rfl) (by kernel_rfl) (by kernel_rfl) (fun _ _ _ h => h) hS0 (by rfl) (fun w hS => by have q := hS.keeps p3 (fun h => h); go_simp) ?_
  simp only [pz]
  refine wpE_take 12 (v := ?_) rfl (by kernel_rfl) (by kernel_rfl) (by kernel_rfl) (fun _ _ _ h => h) hS0 (by rfl) ?_ ?_
  rotate_left
  · (intro wq; go_simp; try with_reducible rfl)
  simp only [pz]
  refine wpE_look 13 (v := .slice h.s C.sums.length h.sc) rfl rfl (by kernel_rfl) (by kernel_rfl) (by kernel_rfl) (by kernel_rfl) (fun _ _ _ h => h) hS0 (by rfl) (fun w hS => by have q := hS.keeps p4 (fun h => h); go_simp) ?_
  simp only [pz]
  refine wpE_take 15 (v := ?_) rfl (by kernel_rfl) (by kernel_rfl) (by kernel_rfl) (fun _ _ _ h => h) hS0 (by rfl) ?_ ?_
  rotate_left
  · (intro wq; go_simp; try with_reducible rfl)
  simp only [pz]
  refine wpE_look 16 (v := .slice h.b C.binds.length h.bc) rfl rfl (by kernel_rfl) (by kernel_rfl) (by kernel_rfl) (by kernel_rfl) (fun _ _ _ h => h) hS0 (by rfl) (fun w hS => by have q := hS.keeps p5 (fun h => h); go_simp) ?_
  simp only [pz]
  refine wpE_exec 2 rfl (by kernel_rfl) (by rfl) ?_
  intro K hK
  go_simp
  refine (cloneEntry_any w1.drew h.v h.vc C.v (hin.v.ext hS0 (fun _ _ h => h)) hsm.v).mono ?_
  rintro e x1 ⟨a0, c0, rfl, o0, y0⟩
  have hS1 := hS0.comp y0
  refine hK _ _ (fun z => Ext no w1 z) (.inr (fun z h => h)) hS1 ?_
  clear hK K
  refine wpE_exec 5 rfl (by kernel_rfl) (by rfl) ?_
  intro K hK
  go_simp
  refine (cloneReg_any x1 h.r h.rc C.regs (hin.r.ext hS1 (fun _ _ h => h)) hsm.r).mono ?_
  rintro e x2 ⟨a1, c1, rfl, o1, y1⟩
  have hS2 := hS1.comp y1
  refine hK _ _ (fun z => Ext no w1 z) (.inr (fun z h => h)) hS2 ?_
  clear hK K
  refine wpE_exec 8 rfl (by kernel_rfl) (by rfl) ?_
  intro K hK
  go_simp
  refine (cloneElem_any x2 h.e h.ec C.elems (hin.e.ext hS2 (fun _ _ h => h)) hsm.e).mono ?_
  rintro e x3 ⟨a2, c2, rfl, o2, y2⟩
  have hS3 := hS2.comp y2
  refine hK _ _ (fun z => Ext no w1 z) (.inr (fun z h => h)) hS3 ?_
  clear hK K
  refine wpE_exec 11 rfl (by kernel_rfl) (by rfl) ?_
  intro K hK
  go_simp
  refine (cloneDot_any x3 h.g h.gc C.gone (hin.g.ext hS3 (fun _ _ h => h)) hsm.g).mono ?_
  rintro e x4 ⟨a3, c3, rfl, o3, y3⟩
  have hS4 := hS3.comp y3
  refine hK _ _ (fun z => Ext no w1 z) (.inr (fun z h => h)) hS4 ?_
  clear hK K
  refine wpE_exec 14 rfl (by kernel_rfl) (by rfl) ?_
  intro K hK
  go_simp
  refine (cloneSum_any x4 h.s h.sc C.sums (hin.s.ext hS4 (fun _ _ h => h)) hsm.s).mono ?_
  rintro e x5 ⟨a4, c4, rfl, o4, y4⟩
  have hS5 := hS4.comp y4
  refine hK _ _ (fun z => Ext no w1 z) (.inr (fun z h => h)) hS5 ?_
  clear hK K
  refine wpE_exec 17 rfl (by kernel_rfl) (by rfl) ?_
  intro K hK
  go_simp
  refine (cloneBind_any x5 h.b h.bc C.binds (hin.b.ext hS5 (fun _ _ h => h)) hsm.b).mono ?_
  rintro e x6 ⟨a5, c5, rfl, o5, y5⟩
  have hS6 := hS5.comp y5
  refine hK _ _ (fun z => Ext no w1 z) (.inr (fun z h => h)) hS6 ?_
  clear hK K
  refine wpE_take 18 (v := ?_) rfl (by kernel_rfl) (by kernel_rfl) (by kernel_rfl) (fun _ _ _ h => h) hS6 (by rfl) ?_ ?_
  rotate_left
  · (intro wq; go_simp; try with_reducible rfl)
  simp only [pz]
  refine wpE_exec 19 rfl (by kernel_rfl) (by rfl) ?_
  intro K hK
  have hb6 := hb2.ext (by simp) hS6 (fun h => h)
  have z0 := hb6.cell 0 _ rfl
  have z1 := hb6.cell 1 _ rfl
  have z2 := hb6.cell 2 _ rfl
  have z3 := hb6.cell 3 _ rfl
  have z4 := hb6.cell 4 _ rfl
  have z5 := hb6.cell 5 _ rfl
  have f0 := hb6.fr 0
  have f1 := hb6.fr 1
  have f2 := hb6.fr 2
  have f3 := hb6.fr 3
  have f4 := hb6.fr 4
  have f5 := hb6.fr 5
  go_simp
  have hS9 := trivial
  refine hK _ _ (fun x => True) (.inl (by kernel_rfl)) hS9 ?_
  clear hK K
  refine wpE_done (by kernel_rfl) ?_ _
  go_wp2_with fail
  have hbE := ((((((hb6.set 0 (.slice a0 C.v.length c0) (by simp)).set 1 (.slice a1 C.regs.length c1) (by simp)).set 2 (.slice a2 C.elems.length c2) (by simp)).set 3 (.slice a3 C.gone.length c3) (by simp)).set 4 (.slice a4 C.sums.length c4) (by simp)).set 5 (.slice a5 C.binds.length c5) (by simp))
  have hxE : Ext (just (w.heap.size + 1)) x6 _ := (((((Ext.setCell (S := just (w.heap.size + 1)) x6 ⟨w.heap.size + 1, 0, none⟩ (.slice a0 C.v.length c0) rfl).comp (Ext.setCell _ ⟨w.heap.size + 1, 1, none⟩ (.slice a1 C.regs.length c1) rfl)).comp (Ext.setCell _ ⟨w.heap.size + 1, 2, none⟩ (.slice a2 C.elems.length c2) rfl)).comp (Ext.setCell _ ⟨w.heap.size + 1, 3, none⟩ (.slice a3 C.gone.length c3) rfl)).comp (Ext.setCell _ ⟨w.heap.size + 1, 4, none⟩ (.slice a4 C.sums.length c4) rfl)).comp (Ext.setCell _ ⟨w.heap.size + 1, 5, none⟩ (.slice a5 C.binds.length c5) rfl)
  clear z0 z1 z2 z3 z4 z5 f0 f1 f2 f3 f4 f5
  generalize (((((x6.setCell ⟨w.heap.size + 1, 0, none⟩ (.slice a0 C.v.length c0)).setCell ⟨w.heap.size + 1, 1, none⟩ (.slice a1 C.regs.length c1)).setCell ⟨w.heap.size + 1, 2, none⟩ (.slice a2 C.elems.length c2)).setCell ⟨w.heap.size + 1, 3, none⟩ (.slice a3 C.gone.length c3)).setCell ⟨w.heap.size + 1, 4, none⟩ (.slice a4 C.sums.length c4)).setCell ⟨w.heap.size + 1, 5, none⟩ (.slice a5 C.binds.length c5) = wE at *
  have z0 := hbE.cell 0 _ rfl
  have z1 := hbE.cell 1 _ rfl
  have z2 := hbE.cell 2 _ rfl
  have z3 := hbE.cell 3 _ rfl
  have z4 := hbE.cell 4 _ rfl
  have z5 := hbE.cell 5 _ rfl
  refine bodyPost_ret (v := .agg #[.slice a0 C.v.length c0, .slice a1 C.regs.length c1, .slice a2 C.elems.length c2, .slice a3 C.gone.length c3, .slice a4 C.sums.length c4, .slice a5 C.binds.length c5]) ?_ rfl ⟨⟨a0, c0, a1, c1, a2, c2, a3, c3, a4, c4, a5, c5⟩, rfl, ?_, ?_⟩
  · rw [res_cell1 rfl]
    go_simp
  · have hw : w1.drew.heap.size = w1.heap.size := rfl
    have n0 : ∀ {a : Option Addr} {k n c : Nat} {cs : List Value} {wx : World} {B : Nat}, Own wx B a k n c cs → w1.heap.size ≤ B → ∀ ad, a = some ad → ¬ just (w.heap.size + 1) ad.block := fun o hB ad ha hj => by
      have := (o.base ad ha).1
      have hj : ad.block = w.heap.size + 1 := hj
      omega
    have s1 := hS1.size
    have s2 := hS2.size
    have s3 := hS3.size
    have s4 := hS4.size
    have s5 := hS5.size
    refine ⟨?_, ?_, ?_, ?_, ?_, ?_, six_apart (s0 := w1.heap.size) (s1 := x1.heap.size) (s2 := x2.heap.size) (s3 := x3.heap.size) (s4 := x4.heap.size) (s5 := x5.heap.size) (s6 := x6.heap.size) (fun ad h => ⟨(o0.base ad h).1, (o0.base ad h).2.1⟩) (fun ad h => ⟨(o1.base ad h).1, (o1.base ad h).2.1⟩) (fun ad h => ⟨(o2.base ad h).1, (o2.base ad h).2.1⟩) (fun ad h => ⟨(o3.base ad h).1, (o3.base ad h).2.1⟩) (fun ad h => ⟨(o4.base ad h).1, (o4.base ad h).2.1⟩) (fun ad h => ⟨(o5.base ad h).1, (o5.base ad h).2.1⟩) s1 y1.size y2.size y3.size y4.size y5.size⟩
    · exact ((o0.ext ((((y1.comp y2).comp y3).comp y4).comp y5) (fun _ _ h => h)).ext hxE (n0 o0 (by omega))).mono (by omega)
    · exact ((o1.ext (((y2.comp y3).comp y4).comp y5) (fun _ _ h => h)).ext hxE (n0 o1 (by omega))).mono (by omega)
    · exact ((o2.ext ((y3.comp y4).comp y5) (fun _ _ h => h)).ext hxE (n0 o2 (by omega))).mono (by omega)
    · exact ((o3.ext (y4.comp y5) (fun _ _ h => h)).ext hxE (n0 o3 (by omega))).mono (by omega)
    · exact ((o4.ext y5 (fun _ _ h => h)).ext hxE (n0 o4 (by omega))).mono (by omega)
    · exact (o5.ext hxE (n0 o5 (by omega))).mono (by omega)
  · exact (hx1.comp hS6).trans hxE (fun k hk h => by have h : k = w.heap.size + 1 := h; omega)
end Go.Proofs.YtejmmkjpncpedaaGreat
