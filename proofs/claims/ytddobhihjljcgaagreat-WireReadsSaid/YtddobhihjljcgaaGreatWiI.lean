/- The walk of escrowlaw14.good. -/
import Derived.Test.YtddobhihjljcgaaGreatWiH
namespace Go.Esc
open Go.RowKit
theorem Blk.put {w : World} {g : Nat} {cs ds : List Value} (h : Blk w g cs) (k : Nat) (v : Value) (hk : k < cs.length) (e : cs.set k v = ds) : Blk (w.setCell ⟨g, k, none⟩ v) g ds := e ▸ h.set k v hk
theorem Ext.at (w : World) (g k : Nat) (v : Value) : Ext (just g) w (w.setCell ⟨g, k, none⟩ v) := Ext.setCell _ _ _ rfl
/-- Nothing of before is written: a block that is new may be. -/
theorem Ext.fresh {w w1 w2 : World} {g : Nat} (h1 : Ext no w w1) (h2 : Ext (just g) w1 w2) (hg : w.heap.size ≤ g) : Ext no w w2 := h1.trans h2 (fun q hq e => by have e : q = g := e; omega)
end Go.Esc
namespace Go.Proofs.YtddobhihjljcgaaGreat
open Go.RowKit Go.Esc
set_option linter.unusedVariables false
set_option linter.unusedSimpArgs false
theorem TyWants : SlT Tryz.prog 24 105 (.agg #[.string { data := #[] }, .int .i64 0, .int .i64 0, .int .i64 0]) 4 40 := ⟨Tryz.underlying24, by kernel_rfl, rfl, by decide⟩
theorem TySlices : SlT Tryz.prog 28 64 (.agg #[.string { data := #[] }, .int .i64 0, .int .i64 0, .int .i64 0, .int .i64 0]) 5 48 := ⟨Tryz.underlying28, by kernel_rfl, rfl, by decide⟩
theorem TyRanges : SlT Tryz.prog 29 108 (.agg #[.int .i64 0, .int .i64 0]) 2 16 := ⟨Tryz.underlying29, by kernel_rfl, rfl, by decide⟩
/-- What was made stays where old blocks and new ones are written. -/
theorem _root_.Go.Esc.OpAcc.keep {S : Nat → Prop} {w w' : World} {B : Nat} {ga : Option Addr} {gc : Nat} {g : List OpW} (h : OpAcc w B ga gc g) (hx : Ext S w w') (hS : ∀ k, S k → k < B ∨ w.heap.size ≤ k) : OpAcc w' B ga gc g := by
 refine ⟨h.own.ext hx (fun ad ha hs => by have := h.own.base ad ha; have := hS _ hs; omega), fun x hx' => ⟨?_, (h.gd x hx').lc, (h.gd x hx').cm⟩, h.ap, h.lo⟩
 by_cases hn : ds x.o.dots = []
 ·rw [hn]; exact Rd.nil _ _
 ·refine (h.gd x hx').rd.ext hx (fun ad ha hs => ?_)
  have h1 := h.lo x hx' ad ha
  have h2 := hS _ hs
  obtain ⟨ad', ha', hlt⟩ := (h.gd x hx').rd.ne (List.length_pos_iff.2 hn)
  rw [ha] at ha'
  cases ha'
  omega
/-- A good message lies where its rows were laid. -/
theorem good_in {m : MsgR} {h : MsgA} {w : World} {gb : Nat} {B1 B2 : Nat} {ga1 ga2 : Option Addr} {gc1 gc2 : Nat} {G1 G2 : List OpW} (hin : m.In w h) {sb : List Bool} (hS : Rd w (some ⟨gb, 0, none⟩) (bls sb)) (hb : sb.length = 3)
  (hA : OpAcc w B1 ga1 gc1 G1) (hG1 : G1.map OpW.o = goodOps m.ops) (hB : OpAcc w B2 ga2 gc2 G2) (hG2 : G2.map OpW.o = goodOps m.cmd.ops) :
  ({ goodM m with subs := sb } : MsgR).In w { h with b := some ⟨gb, 0, none⟩, bc := 3, o := ga1, oc := gc1, c := { h.c with o := ga2, oc := gc2 } } where
 b := hS
 c := {
  x := by have q := hin.c.x.take (20 * 4); rw [rows_take kWant] at q; exact q
  o := by have q := hB.in; rw [hG2] at q; exact q
  wl := by have := hin.c.wl; show (m.cmd.wants.take 20).length ≤ h.c.wc; rw [List.length_take]; omega
  ol := by have := hB.own.nc; show (goodOps m.cmd.ops).length ≤ gc2; rw [← hG2, List.length_map]; exact this
  wm := hin.c.wm
  om := hB.own.cm }
 r := {
  s := by have q := hin.r.s.take (20 * 5); rw [rows_take kSlice] at q; exact q
  i := by have q := hin.r.i.take (100 * 2); rw [rows_take kRange] at q; exact q
  u := by have q := hin.r.u.take 100; rw [is, ← List.map_take] at q; exact q
  sl := by have := hin.r.sl; show (m.rep.slices.take 20).length ≤ h.r.sc; rw [List.length_take]; omega
  il := by have := hin.r.il; show (m.rep.ids.take 100).length ≤ h.r.ic; rw [List.length_take]; omega
  ul := by have := hin.r.ul; show (m.rep.used.take 100).length ≤ h.r.uc; rw [List.length_take]; omega
  sm := hin.r.sm
  im := hin.r.im
  um := hin.r.um }
 o := by have q := hA.in; rw [hG1] at q; exact q
 bl := by show sb.length ≤ 3; omega
 bm := by show 3 ≤ maxLen; unfold maxLen; omega
 ol := by have := hA.own.nc; show (goodOps m.ops).length ≤ gc1; rw [← hG1, List.length_map]; exact this
 om := hA.own.cm
theorem msg_result {fn : Func} {p : Tmp} (hf : fn.results = #[.cell p 36]) (tmps : Array Value) (w : World) {g : Nat} {m : MsgR} {h : MsgA} (h1 : tmps.getD p undef = .pointer (some ⟨g, 0, none⟩)) (hC : Blk w g (m.cells h)) :
  (results fn tmps).run Tryz.prog w = .ok (m.val h) w := by
 rw [results_cell1 hf, h1]
 simp only [asAddr, Sem.run_pure, Result.andThen_ok, load_msg hC]
set_option maxRecDepth 100000 in
set_option maxHeartbeats 4000000 in
theorem wigood_any (w : World) (m : MsgR) (h : MsgA) (hin : m.In w h) (hok : m.ok) :
  Calls Tryz.prog 8 #[m.val h] w fun e w' => ∃ h', e = .returned ((goodM m).val h') ∧ (goodM m).In w' h' ∧ Ext no w w' ∧ (∃ gb, h'.b = some ⟨gb, 0, none⟩ ∧ w.heap.size ≤ gb ∧ Blk w' gb (bls (goodM m).subs) ∧ gb < w'.heap.size ∧ ∀ (S : Nat → Prop) (wz : World) (sb : List Bool), Ext S w' wz → (∀ k, S k → k = gb ∨ k < w.heap.size ∨ w'.heap.size ≤ k) → sb.length = 3 → Rd wz (some ⟨gb, 0, none⟩) (bls sb) → m.In wz h → ({ goodM m with subs := sb } : MsgR).In wz h') ∧ ∀ (S : Nat → Prop) (wz : World), Ext S w' wz → (∀ k, S k → k < w.heap.size ∨ w'.heap.size ≤ k) → m.In wz h → (goodM m).In wz h' := by
 have hol := hin.ol
 have hom := hin.om
 have hcol := hin.c.ol
 have hcom := hin.c.om
 unfold maxLen at hom hcom
 go_enter Tryz.func8, Tryz.ntmps8
 go_upto_region 0 with fail
 refine wp_region_lit ?_
 refine wp_box_msg rfl rfl (by rfl) (fun hC => ?_)
 simp only [pz]
 have hxa := Ext.alloc no w (.cells (m.cells h).toArray 36)
 obtain ⟨g, hg⟩ : ∃ g, g = w.heap.size := ⟨_, rfl⟩
 rw [← hg] at hC ⊢
 have hgw : w.heap.size ≤ g := by omega
 clear hg
 generalize w.alloc (.cells (m.cells h).toArray 36) = w1 at *
 refine wp_alloc_msg rfl rfl (fun hZ => ?_)
 simp only [pz]
 have hglt := hC.lt (msg_ne _ _)
 have hxb := Ext.alloc no w1 (.cells (MsgR.zero.cells MsgA.zero).toArray 36)
 have hC2 := hC.ext (msg_ne _ _) hxb (fun h => h)
 have hx2 := hxa.comp hxb
 generalize w1.alloc (.cells (MsgR.zero.cells MsgA.zero).toArray 36) = w2 at *
 obtain ⟨gz, hgz⟩ : ∃ gz, gz = w1.heap.size := ⟨_, rfl⟩
 rw [← hgz] at hZ ⊢
 have hggz : g < gz := by omega
 clear hC hxa hxb hgz hglt
 -- region 1: the kind
 have z0 : w2.cell? ⟨g, 0, none⟩ = some (.int .i64 m.kind) := hC2.cell 0 _ rfl
 have f0 := hC2.fr 0
 obtain ⟨K, hK⟩ : ∃ K, K = m.kind % 5 := ⟨_, rfl⟩
 have hK0 : 0 ≤ K ∧ K < 5 := by omega
 have HK := Lib.hid hK
 go_wp2_with fail
 refine (wiwithin_any m.kind 5 w2 (by omega) (by omega) hok.kind).mono ?_
 rintro e we ⟨rfl, rfl⟩
 rw [← hK]
 clear hK
 go_upto_region 2 with fail
 have hC3 := hC2.put 0 (.int .i64 (1 + K)) (by show 0 < 25; omega) (ds := ({ m with kind := 1 + K } : MsgR).cells h) rfl
 have hx3 := hx2.fresh (Ext.at w2 g 0 (.int .i64 (1 + K))) hgw
 have hZ3 := hZ.ext (msg_ne _ _) (Ext.at w2 g 0 (.int .i64 (1 + K))) (fun e => by have e : gz = g := e; omega)
 clear z0 f0 hC2 hx2 hZ
 generalize w2.setCell ⟨g, 0, none⟩ (.int .i64 (1 + K)) = w3 at *
 -- region 2: the subscriptions
 have z2 : w3.cell? ⟨g, 2, none⟩ = some (.int .i64 m.req) := hC3.cell 2 _ rfl
 have z4 : w3.cell? ⟨g, 4, none⟩ = some (.int .i64 m.pos) := hC3.cell 4 _ rfl
 have z5 : w3.cell? ⟨g, 5, none⟩ = some (.int .i64 m.nxt) := hC3.cell 5 _ rfl
 have f6 := hC3.fr 6
 have z6 : w3.cell? ⟨g, 6, none⟩ = some (.slice h.b m.subs.length h.bc) := hC3.cell 6 _ rfl
 have hglt := hC3.lt (msg_ne _ _)
 go_upto_region 3 with fail
 obtain ⟨b1, hb1⟩ : ∃ b1, b1 = (m.req.tmod 2 == 0) := ⟨_, rfl⟩
 obtain ⟨b2, hb2⟩ : ∃ b2, b2 = (m.pos.tmod 2 == 0) := ⟨_, rfl⟩
 obtain ⟨b3, hb3⟩ : ∃ b3, b3 = (m.nxt.tmod 2 == 0) := ⟨_, rfl⟩
 rw [← hb1, ← hb2, ← hb3]
 have Hb := Lib.hid (show [b1, b2, b3] = [m.req.tmod 2 == 0, m.pos.tmod 2 == 0, m.nxt.tmod 2 == 0] by rw [hb1, hb2, hb3])
 clear hb1 hb2 hb3
 obtain ⟨gb, hgb⟩ : ∃ gb, gb = w3.heap.size := ⟨_, rfl⟩
 rw [← hgb]
 have hgzl := hZ3.lt (msg_ne _ _)
 have hgsz := hx3.size
 have hgb1 : gz < gb := by omega
 have hgb2 : w.heap.size ≤ gb := by omega
 have hC4 := hC3.put 6 (.slice (some ⟨gb, 0, none⟩) 3 3) (by show 6 < 25; omega) (ds := ({ m with kind := 1 + K, subs := [b1, b2, b3] } : MsgR).cells { h with b := some ⟨gb, 0, none⟩, bc := 3 }) rfl
 have hx4 := hx3.fresh (Ext.at w3 g 6 (.slice (some ⟨gb, 0, none⟩) 3 3)) hgw
 have hZ4 := hZ3.ext (msg_ne _ _) (Ext.at w3 g 6 (.slice (some ⟨gb, 0, none⟩) 3 3)) (fun e => by have e : gz = g := e; omega)
 have hgb4 : gb = (w3.setCell ⟨g, 6, none⟩ (.slice (some ⟨gb, 0, none⟩) 3 3)).heap.size := by rw [World.size_setCell]; exact hgb
 clear hgb hgzl hgsz z2 z4 z5 z6 f6 hC3 hZ3 hx3 hglt
 generalize w3.setCell ⟨g, 6, none⟩ (.slice (some ⟨gb, 0, none⟩) 3 3) = w4 at *
 have hxs := Ext.alloc no w4 (.cells #[.bool b1, .bool b2, .bool b3] 4)
 have hS5 : Rd (w4.alloc (.cells #[.bool b1, .bool b2, .bool b3] 4)) (some ⟨gb, 0, none⟩) (bls [b1, b2, b3]) := by rw [hgb4]; exact Rd.lit w4 #[.bool b1, .bool b2, .bool b3] 4 (0, 0)
 have hW5 : Blk (w4.alloc (.cells #[.bool b1, .bool b2, .bool b3] 4)) gb [.bool b1, .bool b2, .bool b3] := Blk.at w4 #[.bool b1, .bool b2, .bool b3] 4 gb hgb4
 clear hgb4
 have hC5 := hC4.ext (msg_ne _ _) hxs (fun h => h)
 have hZ5 := hZ4.ext (msg_ne _ _) hxs (fun h => h)
 have hx5 := hx4.comp hxs
 clear hC4 hx4 hZ4 hxs
 generalize w4.alloc (.cells #[.bool b1, .bool b2, .bool b3] 4) = w5 at *
 -- region 3: the errors
 obtain ⟨E, hE⟩ : ∃ E, E = m.err % 23 := ⟨_, rfl⟩
 obtain ⟨R, hR⟩ : ∃ R, R = m.rep.err % 23 := ⟨_, rfl⟩
 have HcE := Lib.hid (fun wz => by have q := wiwithin_any m.err 23 wz (by omega) (by omega) hok.err; rw [← hE] at q; exact q)
 have HcR := Lib.hid (fun wz => by have q := wiwithin_any m.rep.err 23 wz (by omega) (by omega) hok.rep.err; rw [← hR] at q; exact q)
 have HE := Lib.hid hE
 have HR := Lib.hid hR
 clear hE hR
 have z7 : w5.cell? ⟨g, 7, none⟩ = some (.int .i64 m.err) := hC5.cell 7 _ rfl
 have z15 : w5.cell? ⟨g, 15, none⟩ = some (.int .i64 m.rep.err) := hC5.cell 15 _ rfl
 have f7 := hC5.fr 7
 have f15 := hC5.fr 15
 go_cut [28] (fun _ wx => Blk wx g (({ m with kind := 1 + K, subs := [b1, b2, b3], err := E, rep := { m.rep with err := R } } : MsgR).cells { h with b := some ⟨gb, 0, none⟩, bc := 3 }) ∧ Ext (just g) w5 wx)
 case first =>
  refine wp_region_F [1, 5] (looks [(1, fun z => Ext no w5 z), (5, fun z => Ext no w5 z)]) (by kernel_rfl) ?_
  have hT0 : ∀ k, looks [(1, fun z => Ext no w5 z), (5, fun z => Ext no w5 z)] k (w5.drew) := looks_all ⟨Ext.drew no w5, Ext.drew no w5, trivial⟩
  refine wpF_tk 0 (v := ?_) rfl hT0 (by rfl) ?_ ?_
  rotate_left
  ·(intro wq; go_simp; try with_reducible rfl)
  simp only [pz]
  refine wpF_lk 1 (v := .int .i64 m.err) rfl hT0 (by rfl) (fun w hS => by have hS : Ext no w5 w := hS; have q0 := hS.keeps z7 (fun h => h); go_simp) ?_
  simp only [pz]
  refine wpF_call 2 (v := .int .i64 E) 9 #[.int .i64 m.err, .int .i64 23] rfl (by kernel_rfl) (by kernel_rfl) (by kernel_rfl) (fun _ _ _ h => h) hT0 (by rfl) (by intro wq; go_simp; try with_reducible rfl) (HcE.out) ?_
  simp only [pz]
  refine wpF_tk 3 (v := ?_) rfl hT0 (by rfl) ?_ ?_
  rotate_left
  ·(intro wq; go_simp; try with_reducible rfl)
  simp only [pz]
  refine wpF_tk 4 (v := ?_) rfl hT0 (by rfl) ?_ ?_
  rotate_left
  ·(intro wq; go_simp; try with_reducible rfl)
  simp only [pz]
  refine wpF_lk 5 (v := .int .i64 m.rep.err) rfl hT0 (by rfl) (fun w hS => by have hS : Ext no w5 w := hS; have q0 := hS.keeps z15 (fun h => h); go_simp) ?_
  simp only [pz]
  refine wpF_call 6 (v := .int .i64 R) 9 #[.int .i64 m.rep.err, .int .i64 23] rfl (by kernel_rfl) (by kernel_rfl) (by kernel_rfl) (fun _ _ _ h => h) hT0 (by rfl) (by intro wq; go_simp; try with_reducible rfl) (HcR.out) ?_
  simp only [pz]
  refine wpF_tk 7 (v := ?_) rfl hT0 (by rfl) ?_ ?_
  rotate_left
  ·(intro wq; go_simp; try with_reducible rfl)
  simp only [pz]
  refine wpF_exec 8 rfl (by kernel_rfl) (by rfl) ?_
  intro K hK
  go_simp
  have hT1 : ∀ k, looks [(1, fun z => True), (5, fun z => True)] k ((w5.setCell ⟨g, 7, none⟩ (.int .i64 E)).drew) := looks_all ⟨trivial, trivial, trivial⟩
  refine hK _ _ (looks [(1, fun z => True), (5, fun z => True)]) ⟨.inr (.inl (by kernel_rfl)), .inr (.inl (by kernel_rfl)), trivial⟩ hT1 ?_
  clear hK K
  try simp only [pz]
  refine wpF_tk 9 (v := ?_) rfl hT1 (by rfl) ?_ ?_
  rotate_left
  ·(intro wq; go_simp; try with_reducible rfl)
  simp only [pz]
  refine wpF_tk 10 (v := ?_) rfl hT1 (by rfl) ?_ ?_
  rotate_left
  ·(intro wq; go_simp; try with_reducible rfl)
  simp only [pz]
  refine wpF_exec 11 rfl (by kernel_rfl) (by rfl) ?_
  intro K hK
  go_simp
  have hT2 : ∀ k, looks [(1, fun z => True), (5, fun z => True)] k (((w5.setCell ⟨g, 7, none⟩ (.int .i64 E)).setCell ⟨g, 15, none⟩ (.int .i64 R)).drew) := looks_all ⟨trivial, trivial, trivial⟩
  refine hK _ _ (looks [(1, fun z => True), (5, fun z => True)]) ⟨.inr (.inl (by kernel_rfl)), .inr (.inl (by kernel_rfl)), trivial⟩ hT2 ?_
  clear hK K
  try simp only [pz]
  refine wpF_done (by kernel_rfl) ?_ _
  go_wp2_with fail
  go_meet
  exact ⟨((hC5.set 7 (.int .i64 E) (by show 7 < 25; omega)).set 15 (.int .i64 R) (by show 15 < 25; omega)).drew, ((Ext.at w5 g 7 (.int .i64 E)).comp (Ext.at _ g 15 (.int .i64 R))).comp (Ext.drew _ _)⟩
 case rest =>
  obtain ⟨hC6, hx56⟩ := hcut
  clear hC5 z7 z15 f7 f15
  have hx6 := hx5.fresh hx56 hgw
  have hZ6 := hZ5.ext (msg_ne _ _) hx56 (fun e => by have e : gz = g := e; omega)
  have hS6 := hS5.ext hx56 (fun ad ha e => by cases ha; have e : gb = g := e; omega)
  have hW6 := hW5.ext (by simp) hx56 (fun e => by have e : gb = g := e; omega)
  have hgl6 := hW6.lt (by simp)
  clear hx5 hx56 hZ5 hS5 hW5
  obtain ⟨w6, hw6⟩ : ∃ w6, w6 = wc := ⟨_, rfl⟩
  subst hw6
  obtain ⟨P1, hP1, hrp1, hgp1⟩ := (hin.no hx6).o
  have hPl1 : P1.length = m.ops.length := by rw [← hP1, List.length_map]
  have HP1 := Lib.hid hP1
  have HPl1 := Lib.hid hPl1
  clear hP1 hPl1
  have hgl1 := hC6.lt (msg_ne _ _)
  go_wp2_with fail
  go_loopw [3, 4] (fun s3 s4 wr => ∃ (i : Nat) (G : List OpW) (ga : Option Addr) (gc : Nat), s3 = .slice ga G.length gc ∧ s4 = .int .i64 i ∧ i ≤ m.ops.length ∧ i ≤ 20 ∧ G.length = i ∧ G.map OpW.o = (m.ops.take i).map goodOp ∧ OpAcc wr w6.heap.size ga gc G ∧ Ext no w6 wr) (fun _ s4 _ => m.ops.length - (intOf s4).toNat)
  case atStart => exact ⟨0, [], none, 0, rfl, rfl, Nat.zero_le _, Nat.zero_le _, rfl, rfl, OpAcc.nil _ _, Ext.refl _ _⟩
  case round =>
   obtain ⟨i, G, ga, gc, rfl, rfl, hil, hi20, hGl, hGm, hacc, hx⟩ := hrel
   have HGl := Lib.hid hGl
   have HGm := Lib.hid hGm
   clear hGl hGm
   have hCr := hC6.ext (msg_ne _ _) hx (fun h => h)
   have zc : wr.cell? ⟨g, 24, none⟩ = some (.slice h.o m.ops.length h.oc) := hCr.cell 24 _ rfl
   obtain ⟨tt, htt⟩ : ∃ tt, tt = decide (i < m.ops.length ∧ i < 20) := ⟨_, rfl⟩
   have Htt := Lib.hid htt
   clear htt
   go_upto_region 6 with fail
   go_cut [44] (fun st wx => st = .bool tt ∧ wx = wr)
   case first =>
    by_cases k1 : i < m.ops.length
    ·have d1 : decide (i < m.ops.length) = true := decT k1
     by_cases k2 : i < 20
     ·have d2 : decide ((i : Int) < 20) = true := decT (by omega)
      have HT := Lib.hid (show tt = true by rw [Htt.out]; exact decT ⟨k1, k2⟩)
      go_wp2_with fail
      go_meet
      exact ⟨by rw [HT.out], rfl⟩
     ·have d2 : decide ((i : Int) < 20) = false := decF (by omega)
      have HT := Lib.hid (show tt = false by rw [Htt.out]; exact decF (fun h => k2 h.2))
      go_wp2_with fail
      go_meet
      exact ⟨by rw [HT.out], rfl⟩
    ·have d1 : decide (i < m.ops.length) = false := decF k1
     have HT := Lib.hid (show tt = false by rw [Htt.out]; exact decF (fun h => k1 h.1))
     go_wp2_with fail
     go_meet
     exact ⟨by rw [HT.out], rfl⟩
   case rest =>
    obtain ⟨rfl, rfl⟩ := hcut
    cases tt with
    | true =>
     have k12 : i < m.ops.length ∧ i < 20 := of_decide_eq_true Htt.out.symm
     obtain ⟨y, hym⟩ : ∃ y, P1[i]? = some y := ⟨_, List.getElem?_eq_getElem (by have := HPl1.out; omega)⟩
     have hyo : m.ops[i]? = some y.o := by rw [← HP1.out, List.getElem?_map, hym]; rfl
     have hgy := hgp1 y (List.mem_of_getElem? hym)
     have hoy := hok.ops y.o (List.mem_of_getElem? hyo)
     have hrq := hrp1.ext hx (fun _ _ h => h)
     obtain ⟨ob, oof, hsb, _⟩ := rows_shape kOp (by omega) hrq (by have := HPl1.out; omega)
     rw [hsb] at hrq
     have y0 : wc.cell? ⟨ob, oof + i * 11, none⟩ = some (.int .i64 y.o.dot.dev) := rows_cell kOp hrq hym 0 _ rfl
     have y1 : wc.cell? ⟨ob, oof + i * 11 + 1, none⟩ = some (.int .i64 y.o.dot.ep) := rows_cell kOp hrq hym 1 _ rfl
     have y2 : wc.cell? ⟨ob, oof + i * 11 + 2, none⟩ = some (.int .i64 y.o.dot.seq) := rows_cell kOp hrq hym 2 _ rfl
     have y3 : wc.cell? ⟨ob, oof + i * 11 + 3, none⟩ = some (.int .i64 y.o.coll) := rows_cell kOp hrq hym 3 _ rfl
     have y4 : wc.cell? ⟨ob, oof + i * 11 + 4, none⟩ = some (.int .i64 y.o.ver) := rows_cell kOp hrq hym 4 _ rfl
     have y5 : wc.cell? ⟨ob, oof + i * 11 + 5, none⟩ = some (.int .i64 y.o.kind) := rows_cell kOp hrq hym 5 _ rfl
     have y6 : wc.cell? ⟨ob, oof + i * 11 + 6, none⟩ = some (.string (str y.o.key)) := rows_cell kOp hrq hym 6 _ rfl
     have y7 : wc.cell? ⟨ob, oof + i * 11 + 7, none⟩ = some (.string (str y.o.text)) := rows_cell kOp hrq hym 7 _ rfl
     have y8 : wc.cell? ⟨ob, oof + i * 11 + 8, none⟩ = some (.int .i64 y.o.n) := rows_cell kOp hrq hym 8 _ rfl
     have y9 : wc.cell? ⟨ob, oof + i * 11 + 9, none⟩ = some (.int .i64 y.o.time) := rows_cell kOp hrq hym 9 _ rfl
     have y10 : wc.cell? ⟨ob, oof + i * 11 + 10, none⟩ = some (.slice y.a y.o.dots.length y.c) := rows_cell kOp hrq hym 10 _ rfl
     have Hyo := Lib.hid hyo
     have hydr := hgy.rd.ext hx (fun _ _ h => h)
     clear hyo hym hrq
     go_wp2_with fail
     refine (good_any _ y.o y.a y.c hoy hydr hgy.lc hgy.cm).mono ?_
     rintro e wg ⟨a', c', rfl, hqr, hql, hqc, hxg, hqf⟩
     obtain ⟨q, hq⟩ : ∃ q, q = goodOp y.o := ⟨_, rfl⟩
     rw [← hq] at hqr hql ⊢
     have Hq := Lib.hid hq
     clear hq y0 y1 y2 y3 y4 y5 y6 y7 y8 y9 y10 hydr hgy hoy zc hCr
     unfold OpR.v
     go_wp2_with (at_builtin; refine wpList_append TOps rfl rfl rfl ((hacc.on hxg).own.alloc _) rfl (Rd.lit wg #[.int .i64 q.dot.dev, .int .i64 q.dot.ep, .int .i64 q.dot.seq, .int .i64 q.coll, .int .i64 q.ver, .int .i64 q.kind, .string (str q.key), .string (str q.text), .int .i64 q.n, .int .i64 q.time, .slice a' q.dots.length c'] 62 (0, 0)) (m := 1) rfl (oneOp ⟨q, a', c'⟩) (by have := HGl.out; unfold maxLen; omega) (by have := HGl.out; omega) (by simp; have := hx.size; have := hxg.size; omega) ?_)
     intro a2 c2 w7 happ
     have hp := hacc.push (x := ⟨q, a', c'⟩) hxg ⟨hqr, hql, hqc⟩ hqf hx.size happ
     have hx7 : Ext no w6 w7 := (hx.comp (hxg.comp (Ext.alloc no wg _))).trans hp.2 (fun k hk => by rintro ⟨ad, ha, e⟩; have := (hacc.own.base ad ha).1; omega)
     have Hn := Lib.hid (show (G ++ [(⟨q, a', c'⟩ : OpW)]).map OpW.o = (m.ops.take (i + 1)).map goodOp by rw [goodOps_step m.ops i y.o Hyo.out, List.map_append, HGm.out, ← Hq.out]; rfl)
     clear happ
     go_wp2_with fail
     go_roundw
     case rel => exact ⟨i + 1, G ++ [⟨q, a', c'⟩], a2, c2, by rw [List.length_append]; rfl, by go_num, by omega, by omega, by rw [List.length_append, HGl.out]; rfl, Hn.out, hp.1, hx7⟩
     case measure => simp [intOf]; omega
    | false =>
     have k12 : ¬ (i < m.ops.length ∧ i < 20) := of_decide_eq_false Htt.out.symm
     have hend : G.map OpW.o = goodOps m.ops := by
      rw [HGm.out]
      unfold goodOps
      congr 1
      rcases Nat.lt_or_ge i m.ops.length with k1 | k1
      ·rw [show i = 20 by omega]
      ·rw [List.take_of_length_le k1, List.take_of_length_le (by omega)]
     have hGL : G.length = (goodOps m.ops).length := by rw [← hend, List.length_map]
     rw [hGL]
     have Hend1 := Lib.hid hend
     clear hend hGL HGm HGl k12 Htt
     have f24 := hCr.fr 24
     go_upto_region 10 with fail
     obtain ⟨G1, h0⟩ : ∃ v, v = G := ⟨_, rfl⟩
     subst h0
     obtain ⟨ga1, h0⟩ : ∃ v, v = ga := ⟨_, rfl⟩
     subst h0
     obtain ⟨gc1, h0⟩ : ∃ v, v = gc := ⟨_, rfl⟩
     subst h0
     have hC8 := hCr.put 24 (.slice ga1 (goodOps m.ops).length gc1) (by show 24 < 25; omega) (ds := ({ m with kind := 1 + K, subs := [b1, b2, b3], err := E, rep := { m.rep with err := R }, ops := goodOps m.ops } : MsgR).cells { h with b := some ⟨gb, 0, none⟩, bc := 3, o := ga1, oc := gc1 }) rfl
     have hE8 := Ext.at wc g 24 (.slice ga1 (goodOps m.ops).length gc1)
     have hgz6 := hZ6.lt (msg_ne _ _)
     have hws6 := hx6.size
     have hx8 := (hx6.comp hx).fresh hE8 hgw
     have hZ8 := (hZ6.ext (msg_ne _ _) hx (fun h => h)).ext (msg_ne _ _) hE8 (fun e => by have e : gz = g := e; omega)
     have hS8 := (hS6.ext hx (fun _ _ h => h)).ext hE8 (fun ad ha e => by cases ha; have e : gb = g := e; omega)
     have hW8 := (hW6.ext (by simp) hx (fun h => h)).ext (by simp) hE8 (fun e => by have e : gb = g := e; omega)
     have hgl8 := hW8.lt (by simp)
     have hA8 := hacc.low hE8 (fun k hk => by have e : k = g := hk; omega)
     clear hacc hx hCr zc f24 hC6 hx6 hZ6 hS6 hW6 hrp1 hgp1 hil hi20 hE8
     generalize wc.setCell ⟨g, 24, none⟩ (.slice ga1 (goodOps m.ops).length gc1) = w8 at *
     obtain ⟨w9, hw9⟩ : ∃ w9, w9 = w8 := ⟨_, rfl⟩
     subst hw9
     obtain ⟨P2, hP2, hrp2, hgp2⟩ := (hin.no hx8).c.o
     have hPl2 : P2.length = m.cmd.ops.length := by rw [← hP2, List.length_map]
     have HP2 := Lib.hid hP2
     have HPl2 := Lib.hid hPl2
     clear hP2 hPl2
     have hgl2 := hC8.lt (msg_ne _ _)
     go_wp2_with fail
     go_loopw [3, 5] (fun s3 s5 wr => ∃ (i : Nat) (G : List OpW) (ga : Option Addr) (gc : Nat), s3 = .slice ga G.length gc ∧ s5 = .int .i64 i ∧ i ≤ m.cmd.ops.length ∧ i ≤ 20 ∧ G.length = i ∧ G.map OpW.o = (m.cmd.ops.take i).map goodOp ∧ OpAcc wr w9.heap.size ga gc G ∧ Ext no w9 wr) (fun _ s5 _ => m.cmd.ops.length - (intOf s5).toNat)
     case atStart => exact ⟨0, [], none, 0, rfl, rfl, Nat.zero_le _, Nat.zero_le _, rfl, rfl, OpAcc.nil _ _, Ext.refl _ _⟩
     case round =>
      obtain ⟨i, G, ga, gc, rfl, rfl, hil, hi20, hGl, hGm, hacc, hx⟩ := hrel
      have HGl := Lib.hid hGl
      have HGm := Lib.hid hGm
      clear hGl hGm
      have hCr := hC8.ext (msg_ne _ _) hx (fun h => h)
      have zc : wr.cell? ⟨g, 14, none⟩ = some (.slice h.c.o m.cmd.ops.length h.c.oc) := hCr.cell 14 _ rfl
      obtain ⟨tt, htt⟩ : ∃ tt, tt = decide (i < m.cmd.ops.length ∧ i < 20) := ⟨_, rfl⟩
      have Htt := Lib.hid htt
      clear htt
      go_upto_region 12 with fail
      go_cut [67] (fun st wx => st = .bool tt ∧ wx = wr)
      case first =>
       by_cases k1 : i < m.cmd.ops.length
       ·have d1 : decide (i < m.cmd.ops.length) = true := decT k1
        by_cases k2 : i < 20
        ·have d2 : decide ((i : Int) < 20) = true := decT (by omega)
         have HT := Lib.hid (show tt = true by rw [Htt.out]; exact decT ⟨k1, k2⟩)
         go_wp2_with fail
         go_meet
         exact ⟨by rw [HT.out], rfl⟩
        ·have d2 : decide ((i : Int) < 20) = false := decF (by omega)
         have HT := Lib.hid (show tt = false by rw [Htt.out]; exact decF (fun h => k2 h.2))
         go_wp2_with fail
         go_meet
         exact ⟨by rw [HT.out], rfl⟩
       ·have d1 : decide (i < m.cmd.ops.length) = false := decF k1
        have HT := Lib.hid (show tt = false by rw [Htt.out]; exact decF (fun h => k1 h.1))
        go_wp2_with fail
        go_meet
        exact ⟨by rw [HT.out], rfl⟩
      case rest =>
       obtain ⟨rfl, rfl⟩ := hcut
       cases tt with
       | true =>
        have k12 : i < m.cmd.ops.length ∧ i < 20 := of_decide_eq_true Htt.out.symm
        obtain ⟨y, hym⟩ : ∃ y, P2[i]? = some y := ⟨_, List.getElem?_eq_getElem (by have := HPl2.out; omega)⟩
        have hyo : m.cmd.ops[i]? = some y.o := by rw [← HP2.out, List.getElem?_map, hym]; rfl
        have hgy := hgp2 y (List.mem_of_getElem? hym)
        have hoy := hok.cmd.ops y.o (List.mem_of_getElem? hyo)
        have hrq := hrp2.ext hx (fun _ _ h => h)
        obtain ⟨ob, oof, hsb, _⟩ := rows_shape kOp (by omega) hrq (by have := HPl2.out; omega)
        rw [hsb] at hrq
        have y0 : wc.cell? ⟨ob, oof + i * 11, none⟩ = some (.int .i64 y.o.dot.dev) := rows_cell kOp hrq hym 0 _ rfl
        have y1 : wc.cell? ⟨ob, oof + i * 11 + 1, none⟩ = some (.int .i64 y.o.dot.ep) := rows_cell kOp hrq hym 1 _ rfl
        have y2 : wc.cell? ⟨ob, oof + i * 11 + 2, none⟩ = some (.int .i64 y.o.dot.seq) := rows_cell kOp hrq hym 2 _ rfl
        have y3 : wc.cell? ⟨ob, oof + i * 11 + 3, none⟩ = some (.int .i64 y.o.coll) := rows_cell kOp hrq hym 3 _ rfl
        have y4 : wc.cell? ⟨ob, oof + i * 11 + 4, none⟩ = some (.int .i64 y.o.ver) := rows_cell kOp hrq hym 4 _ rfl
        have y5 : wc.cell? ⟨ob, oof + i * 11 + 5, none⟩ = some (.int .i64 y.o.kind) := rows_cell kOp hrq hym 5 _ rfl
        have y6 : wc.cell? ⟨ob, oof + i * 11 + 6, none⟩ = some (.string (str y.o.key)) := rows_cell kOp hrq hym 6 _ rfl
        have y7 : wc.cell? ⟨ob, oof + i * 11 + 7, none⟩ = some (.string (str y.o.text)) := rows_cell kOp hrq hym 7 _ rfl
        have y8 : wc.cell? ⟨ob, oof + i * 11 + 8, none⟩ = some (.int .i64 y.o.n) := rows_cell kOp hrq hym 8 _ rfl
        have y9 : wc.cell? ⟨ob, oof + i * 11 + 9, none⟩ = some (.int .i64 y.o.time) := rows_cell kOp hrq hym 9 _ rfl
        have y10 : wc.cell? ⟨ob, oof + i * 11 + 10, none⟩ = some (.slice y.a y.o.dots.length y.c) := rows_cell kOp hrq hym 10 _ rfl
        have Hyo := Lib.hid hyo
        have hydr := hgy.rd.ext hx (fun _ _ h => h)
        clear hyo hym hrq
        go_wp2_with fail
        refine (good_any _ y.o y.a y.c hoy hydr hgy.lc hgy.cm).mono ?_
        rintro e wg ⟨a', c', rfl, hqr, hql, hqc, hxg, hqf⟩
        obtain ⟨q, hq⟩ : ∃ q, q = goodOp y.o := ⟨_, rfl⟩
        rw [← hq] at hqr hql ⊢
        have Hq := Lib.hid hq
        clear hq y0 y1 y2 y3 y4 y5 y6 y7 y8 y9 y10 hydr hgy hoy zc hCr
        unfold OpR.v
        go_wp2_with (at_builtin; refine wpList_append TOps rfl rfl rfl ((hacc.on hxg).own.alloc _) rfl (Rd.lit wg #[.int .i64 q.dot.dev, .int .i64 q.dot.ep, .int .i64 q.dot.seq, .int .i64 q.coll, .int .i64 q.ver, .int .i64 q.kind, .string (str q.key), .string (str q.text), .int .i64 q.n, .int .i64 q.time, .slice a' q.dots.length c'] 62 (0, 0)) (m := 1) rfl (oneOp ⟨q, a', c'⟩) (by have := HGl.out; unfold maxLen; omega) (by have := HGl.out; omega) (by simp; have := hx.size; have := hxg.size; omega) ?_)
        intro a2 c2 w7 happ
        have hp := hacc.push (x := ⟨q, a', c'⟩) hxg ⟨hqr, hql, hqc⟩ hqf hx.size happ
        have hx7 : Ext no w9 w7 := (hx.comp (hxg.comp (Ext.alloc no wg _))).trans hp.2 (fun k hk => by rintro ⟨ad, ha, e⟩; have := (hacc.own.base ad ha).1; omega)
        have Hn := Lib.hid (show (G ++ [(⟨q, a', c'⟩ : OpW)]).map OpW.o = (m.cmd.ops.take (i + 1)).map goodOp by rw [goodOps_step m.cmd.ops i y.o Hyo.out, List.map_append, HGm.out, ← Hq.out]; rfl)
        clear happ
        go_wp2_with fail
        go_roundw
        case rel => exact ⟨i + 1, G ++ [⟨q, a', c'⟩], a2, c2, by rw [List.length_append]; rfl, by go_num, by omega, by omega, by rw [List.length_append, HGl.out]; rfl, Hn.out, hp.1, hx7⟩
        case measure => simp [intOf]; omega
       | false =>
        have k12 : ¬ (i < m.cmd.ops.length ∧ i < 20) := of_decide_eq_false Htt.out.symm
        have hend : G.map OpW.o = goodOps m.cmd.ops := by
         rw [HGm.out]
         unfold goodOps
         congr 1
         rcases Nat.lt_or_ge i m.cmd.ops.length with k1 | k1
         ·rw [show i = 20 by omega]
         ·rw [List.take_of_length_le k1, List.take_of_length_le (by omega)]
        have hGL : G.length = (goodOps m.cmd.ops).length := by rw [← hend, List.length_map]
        rw [hGL]
        have Hend2 := Lib.hid hend
        clear hend hGL HGm HGl k12 Htt
        have f14 := hCr.fr 14
        go_upto_region 16 with fail
        obtain ⟨G2, h0⟩ : ∃ v, v = G := ⟨_, rfl⟩
        subst h0
        obtain ⟨ga2, h0⟩ : ∃ v, v = ga := ⟨_, rfl⟩
        subst h0
        obtain ⟨gc2, h0⟩ : ∃ v, v = gc := ⟨_, rfl⟩
        subst h0
        have hC10 := hCr.put 14 (.slice ga2 (goodOps m.cmd.ops).length gc2) (by show 14 < 25; omega) (ds := ({ m with kind := 1 + K, subs := [b1, b2, b3], err := E, rep := { m.rep with err := R }, ops := goodOps m.ops, cmd := { m.cmd with ops := goodOps m.cmd.ops } } : MsgR).cells { h with b := some ⟨gb, 0, none⟩, bc := 3, o := ga1, oc := gc1, c := { h.c with o := ga2, oc := gc2 } }) rfl
        have hE10 := Ext.at wc g 14 (.slice ga2 (goodOps m.cmd.ops).length gc2)
        have hgz9 := hZ8.lt (msg_ne _ _)
        have hws9 := hx8.size
        have hx10 := (hx8.comp hx).fresh hE10 hgw
        have hZ10 := (hZ8.ext (msg_ne _ _) hx (fun h => h)).ext (msg_ne _ _) hE10 (fun e => by have e : gz = g := e; omega)
        have hS10 := (hS8.ext hx (fun _ _ h => h)).ext hE10 (fun ad ha e => by cases ha; have e : gb = g := e; omega)
        have hW10 := (hW8.ext (by simp) hx (fun h => h)).ext (by simp) hE10 (fun e => by have e : gb = g := e; omega)
        have hA10 := (hA8.on hx).low hE10 (fun k hk => by have e : k = g := hk; omega)
        have hB10 := hacc.low hE10 (fun k hk => by have e : k = g := hk; omega)
        clear hacc hx hCr zc f14 hC8 hx8 hZ8 hS8 hW8 hA8 hrp2 hgp2 hil hi20 hE10
        generalize wc.setCell ⟨g, 14, none⟩ (.slice ga2 (goodOps m.cmd.ops).length gc2) = w10 at *
        obtain ⟨kw, hkw⟩ : ∃ k, k = (m.cmd.wants.take 20).length := ⟨_, rfl⟩
        have hlkw := hin.c.wl
        have hmkw : min (m.cmd.wants.length : Int) 20 = (kw : Int) := by rw [hkw, List.length_take]; omega
        have hckw : ∀ w, (Instr.sliceAt 24 (.slice h.c.w m.cmd.wants.length h.c.wc) none (some (.int .i64 (kw : Int))) none).run Tryz.prog w = .ok (.slice h.c.w kw h.c.wc) w := fun w => run_cut_h TyWants w _ _ _ .i64 kw (by rw [hkw, List.length_take]; omega)
        have Hkw := Lib.hid hkw
        clear hkw
        have z13 : w10.cell? ⟨g, 13, none⟩ = some (.slice h.c.w m.cmd.wants.length h.c.wc) := hC10.cell 13 _ rfl
        have f13 := hC10.fr 13
        have Hmn := Lib.hid (show ((20 : Int) < (m.cmd.wants.length : Int) ∧ kw = 20) ∨ (¬ (20 : Int) < (m.cmd.wants.length : Int) ∧ kw = m.cmd.wants.length) by rw [Hkw.out, List.length_take]; omega)
        clear hmkw hckw
        go_cut [91] (fun _ wx => wx = w10.setCell ⟨g, 13, none⟩ (.slice h.c.w kw h.c.wc))
        case first =>
         rcases Hmn.out with ⟨q1, q2⟩ | ⟨q1, q2⟩
         ·have hcq : ∀ w, (Instr.sliceAt 24 (.slice h.c.w m.cmd.wants.length h.c.wc) none (some (.int .i64 20)) none).run Tryz.prog w = .ok (.slice h.c.w 20 h.c.wc) w := fun w => run_cut_h TyWants w _ _ _ .i64 20 (by omega)
          have Q2 := Lib.hid q2
          clear q2
          go_wp2_with fail
          go_meet
          rw [Q2.out]
         ·have hcq : ∀ w, (Instr.sliceAt 24 (.slice h.c.w m.cmd.wants.length h.c.wc) none (some (.int .i64 (m.cmd.wants.length : Int))) none).run Tryz.prog w = .ok (.slice h.c.w m.cmd.wants.length h.c.wc) w := fun w => run_cut_h TyWants w _ _ _ .i64 m.cmd.wants.length (by omega)
          have Q2 := Lib.hid q2
          clear q2
          go_wp2_with fail
          go_meet
          rw [Q2.out]
        case rest =>
        obtain rfl := hcut
        have hC11 := hC10.put 13 (.slice h.c.w kw h.c.wc) (by show 13 < 25; omega) (ds := ({ m with kind := 1 + K, subs := [b1, b2, b3], err := E, rep := { m.rep with err := R }, ops := goodOps m.ops, cmd := { m.cmd with ops := goodOps m.cmd.ops, wants := m.cmd.wants.take 20 } } : MsgR).cells { h with b := some ⟨gb, 0, none⟩, bc := 3, o := ga1, oc := gc1, c := { h.c with o := ga2, oc := gc2 } }) (by rw [Hkw.out]; rfl)
        have hE11 := Ext.at w10 g 13 (.slice h.c.w kw h.c.wc)
        have hx11 := hx10.fresh hE11 hgw
        have hZ11 := hZ10.ext (msg_ne _ _) hE11 (fun e => by have e : gz = g := e; omega)
        have hS11 := hS10.ext hE11 (fun ad ha e => by cases ha; have e : gb = g := e; omega)
        have hW11 := hW10.ext (by simp) hE11 (fun e => by have e : gb = g := e; omega)
        have hA11 := hA10.low hE11 (fun k hk => by have e : k = g := hk; omega)
        have hB11 := hB10.low hE11 (fun k hk => by have e : k = g := hk; omega)
        clear hC10 hE11 hx10 hZ10 hS10 hW10 hA10 hB10 z13 f13 hlkw
        generalize w10.setCell ⟨g, 13, none⟩ (.slice h.c.w kw h.c.wc) = w11 at *
        have z17 : w11.cell? ⟨g, 17, none⟩ = some (.int .i64 m.rep.dev) := hC11.cell 17 _ rfl
        have z18 : w11.cell? ⟨g, 18, none⟩ = some (.int .i64 m.rep.ep) := hC11.cell 18 _ rfl
        have z19 : w11.cell? ⟨g, 19, none⟩ = some (.int .i64 m.rep.til) := hC11.cell 19 _ rfl
        have z20 : w11.cell? ⟨g, 20, none⟩ = some (.int .i64 m.rep.last) := hC11.cell 20 _ rfl
        have z21 : w11.cell? ⟨g, 21, none⟩ = some (.slice h.r.s m.rep.slices.length h.r.sc) := hC11.cell 21 _ rfl
        have z22 : w11.cell? ⟨g, 22, none⟩ = some (.slice h.r.i m.rep.ids.length h.r.ic) := hC11.cell 22 _ rfl
        have z23 : w11.cell? ⟨g, 23, none⟩ = some (.slice h.r.u m.rep.used.length h.r.uc) := hC11.cell 23 _ rfl
        go_upto_region 18 with fail
        have hL := Blk.lit w11 #[.int .i64 m.rep.dev, .int .i64 m.rep.ep, .int .i64 m.rep.til, .int .i64 m.rep.last, .slice h.r.s m.rep.slices.length h.r.sc, .slice h.r.i m.rep.ids.length h.r.ic, .slice h.r.u m.rep.used.length h.r.uc] 32
        have hxl := Ext.alloc no w11 (.cells #[.int .i64 m.rep.dev, .int .i64 m.rep.ep, .int .i64 m.rep.til, .int .i64 m.rep.last, .slice h.r.s m.rep.slices.length h.r.sc, .slice h.r.i m.rep.ids.length h.r.ic, .slice h.r.u m.rep.used.length h.r.uc] 32)
        obtain ⟨gl, hgl⟩ : ∃ gl, gl = w11.heap.size := ⟨_, rfl⟩
        have hgl11 : w11.heap.size ≤ gl := by omega
        rw [← hgl] at hL ⊢
        have hglg := hC11.lt (msg_ne _ _)
        have hgg : g < gl := by omega
        clear hgl hglg z17 z18 z19 z20 z21 z22 z23
        generalize w11.alloc (.cells #[.int .i64 m.rep.dev, .int .i64 m.rep.ep, .int .i64 m.rep.til, .int .i64 m.rep.last, .slice h.r.s m.rep.slices.length h.r.sc, .slice h.r.i m.rep.ids.length h.r.ic, .slice h.r.u m.rep.used.length h.r.uc] 32) = w12 at *
        obtain ⟨ks, hks⟩ : ∃ k, k = (m.rep.slices.take 20).length := ⟨_, rfl⟩
        have hlks := hin.r.sl
        have hmks : min (m.rep.slices.length : Int) 20 = (ks : Int) := by rw [hks, List.length_take]; omega
        have hcks : ∀ w, (Instr.sliceAt 28 (.slice h.r.s m.rep.slices.length h.r.sc) none (some (.int .i64 (ks : Int))) none).run Tryz.prog w = .ok (.slice h.r.s ks h.r.sc) w := fun w => run_cut_h TySlices w _ _ _ .i64 ks (by rw [hks, List.length_take]; omega)
        have Hks := Lib.hid hks
        have Hmks := Lib.hid (show ((20 : Int) < (m.rep.slices.length : Int) ∧ (ks : Int) = 20) ∨ (¬ (20 : Int) < (m.rep.slices.length : Int) ∧ (ks : Int) = m.rep.slices.length) by rw [hks, List.length_take]; omega)
        clear hks
        obtain ⟨ki, hki⟩ : ∃ k, k = (m.rep.ids.take 100).length := ⟨_, rfl⟩
        have hlki := hin.r.il
        have hmki : min (m.rep.ids.length : Int) 100 = (ki : Int) := by rw [hki, List.length_take]; omega
        have hcki : ∀ w, (Instr.sliceAt 29 (.slice h.r.i m.rep.ids.length h.r.ic) none (some (.int .i64 (ki : Int))) none).run Tryz.prog w = .ok (.slice h.r.i ki h.r.ic) w := fun w => run_cut_h TyRanges w _ _ _ .i64 ki (by rw [hki, List.length_take]; omega)
        have Hki := Lib.hid hki
        have Hmki := Lib.hid (show ((100 : Int) < (m.rep.ids.length : Int) ∧ (ki : Int) = 100) ∨ (¬ (100 : Int) < (m.rep.ids.length : Int) ∧ (ki : Int) = m.rep.ids.length) by rw [hki, List.length_take]; omega)
        clear hki
        obtain ⟨ku, hku⟩ : ∃ k, k = (m.rep.used.take 100).length := ⟨_, rfl⟩
        have hlku := hin.r.ul
        have hmku : min (m.rep.used.length : Int) 100 = (ku : Int) := by rw [hku, List.length_take]; omega
        have hcku : ∀ w, (Instr.sliceAt 30 (.slice h.r.u m.rep.used.length h.r.uc) none (some (.int .i64 (ku : Int))) none).run Tryz.prog w = .ok (.slice h.r.u ku h.r.uc) w := fun w => run_cut_h TInts w _ _ _ .i64 ku (by rw [hku, List.length_take]; omega)
        have Hku := Lib.hid hku
        have Hmku := Lib.hid (show ((100 : Int) < (m.rep.used.length : Int) ∧ (ku : Int) = 100) ∨ (¬ (100 : Int) < (m.rep.used.length : Int) ∧ (ku : Int) = m.rep.used.length) by rw [hku, List.length_take]; omega)
        clear hku
        have y4 : w12.cell? ⟨gl, 4, none⟩ = some (.slice h.r.s m.rep.slices.length h.r.sc) := hL.cell 4 _ rfl
        have fy4 := hL.fr 4
        have y5 : w12.cell? ⟨gl, 5, none⟩ = some (.slice h.r.i m.rep.ids.length h.r.ic) := hL.cell 5 _ rfl
        have fy5 := hL.fr 5
        have y6 : w12.cell? ⟨gl, 6, none⟩ = some (.slice h.r.u m.rep.used.length h.r.uc) := hL.cell 6 _ rfl
        have fy6 := hL.fr 6
        go_cut [97] (fun _ wx => Blk wx gl [.int .i64 m.rep.dev, .int .i64 m.rep.ep, .int .i64 m.rep.til, .int .i64 m.rep.last, .slice h.r.s ks h.r.sc, .slice h.r.i ki h.r.ic, .slice h.r.u ku h.r.uc] ∧ Ext (just gl) w12 wx)
        case first =>
         refine wp_region_F [1, 3, 8, 10, 15, 17] (looks [(1, fun z => Ext no w12 z), (3, fun z => Ext no w12 z), (8, fun z => Ext no w12 z), (10, fun z => Ext no w12 z), (15, fun z => Ext no w12 z), (17, fun z => Ext no w12 z)]) (by kernel_rfl) ?_
         have hT0 : ∀ k, looks [(1, fun z => Ext no w12 z), (3, fun z => Ext no w12 z), (8, fun z => Ext no w12 z), (10, fun z => Ext no w12 z), (15, fun z => Ext no w12 z), (17, fun z => Ext no w12 z)] k (w12.drew) := looks_all ⟨Ext.drew no w12, Ext.drew no w12, Ext.drew no w12, Ext.drew no w12, Ext.drew no w12, Ext.drew no w12, trivial⟩
         refine wpF_tk 0 (v := ?_) rfl hT0 (by rfl) ?_ ?_
         rotate_left
         ·(intro wq; go_simp; try with_reducible rfl)
         simp only [pz]
         refine wpF_lk 1 (v := .slice h.r.s m.rep.slices.length h.r.sc) rfl hT0 (by rfl) (fun w hS => by have hS : Ext no w12 w := hS; have q0 := hS.keeps y4 (fun h => h); go_simp) ?_
         simp only [pz]
         refine wpF_tk 2 (v := ?_) rfl hT0 (by rfl) ?_ ?_
         rotate_left
         ·(intro wq; go_simp; try with_reducible rfl)
         simp only [pz]
         refine wpF_lk 3 (v := .slice h.r.s m.rep.slices.length h.r.sc) rfl hT0 (by rfl) (fun w hS => by have hS : Ext no w12 w := hS; have q0 := hS.keeps y4 (fun h => h); go_simp) ?_
         simp only [pz]
         refine wpF_tk 4 (v := ?_) rfl hT0 (by rfl) ?_ ?_
         rotate_left
         ·(intro wq; go_simp; try with_reducible rfl)
         simp only [pz]
         refine wpF_tk 5 (v := .int .i64 (ks : Int)) rfl hT0 (by rfl) (by intro wq; rcases Hmks.out with ⟨hq, e⟩ | ⟨hq, e⟩ <;> (rw [e]; go_simp)) ?_
         simp only [pz]
         refine wpF_tk 6 (v := .slice h.r.s ks h.r.sc) rfl hT0 (by rfl) (by intro wq; have hq := hcks wq; go_simp) ?_
         simp only [pz]
         refine wpF_tk 7 (v := ?_) rfl hT0 (by rfl) ?_ ?_
         rotate_left
         ·(intro wq; go_simp; try with_reducible rfl)
         simp only [pz]
         refine wpF_lk 8 (v := .slice h.r.i m.rep.ids.length h.r.ic) rfl hT0 (by rfl) (fun w hS => by have hS : Ext no w12 w := hS; have q0 := hS.keeps y5 (fun h => h); go_simp) ?_
         simp only [pz]
         refine wpF_tk 9 (v := ?_) rfl hT0 (by rfl) ?_ ?_
         rotate_left
         ·(intro wq; go_simp; try with_reducible rfl)
         simp only [pz]
         refine wpF_lk 10 (v := .slice h.r.i m.rep.ids.length h.r.ic) rfl hT0 (by rfl) (fun w hS => by have hS : Ext no w12 w := hS; have q0 := hS.keeps y5 (fun h => h); go_simp) ?_
         simp only [pz]
         refine wpF_tk 11 (v := ?_) rfl hT0 (by rfl) ?_ ?_
         rotate_left
         ·(intro wq; go_simp; try with_reducible rfl)
         simp only [pz]
         refine wpF_tk 12 (v := .int .i64 (ki : Int)) rfl hT0 (by rfl) (by intro wq; rcases Hmki.out with ⟨hq, e⟩ | ⟨hq, e⟩ <;> (rw [e]; go_simp)) ?_
         simp only [pz]
         refine wpF_tk 13 (v := .slice h.r.i ki h.r.ic) rfl hT0 (by rfl) (by intro wq; have hq := hcki wq; go_simp) ?_
         simp only [pz]
         refine wpF_tk 14 (v := ?_) rfl hT0 (by rfl) ?_ ?_
         rotate_left
         ·(intro wq; go_simp; try with_reducible rfl)
         simp only [pz]
         refine wpF_lk 15 (v := .slice h.r.u m.rep.used.length h.r.uc) rfl hT0 (by rfl) (fun w hS => by have hS : Ext no w12 w := hS; have q0 := hS.keeps y6 (fun h => h); go_simp) ?_
         simp only [pz]
         refine wpF_tk 16 (v := ?_) rfl hT0 (by rfl) ?_ ?_
         rotate_left
         ·(intro wq; go_simp; try with_reducible rfl)
         simp only [pz]
         refine wpF_lk 17 (v := .slice h.r.u m.rep.used.length h.r.uc) rfl hT0 (by rfl) (fun w hS => by have hS : Ext no w12 w := hS; have q0 := hS.keeps y6 (fun h => h); go_simp) ?_
         simp only [pz]
         refine wpF_tk 18 (v := ?_) rfl hT0 (by rfl) ?_ ?_
         rotate_left
         ·(intro wq; go_simp; try with_reducible rfl)
         simp only [pz]
         refine wpF_tk 19 (v := .int .i64 (ku : Int)) rfl hT0 (by rfl) (by intro wq; rcases Hmku.out with ⟨hq, e⟩ | ⟨hq, e⟩ <;> (rw [e]; go_simp)) ?_
         simp only [pz]
         refine wpF_tk 20 (v := .slice h.r.u ku h.r.uc) rfl hT0 (by rfl) (by intro wq; have hq := hcku wq; go_simp) ?_
         simp only [pz]
         refine wpF_tk 21 (v := ?_) rfl hT0 (by rfl) ?_ ?_
         rotate_left
         ·(intro wq; go_simp; try with_reducible rfl)
         simp only [pz]
         refine wpF_exec 22 rfl (by kernel_rfl) (by rfl) ?_
         intro K hK
         go_simp
         have hT1 : ∀ k, looks [(1, fun z => True), (3, fun z => True), (8, fun z => True), (10, fun z => True), (15, fun z => True), (17, fun z => True)] k ((w12.setCell ⟨gl, 4, none⟩ (.slice h.r.s ks h.r.sc)).drew) := looks_all ⟨trivial, trivial, trivial, trivial, trivial, trivial, trivial⟩
         refine hK _ _ (looks [(1, fun z => True), (3, fun z => True), (8, fun z => True), (10, fun z => True), (15, fun z => True), (17, fun z => True)]) ⟨.inr (.inl (by kernel_rfl)), .inr (.inl (by kernel_rfl)), .inr (.inl (by kernel_rfl)), .inr (.inl (by kernel_rfl)), .inr (.inl (by kernel_rfl)), .inr (.inl (by kernel_rfl)), trivial⟩ hT1 ?_
         clear hK K
         try simp only [pz]
         refine wpF_tk 23 (v := ?_) rfl hT1 (by rfl) ?_ ?_
         rotate_left
         ·(intro wq; go_simp; try with_reducible rfl)
         simp only [pz]
         refine wpF_exec 24 rfl (by kernel_rfl) (by rfl) ?_
         intro K hK
         go_simp
         have hT2 : ∀ k, looks [(1, fun z => True), (3, fun z => True), (8, fun z => True), (10, fun z => True), (15, fun z => True), (17, fun z => True)] k (((w12.setCell ⟨gl, 4, none⟩ (.slice h.r.s ks h.r.sc)).setCell ⟨gl, 5, none⟩ (.slice h.r.i ki h.r.ic)).drew) := looks_all ⟨trivial, trivial, trivial, trivial, trivial, trivial, trivial⟩
         refine hK _ _ (looks [(1, fun z => True), (3, fun z => True), (8, fun z => True), (10, fun z => True), (15, fun z => True), (17, fun z => True)]) ⟨.inr (.inl (by kernel_rfl)), .inr (.inl (by kernel_rfl)), .inr (.inl (by kernel_rfl)), .inr (.inl (by kernel_rfl)), .inr (.inl (by kernel_rfl)), .inr (.inl (by kernel_rfl)), trivial⟩ hT2 ?_
         clear hK K
         try simp only [pz]
         refine wpF_tk 25 (v := ?_) rfl hT2 (by rfl) ?_ ?_
         rotate_left
         ·(intro wq; go_simp; try with_reducible rfl)
         simp only [pz]
         refine wpF_exec 26 rfl (by kernel_rfl) (by rfl) ?_
         intro K hK
         go_simp
         have hT3 : ∀ k, looks [(1, fun z => True), (3, fun z => True), (8, fun z => True), (10, fun z => True), (15, fun z => True), (17, fun z => True)] k ((((w12.setCell ⟨gl, 4, none⟩ (.slice h.r.s ks h.r.sc)).setCell ⟨gl, 5, none⟩ (.slice h.r.i ki h.r.ic)).setCell ⟨gl, 6, none⟩ (.slice h.r.u ku h.r.uc)).drew) := looks_all ⟨trivial, trivial, trivial, trivial, trivial, trivial, trivial⟩
         refine hK _ _ (looks [(1, fun z => True), (3, fun z => True), (8, fun z => True), (10, fun z => True), (15, fun z => True), (17, fun z => True)]) ⟨.inr (.inl (by kernel_rfl)), .inr (.inl (by kernel_rfl)), .inr (.inl (by kernel_rfl)), .inr (.inl (by kernel_rfl)), .inr (.inl (by kernel_rfl)), .inr (.inl (by kernel_rfl)), trivial⟩ hT3 ?_
         clear hK K
         try simp only [pz]
         refine wpF_done (by kernel_rfl) ?_ _
         go_wp2_with fail
         go_meet
         exact ⟨(((hL.set 4 (.slice h.r.s ks h.r.sc) (by show 4 < 7; omega)).set 5 (.slice h.r.i ki h.r.ic) (by show 5 < 7; omega)).set 6 (.slice h.r.u ku h.r.uc) (by show 6 < 7; omega)).drew, ((((Ext.refl _ _).comp (Ext.at _ gl 4 (.slice h.r.s ks h.r.sc))).comp (Ext.at _ gl 5 (.slice h.r.i ki h.r.ic))).comp (Ext.at _ gl 6 (.slice h.r.u ku h.r.uc))).comp (Ext.drew _ _)⟩
        case rest =>
         obtain ⟨hL13, hx1213⟩ := hcut
         have hx13 := hxl.fresh hx1213 hgl11
         have hC13 := hC11.ext (msg_ne _ _) hx13 (fun h => h)
         have hZ13 := hZ11.ext (msg_ne _ _) hx13 (fun h => h)
         have hS13 := hS11.ext hx13 (fun _ _ h => h)
         have hW13 := hW11.ext (by simp) hx13 (fun h => h)
         have hA13 := hA11.on hx13
         have hB13 := hB11.on hx13
         have hxx13 := hx11.comp hx13
         clear hL hxl hx1213 y4 y5 y6 fy4 fy5 fy6 hC11 hZ11 hS11 hW11 hA11 hB11 hx11 hx13 hmks hmki hmku hcks hcki hcku hlks hlki hlku
         obtain ⟨w13, h0⟩ : ∃ v, v = wc := ⟨_, rfl⟩
         subst h0
         have y0 : w13.cell? ⟨gl, 0, none⟩ = some (.int .i64 m.rep.dev) := hL13.cell 0 _ rfl
         have y1 : w13.cell? ⟨gl, 1, none⟩ = some (.int .i64 m.rep.ep) := hL13.cell 1 _ rfl
         have y2 : w13.cell? ⟨gl, 2, none⟩ = some (.int .i64 m.rep.til) := hL13.cell 2 _ rfl
         have y3 : w13.cell? ⟨gl, 3, none⟩ = some (.int .i64 m.rep.last) := hL13.cell 3 _ rfl
         have y4 : w13.cell? ⟨gl, 4, none⟩ = some (.slice h.r.s ks h.r.sc) := hL13.cell 4 _ rfl
         have y5 : w13.cell? ⟨gl, 5, none⟩ = some (.slice h.r.i ki h.r.ic) := hL13.cell 5 _ rfl
         have y6 : w13.cell? ⟨gl, 6, none⟩ = some (.slice h.r.u ku h.r.uc) := hL13.cell 6 _ rfl
         have z17 : w13.cell? ⟨g, 17, none⟩ = some (.int .i64 m.rep.dev) := hC13.cell 17 _ rfl
         have f17 := hC13.fr 17
         have z18 : w13.cell? ⟨g, 18, none⟩ = some (.int .i64 m.rep.ep) := hC13.cell 18 _ rfl
         have f18 := hC13.fr 18
         have z19 : w13.cell? ⟨g, 19, none⟩ = some (.int .i64 m.rep.til) := hC13.cell 19 _ rfl
         have f19 := hC13.fr 19
         have z20 : w13.cell? ⟨g, 20, none⟩ = some (.int .i64 m.rep.last) := hC13.cell 20 _ rfl
         have f20 := hC13.fr 20
         have z21 : w13.cell? ⟨g, 21, none⟩ = some (.slice h.r.s m.rep.slices.length h.r.sc) := hC13.cell 21 _ rfl
         have f21 := hC13.fr 21
         have z22 : w13.cell? ⟨g, 22, none⟩ = some (.slice h.r.i m.rep.ids.length h.r.ic) := hC13.cell 22 _ rfl
         have f22 := hC13.fr 22
         have z23 : w13.cell? ⟨g, 23, none⟩ = some (.slice h.r.u m.rep.used.length h.r.uc) := hC13.cell 23 _ rfl
         have f23 := hC13.fr 23
         go_upto_region 20 with fail
         have hq := (((((((hC13.set 17 (.int .i64 m.rep.dev) (by show 17 < 25; omega)).set 18 (.int .i64 m.rep.ep) (by show 18 < 25; omega)).set 19 (.int .i64 m.rep.til) (by show 19 < 25; omega)).set 20 (.int .i64 m.rep.last) (by show 20 < 25; omega)).set 21 (.slice h.r.s ks h.r.sc) (by show 21 < 25; omega)).set 22 (.slice h.r.i ki h.r.ic) (by show 22 < 25; omega)).set 23 (.slice h.r.u ku h.r.uc) (by show 23 < 25; omega))
         have e14 : (((((((({ m with kind := 1 + K, subs := [b1, b2, b3], err := E, rep := { m.rep with err := R }, ops := goodOps m.ops, cmd := { m.cmd with ops := goodOps m.cmd.ops, wants := m.cmd.wants.take 20 } } : MsgR).cells ({ h with b := some ⟨gb, 0, none⟩, bc := 3, o := ga1, oc := gc1, c := { h.c with o := ga2, oc := gc2 } } : MsgA)).set 17 (.int .i64 m.rep.dev)).set 18 (.int .i64 m.rep.ep)).set 19 (.int .i64 m.rep.til)).set 20 (.int .i64 m.rep.last)).set 21 (.slice h.r.s ks h.r.sc)).set 22 (.slice h.r.i ki h.r.ic)).set 23 (.slice h.r.u ku h.r.uc) = (goodM m).cells { h with b := some ⟨gb, 0, none⟩, bc := 3, o := ga1, oc := gc1, c := { h.c with o := ga2, oc := gc2 } } := by
          unfold goodM goodCmd goodReply
          rw [← HK.out, ← HE.out, ← HR.out, ← Hb.out, Hks.out, Hki.out, Hku.out]
          rfl
         have hC14 : Blk (((((((w13.setCell ⟨g, 17, none⟩ (.int .i64 m.rep.dev)).setCell ⟨g, 18, none⟩ (.int .i64 m.rep.ep)).setCell ⟨g, 19, none⟩ (.int .i64 m.rep.til)).setCell ⟨g, 20, none⟩ (.int .i64 m.rep.last)).setCell ⟨g, 21, none⟩ (.slice h.r.s ks h.r.sc)).setCell ⟨g, 22, none⟩ (.slice h.r.i ki h.r.ic)).setCell ⟨g, 23, none⟩ (.slice h.r.u ku h.r.uc)) g ((goodM m).cells { h with b := some ⟨gb, 0, none⟩, bc := 3, o := ga1, oc := gc1, c := { h.c with o := ga2, oc := gc2 } }) := e14 ▸ hq
         have hE14 : Ext (just g) w13 (((((((w13.setCell ⟨g, 17, none⟩ (.int .i64 m.rep.dev)).setCell ⟨g, 18, none⟩ (.int .i64 m.rep.ep)).setCell ⟨g, 19, none⟩ (.int .i64 m.rep.til)).setCell ⟨g, 20, none⟩ (.int .i64 m.rep.last)).setCell ⟨g, 21, none⟩ (.slice h.r.s ks h.r.sc)).setCell ⟨g, 22, none⟩ (.slice h.r.i ki h.r.ic)).setCell ⟨g, 23, none⟩ (.slice h.r.u ku h.r.uc)) := (((((((Ext.refl _ _).comp (Ext.at _ g 17 (.int .i64 m.rep.dev))).comp (Ext.at _ g 18 (.int .i64 m.rep.ep))).comp (Ext.at _ g 19 (.int .i64 m.rep.til))).comp (Ext.at _ g 20 (.int .i64 m.rep.last))).comp (Ext.at _ g 21 (.slice h.r.s ks h.r.sc))).comp (Ext.at _ g 22 (.slice h.r.i ki h.r.ic))).comp (Ext.at _ g 23 (.slice h.r.u ku h.r.uc))
         clear hq e14
         have hx14 := hxx13.fresh hE14 hgw
         have hZ14 := hZ13.ext (msg_ne _ _) hE14 (fun e => by have e : gz = g := e; omega)
         have hS14 := hS13.ext hE14 (fun ad ha e => by cases ha; have e : gb = g := e; omega)
         have hW14 := hW13.ext (by simp) hE14 (fun e => by have e : gb = g := e; omega)
         have hA14 := hA13.low hE14 (fun k hk => by have e : k = g := hk; omega)
         have hB14 := hB13.low hE14 (fun k hk => by have e : k = g := hk; omega)
         clear hC13 hxx13 hZ13 hS13 hW13 hA13 hB13 hL13 hE14 y0 y1 y2 y3 y4 y5 y6 z17 z18 z19 z20 z21 z22 z23 f17 f18 f19 f20 f21 f22 f23
         generalize (((((((w13.setCell ⟨g, 17, none⟩ (.int .i64 m.rep.dev)).setCell ⟨g, 18, none⟩ (.int .i64 m.rep.ep)).setCell ⟨g, 19, none⟩ (.int .i64 m.rep.til)).setCell ⟨g, 20, none⟩ (.int .i64 m.rep.last)).setCell ⟨g, 21, none⟩ (.slice h.r.s ks h.r.sc)).setCell ⟨g, 22, none⟩ (.slice h.r.i ki h.r.ic)).setCell ⟨g, 23, none⟩ (.slice h.r.u ku h.r.uc)) = w14 at *
         obtain ⟨h14, hh14⟩ : ∃ h14 : MsgA, h14 = { h with b := some ⟨gb, 0, none⟩, bc := 3, o := ga1, oc := gc1, c := { h.c with o := ga2, oc := gc2 } } := ⟨_, rfl⟩
         rw [← hh14] at hC14
         have Hh14 := Lib.hid hh14
         clear hh14
         have HGI := Lib.hid (fun (wq : World) (hi : m.In wq h) (sb : List Bool) (hsb : sb.length = 3) (hS : Rd wq (some ⟨gb, 0, none⟩) (bls sb)) (hA : OpAcc wq w6.heap.size ga1 gc1 G1) (hB : OpAcc wq w9.heap.size ga2 gc2 G2) => good_in (h := h) (m := m) hi hS hsb hA Hend1.out hB Hend2.out)
         refine wp_region_lit ?_
         refine wp_load_msg (m := goodM m) (h := h14) rfl rfl (by rfl) hC14 ?_
         simp only [pz]
         refine wp_store_msg (m := goodM m) (h := h14) rfl rfl (by rfl) (by rfl) hZ14 rfl (fun hF hxF => ?_)
         simp only [pz]
         have hgzw : w.heap.size ≤ gz := by omega
         have hx15 := hx14.fresh hxF hgzw
         have hS15 := hS14.ext hxF (fun ad ha e => by cases ha; have e : gb = gz := e; omega)
         have hW15 := hW14.ext (by simp) hxF (fun e => by have e : gb = gz := e; omega)
         have hA15 := hA14.low hxF (fun k hk => by have e : k = gz := hk; omega)
         have hB15 := hB14.low hxF (fun k hk => by have e : k = gz := hk; omega)
         generalize w14.setCells gz 0 ((goodM m).cells h14) = w15 at *
         go_wp2_with fail
         have hgb15 := hW15.lt (by simp)
         have hgb6 : gb < w6.heap.size := by omega
         have hgb9 : gb < w9.heap.size := by omega
         refine bodyPost_ret (v := (goodM m).val h14) ?_ rfl ⟨h14, rfl, ?_, hx15, ⟨gb, by rw [Hh14.out], hgb2, ?_, hgb15, fun S wz sb hz hk hsb hrb hi => ?_⟩, fun S wz hz hk hi => ?_⟩
         ·exact msg_result rfl _ _ (by rfl) hF
         ·rw [Hh14.out]
          have q := hS15
          rw [Hb.out] at q
          exact HGI.out _ (hin.no hx15) _ rfl q hA15 hB15
         ·have q := hW15
          have e : ([.bool b1, .bool b2, .bool b3] : List Value) = bls [b1, b2, b3] := rfl
          rw [e, Hb.out] at q
          exact q
         ·rw [Hh14.out]
          exact HGI.out wz hi sb hsb hrb (hA15.keep hz (fun k hs => by have := hk k hs; omega)) (hB15.keep hz (fun k hs => by have := hk k hs; omega))
         ·rw [Hh14.out]
          have q := hS15.ext hz (fun ad ha hs => by cases ha; have e : gb < w.heap.size ∨ w15.heap.size ≤ gb := hk _ hs; omega)
          rw [Hb.out] at q
          exact HGI.out wz hi _ rfl q (hA15.keep hz (fun k hs => by have := hk k hs; omega)) (hB15.keep hz (fun k hs => by have := hk k hs; omega))
end Go.Proofs.YtddobhihjljcgaaGreat
