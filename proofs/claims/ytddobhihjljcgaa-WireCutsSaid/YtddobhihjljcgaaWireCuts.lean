/- The walk of WireCuts. -/
import Derived.Test.YtddobhihjljcgaaWiI
import Derived.Test.YtddobhihjljcgaaWiO
import Derived.Test.YtddobhihjljcgaaFrP
namespace Go.Proofs.Ytddobhihjljcgaa
open Go.RowKit Go.Esc
set_option linter.unusedVariables false
set_option linter.unusedSimpArgs false
/-- Fewer of a message's rows lie where they lay. -/
def front (M : MsgR) : MsgR := { M with ops := M.ops.take 1, cmd := { M.cmd with ops := M.cmd.ops.take 1, wants := M.cmd.wants.take 1 } }
theorem OpsIn.take {w : World} {a : Option Addr} {l : List OpR} (h : OpsIn w a l) (n : Nat) : OpsIn w a (l.take n) := by
  obtain ⟨L, h1, h2, h3⟩ := h
  refine ⟨L.take n, by rw [← h1, List.map_take], ?_, fun x hx => h3 x (List.mem_of_mem_take hx)⟩
  have q := h2.take (n * 11)
  rw [rows_take kOp] at q
  exact q
theorem front_in {M : MsgR} {w : World} {h : MsgA} (hi : M.In w h) : (front M).In w h where
  b := hi.b
  c := {
    x := by have q := hi.c.x.take (1 * 4); rw [rows_take kWant] at q; exact q
    o := OpsIn.take hi.c.o 1
    wl := by have := hi.c.wl; show (M.cmd.wants.take 1).length ≤ h.c.wc; rw [List.length_take]; omega
    ol := by have := hi.c.ol; show (M.cmd.ops.take 1).length ≤ h.c.oc; rw [List.length_take]; omega
    wm := hi.c.wm
    om := hi.c.om }
  r := hi.r
  o := OpsIn.take hi.o 1
  bl := hi.bl
  bm := hi.bm
  ol := by have := hi.ol; show (M.ops.take 1).length ≤ h.oc; rw [List.length_take]; omega
  om := hi.om
theorem front_nice {M : MsgR} (h : M.nice) : (front M).nice where
  ok := { kind := h.ok.kind, dev := h.ok.dev, req := h.ok.req, ver := h.ok.ver, pos := h.ok.pos, nxt := h.ok.nxt, err := h.ok.err, rep := h.ok.rep, ops := fun x hx => h.ok.ops x (List.mem_of_mem_take hx), cmd := { kind := h.ok.cmd.kind, dev := h.ok.cmd.dev, ep := h.ok.cmd.ep, req := h.ok.cmd.req, n := h.ok.cmd.n, wants := fun x hx => h.ok.cmd.wants x (List.mem_of_mem_take hx), ops := fun x hx => h.ok.cmd.ops x (List.mem_of_mem_take hx) } }
  kd := h.kd
  er := h.er
  sb := h.sb
  cmd := {
    ok := { kind := h.ok.cmd.kind, dev := h.ok.cmd.dev, ep := h.ok.cmd.ep, req := h.ok.cmd.req, n := h.ok.cmd.n, wants := fun x hx => h.ok.cmd.wants x (List.mem_of_mem_take hx), ops := fun x hx => h.ok.cmd.ops x (List.mem_of_mem_take hx) }
    wl := by have := h.cmd.wl; show (M.cmd.wants.take 1).length ≤ 20; rw [List.length_take]; omega
    wk := fun x hx => h.cmd.wk x (List.mem_of_mem_take hx)
    ol := by have := h.cmd.ol; show (M.cmd.ops.take 1).length ≤ 20; rw [List.length_take]; omega
    of := fun x hx => h.cmd.of x (List.mem_of_mem_take hx) }
  rep := h.rep
  ol := by have := h.ol; show (M.ops.take 1).length ≤ 20; rw [List.length_take]; omega
  of := fun x hx => h.of x (List.mem_of_mem_take hx)
theorem bs_set (l : List UInt8) (i : Nat) (b : UInt8) : (bs l).set i (B8 b) = bs (l.set i b) := by unfold bs; rw [List.map_set]
theorem emptied2 (w : World) (te : TypeId) : Own (w.alloc (.cells #[] te)) w.heap.size (some ⟨w.heap.size, 0, none⟩) 1 0 0 [] :=
  Own.fresh w _ _ _ _ _ _ _ _ (Nat.le_refl _) (by simp) (Nat.le_refl _) (Nat.zero_le _) (by simp) (by simp) (.inl (Nat.le_refl _))
theorem copied2 {w w' : World} {te : TypeId} {a' : Option Addr} {c' m : Nat} {l : List UInt8} (h : App (w.alloc (.cells #[] te)) w' w.heap.size 1 (some ⟨w.heap.size, 0, none⟩) 0 0 [] a' c' m (bs l)) :
    Own w' w.heap.size a' 1 m c' (bs l) ∧ Ext no w w' := by
  refine ⟨by have := h.own; rwa [Nat.zero_add, List.nil_append] at this, ?_⟩
  exact Ext.ofBelow (((Below.refl _ _).alloc (Nat.le_refl _) _).trans ((emptied2 w te).below h.ext (by simp))) (Nat.le_refl _)
theorem appended2 {w w1 w2 : World} {a a' : Option Addr} {n c c' m : Nat} {M l : List UInt8} (ho : Own w1 w.heap.size a 1 n c (bs M)) (hx : Ext no w w1) (h : App w1 w2 w.heap.size 1 a n c (bs M) a' c' m (bs l)) :
    Own w2 w.heap.size a' 1 (n + m) c' (bs (M ++ l)) ∧ Ext no w w2 :=
  ⟨by rw [bs_append]; exact h.own, Ext.ofBelow (hx.belowAll.trans (ho.below h.ext hx.size)) (Nat.le_refl _)⟩
set_option maxRecDepth 100000 in
set_option maxHeartbeats 4000000 in
theorem wcuts_walk (w : World) (m : MsgR) (h : MsgA) (pt bt : Int) (hin : m.In w h) (hok : m.ok) (hpt : I64ok pt) (hbt : I64ok bt) :
    Calls Try.prog 3 #[m.val h, .int .i64 pt, .int .i64 bt] w fun e w' => e = .returned (.bool true) ∧ Ext no w w' := by
  go_enter Try.func3, Try.ntmps3
  go_upto_region 0 with fail
  refine wp_region_lit ?_
  refine wp_box_msg rfl rfl (by rfl) (fun hC => ?_)
  simp only [Act.put, List.setIfInBounds_toArray, List.set_cons_zero, List.set_cons_succ]
  have hxa := Ext.alloc no w (.cells (m.cells h).toArray 36)
  obtain ⟨g, hg⟩ : ∃ g, g = w.heap.size := ⟨_, rfl⟩
  rw [← hg] at hC ⊢
  have hgw : w.heap.size ≤ g := by omega
  clear hg
  generalize w.alloc (.cells (m.cells h).toArray 36) = w1 at *
  go_wp2_with fail
  refine (wiknown_any w1).mono ?_
  rintro e w2 ⟨rfl, hx2⟩
  have hC2 := hC.ext (msg_ne _ _) hx2 (fun h => h)
  have hxx2 := hxa.comp hx2
  clear hC hxa hx2
  go_upto_region 3 with fail
  refine wp_region_lit ?_
  refine wp_load_msg (m := m) (h := h) rfl rfl (by rfl) hC2 ?_
  simp only [Act.put, List.setIfInBounds_toArray, List.set_cons_zero, List.set_cons_succ]
  go_wp2_with fail
  refine (wifew_any w2 m h (hin.no hxx2) hok).mono ?_
  rintro e w3 ⟨bf, rfl, hbf, hx3⟩
  have hC3 := hC2.ext (msg_ne _ _) hx3 (fun h => h)
  have hxx3 := hxx2.comp hx3
  clear hC2 hxx2 hx3
  cases bf with
  | false =>
    go_wp2_with fail
    go_ret
    exact ⟨rfl, hxx3⟩
  | true =>
    have HF := Lib.hid (hbf rfl).1
    clear hbf
    go_upto_region 5 with fail
    refine wp_region_lit ?_
    refine wp_load_msg (m := m) (h := h) rfl rfl (by rfl) hC3 ?_
    simp only [Act.put, List.setIfInBounds_toArray, List.set_cons_zero, List.set_cons_succ]
    go_wp2_with fail
    refine (wigood_any w3 m h (hin.no hxx3) hok).mono ?_
    rintro e w4 ⟨hG, rfl, hGin, hx4, hGb, hGk⟩
    have hC4 := hC3.ext (msg_ne _ _) hx4 (fun h => h)
    have hxx4 := hxx3.comp hx4
    have hglt := hC4.lt (msg_ne _ _)
    have hg3 := hC3.lt (msg_ne _ _)
    have hni := goodM_nice m hok HF.out
    rename_i hK
    dsimp only
    refine hK _ _ ?_
    clear hK hC3 hxx3 hx4 hGin hGb
    obtain ⟨M, hM⟩ : ∃ M, M = goodM m := ⟨_, rfl⟩
    rw [← hM] at hGk hni ⊢
    clear hM
    refine wp_store_msg (m := M) (h := hG) rfl rfl (by rfl) (by rfl) hC4 rfl (fun hC5 hx5 => ?_)
    simp only [Act.put, List.setIfInBounds_toArray, List.set_cons_zero, List.set_cons_succ]
    have hxx5 := hxx4.fresh hx5 hgw
    have hM5 := hGk (just g) _ hx5 (fun k hk => by have e : k = g := hk; omega) (hin.no hxx5)
    have Hgk := Lib.hid (fun (wz : World) (hz : Ext (just g) w4 wz) (hw : Ext no w wz) => hGk (just g) wz hz (fun k hk => by have e : k = g := hk; omega) (hin.no hw))
    clear hGk hC4 hxx4
    generalize w4.setCells g 0 (M.cells hG) = w5 at *
    have z24 : w5.cell? ⟨g, 24, none⟩ = some (.slice hG.o M.ops.length hG.oc) := hC5.cell 24 _ rfl
    have z14 : w5.cell? ⟨g, 14, none⟩ = some (.slice hG.c.o M.cmd.ops.length hG.c.oc) := hC5.cell 14 _ rfl
    have z13 : w5.cell? ⟨g, 13, none⟩ = some (.slice hG.c.w M.cmd.wants.length hG.c.wc) := hC5.cell 13 _ rfl
    have f24 := hC5.fr 24
    have f14 := hC5.fr 14
    have f13 := hC5.fr 13
    obtain ⟨ko, hko⟩ : ∃ k, k = (M.ops.take 1).length := ⟨_, rfl⟩
    have hlko := hM5.ol
    have hcko : ∀ w, (Instr.sliceAt 25 (.slice hG.o M.ops.length hG.oc) none (some (.int .i64 (ko : Int))) none).run Try.prog w = .ok (.slice hG.o ko hG.oc) w := fun w => run_cut_h TOps w _ _ _ .i64 ko (by rw [hko, List.length_take]; omega)
    have Hmko := Lib.hid (show ((1 : Int) < (M.ops.length : Int) ∧ (ko : Int) = 1) ∨ (¬ (1 : Int) < (M.ops.length : Int) ∧ (ko : Int) = M.ops.length) by rw [hko, List.length_take]; omega)
    have Hko := Lib.hid hko
    clear hko
    obtain ⟨kc, hkc⟩ : ∃ k, k = (M.cmd.ops.take 1).length := ⟨_, rfl⟩
    have hlkc := hM5.c.ol
    have hckc : ∀ w, (Instr.sliceAt 25 (.slice hG.c.o M.cmd.ops.length hG.c.oc) none (some (.int .i64 (kc : Int))) none).run Try.prog w = .ok (.slice hG.c.o kc hG.c.oc) w := fun w => run_cut_h TOps w _ _ _ .i64 kc (by rw [hkc, List.length_take]; omega)
    have Hmkc := Lib.hid (show ((1 : Int) < (M.cmd.ops.length : Int) ∧ (kc : Int) = 1) ∨ (¬ (1 : Int) < (M.cmd.ops.length : Int) ∧ (kc : Int) = M.cmd.ops.length) by rw [hkc, List.length_take]; omega)
    have Hkc := Lib.hid hkc
    clear hkc
    obtain ⟨kw, hkw⟩ : ∃ k, k = (M.cmd.wants.take 1).length := ⟨_, rfl⟩
    have hlkw := hM5.c.wl
    have hckw : ∀ w, (Instr.sliceAt 24 (.slice hG.c.w M.cmd.wants.length hG.c.wc) none (some (.int .i64 (kw : Int))) none).run Try.prog w = .ok (.slice hG.c.w kw hG.c.wc) w := fun w => run_cut_h TyWants w _ _ _ .i64 kw (by rw [hkw, List.length_take]; omega)
    have Hmkw := Lib.hid (show ((1 : Int) < (M.cmd.wants.length : Int) ∧ (kw : Int) = 1) ∨ (¬ (1 : Int) < (M.cmd.wants.length : Int) ∧ (kw : Int) = M.cmd.wants.length) by rw [hkw, List.length_take]; omega)
    have Hkw := Lib.hid hkw
    clear hkw
    go_upto_region 6 with fail
    go_cut [24] (fun _ wx => Blk wx g ((front M).cells hG) ∧ Ext (just g) w5 wx)
    case first =>
      refine wp_region_F [1, 3, 9, 12, 18, 21] (looks [(1, fun z => Ext no w5 z), (3, fun z => Ext no w5 z), (9, fun z => Ext no w5 z), (12, fun z => Ext no w5 z), (18, fun z => Ext no w5 z), (21, fun z => Ext no w5 z)]) (by kernel_rfl) ?_
      have hT0 : ∀ k, looks [(1, fun z => Ext no w5 z), (3, fun z => Ext no w5 z), (9, fun z => Ext no w5 z), (12, fun z => Ext no w5 z), (18, fun z => Ext no w5 z), (21, fun z => Ext no w5 z)] k (w5.drew) := looks_all ⟨Ext.drew no w5, Ext.drew no w5, Ext.drew no w5, Ext.drew no w5, Ext.drew no w5, Ext.drew no w5, trivial⟩
      refine wpF_take 0 (v := ?_) rfl (by kernel_rfl) (by kernel_rfl) (by kernel_rfl) (fun _ _ _ h => h) hT0 (by rfl) ?_ ?_
      rotate_left
      · (intro wq; go_simp; try with_reducible rfl)
      simp only [Act.put, List.setIfInBounds_toArray, List.set_cons_zero, List.set_cons_succ]
      refine wpF_look 1 (v := .slice hG.o M.ops.length hG.oc) rfl rfl (by kernel_rfl) (by kernel_rfl) (by kernel_rfl) (by kernel_rfl) (fun _ _ _ h => h) hT0 (by rfl) (fun w hS => by have hS : Ext no w5 w := hS; have q0 := hS.keeps z24 (fun h => h); go_simp) ?_
      simp only [Act.put, List.setIfInBounds_toArray, List.set_cons_zero, List.set_cons_succ]
      refine wpF_take 2 (v := ?_) rfl (by kernel_rfl) (by kernel_rfl) (by kernel_rfl) (fun _ _ _ h => h) hT0 (by rfl) ?_ ?_
      rotate_left
      · (intro wq; go_simp; try with_reducible rfl)
      simp only [Act.put, List.setIfInBounds_toArray, List.set_cons_zero, List.set_cons_succ]
      refine wpF_look 3 (v := .slice hG.o M.ops.length hG.oc) rfl rfl (by kernel_rfl) (by kernel_rfl) (by kernel_rfl) (by kernel_rfl) (fun _ _ _ h => h) hT0 (by rfl) (fun w hS => by have hS : Ext no w5 w := hS; have q0 := hS.keeps z24 (fun h => h); go_simp) ?_
      simp only [Act.put, List.setIfInBounds_toArray, List.set_cons_zero, List.set_cons_succ]
      refine wpF_take 4 (v := ?_) rfl (by kernel_rfl) (by kernel_rfl) (by kernel_rfl) (fun _ _ _ h => h) hT0 (by rfl) ?_ ?_
      rotate_left
      · (intro wq; go_simp; try with_reducible rfl)
      simp only [Act.put, List.setIfInBounds_toArray, List.set_cons_zero, List.set_cons_succ]
      refine wpF_take 5 (v := .int .i64 (ko : Int)) rfl (by kernel_rfl) (by kernel_rfl) (by kernel_rfl) (fun _ _ _ h => h) hT0 (by rfl) (by intro wq; rcases Hmko.out with ⟨hq, e⟩ | ⟨hq, e⟩ <;> (rw [e]; go_simp)) ?_
      simp only [Act.put, List.setIfInBounds_toArray, List.set_cons_zero, List.set_cons_succ]
      refine wpF_take 6 (v := .slice hG.o ko hG.oc) rfl (by kernel_rfl) (by kernel_rfl) (by kernel_rfl) (fun _ _ _ h => h) hT0 (by rfl) (by intro wq; have hq := hcko wq; go_simp) ?_
      simp only [Act.put, List.setIfInBounds_toArray, List.set_cons_zero, List.set_cons_succ]
      refine wpF_take 7 (v := ?_) rfl (by kernel_rfl) (by kernel_rfl) (by kernel_rfl) (fun _ _ _ h => h) hT0 (by rfl) ?_ ?_
      rotate_left
      · (intro wq; go_simp; try with_reducible rfl)
      simp only [Act.put, List.setIfInBounds_toArray, List.set_cons_zero, List.set_cons_succ]
      refine wpF_take 8 (v := ?_) rfl (by kernel_rfl) (by kernel_rfl) (by kernel_rfl) (fun _ _ _ h => h) hT0 (by rfl) ?_ ?_
      rotate_left
      · (intro wq; go_simp; try with_reducible rfl)
      simp only [Act.put, List.setIfInBounds_toArray, List.set_cons_zero, List.set_cons_succ]
      refine wpF_look 9 (v := .slice hG.c.o M.cmd.ops.length hG.c.oc) rfl rfl (by kernel_rfl) (by kernel_rfl) (by kernel_rfl) (by kernel_rfl) (fun _ _ _ h => h) hT0 (by rfl) (fun w hS => by have hS : Ext no w5 w := hS; have q0 := hS.keeps z14 (fun h => h); go_simp) ?_
      simp only [Act.put, List.setIfInBounds_toArray, List.set_cons_zero, List.set_cons_succ]
      refine wpF_take 10 (v := ?_) rfl (by kernel_rfl) (by kernel_rfl) (by kernel_rfl) (fun _ _ _ h => h) hT0 (by rfl) ?_ ?_
      rotate_left
      · (intro wq; go_simp; try with_reducible rfl)
      simp only [Act.put, List.setIfInBounds_toArray, List.set_cons_zero, List.set_cons_succ]
      refine wpF_take 11 (v := ?_) rfl (by kernel_rfl) (by kernel_rfl) (by kernel_rfl) (fun _ _ _ h => h) hT0 (by rfl) ?_ ?_
      rotate_left
      · (intro wq; go_simp; try with_reducible rfl)
      simp only [Act.put, List.setIfInBounds_toArray, List.set_cons_zero, List.set_cons_succ]
      refine wpF_look 12 (v := .slice hG.c.o M.cmd.ops.length hG.c.oc) rfl rfl (by kernel_rfl) (by kernel_rfl) (by kernel_rfl) (by kernel_rfl) (fun _ _ _ h => h) hT0 (by rfl) (fun w hS => by have hS : Ext no w5 w := hS; have q0 := hS.keeps z14 (fun h => h); go_simp) ?_
      simp only [Act.put, List.setIfInBounds_toArray, List.set_cons_zero, List.set_cons_succ]
      refine wpF_take 13 (v := ?_) rfl (by kernel_rfl) (by kernel_rfl) (by kernel_rfl) (fun _ _ _ h => h) hT0 (by rfl) ?_ ?_
      rotate_left
      · (intro wq; go_simp; try with_reducible rfl)
      simp only [Act.put, List.setIfInBounds_toArray, List.set_cons_zero, List.set_cons_succ]
      refine wpF_take 14 (v := .int .i64 (kc : Int)) rfl (by kernel_rfl) (by kernel_rfl) (by kernel_rfl) (fun _ _ _ h => h) hT0 (by rfl) (by intro wq; rcases Hmkc.out with ⟨hq, e⟩ | ⟨hq, e⟩ <;> (rw [e]; go_simp)) ?_
      simp only [Act.put, List.setIfInBounds_toArray, List.set_cons_zero, List.set_cons_succ]
      refine wpF_take 15 (v := .slice hG.c.o kc hG.c.oc) rfl (by kernel_rfl) (by kernel_rfl) (by kernel_rfl) (fun _ _ _ h => h) hT0 (by rfl) (by intro wq; have hq := hckc wq; go_simp) ?_
      simp only [Act.put, List.setIfInBounds_toArray, List.set_cons_zero, List.set_cons_succ]
      refine wpF_take 16 (v := ?_) rfl (by kernel_rfl) (by kernel_rfl) (by kernel_rfl) (fun _ _ _ h => h) hT0 (by rfl) ?_ ?_
      rotate_left
      · (intro wq; go_simp; try with_reducible rfl)
      simp only [Act.put, List.setIfInBounds_toArray, List.set_cons_zero, List.set_cons_succ]
      refine wpF_take 17 (v := ?_) rfl (by kernel_rfl) (by kernel_rfl) (by kernel_rfl) (fun _ _ _ h => h) hT0 (by rfl) ?_ ?_
      rotate_left
      · (intro wq; go_simp; try with_reducible rfl)
      simp only [Act.put, List.setIfInBounds_toArray, List.set_cons_zero, List.set_cons_succ]
      refine wpF_look 18 (v := .slice hG.c.w M.cmd.wants.length hG.c.wc) rfl rfl (by kernel_rfl) (by kernel_rfl) (by kernel_rfl) (by kernel_rfl) (fun _ _ _ h => h) hT0 (by rfl) (fun w hS => by have hS : Ext no w5 w := hS; have q0 := hS.keeps z13 (fun h => h); go_simp) ?_
      simp only [Act.put, List.setIfInBounds_toArray, List.set_cons_zero, List.set_cons_succ]
      refine wpF_take 19 (v := ?_) rfl (by kernel_rfl) (by kernel_rfl) (by kernel_rfl) (fun _ _ _ h => h) hT0 (by rfl) ?_ ?_
      rotate_left
      · (intro wq; go_simp; try with_reducible rfl)
      simp only [Act.put, List.setIfInBounds_toArray, List.set_cons_zero, List.set_cons_succ]
      refine wpF_take 20 (v := ?_) rfl (by kernel_rfl) (by kernel_rfl) (by kernel_rfl) (fun _ _ _ h => h) hT0 (by rfl) ?_ ?_
      rotate_left
      · (intro wq; go_simp; try with_reducible rfl)
      simp only [Act.put, List.setIfInBounds_toArray, List.set_cons_zero, List.set_cons_succ]
      refine wpF_look 21 (v := .slice hG.c.w M.cmd.wants.length hG.c.wc) rfl rfl (by kernel_rfl) (by kernel_rfl) (by kernel_rfl) (by kernel_rfl) (fun _ _ _ h => h) hT0 (by rfl) (fun w hS => by have hS : Ext no w5 w := hS; have q0 := hS.keeps z13 (fun h => h); go_simp) ?_
      simp only [Act.put, List.setIfInBounds_toArray, List.set_cons_zero, List.set_cons_succ]
      refine wpF_take 22 (v := ?_) rfl (by kernel_rfl) (by kernel_rfl) (by kernel_rfl) (fun _ _ _ h => h) hT0 (by rfl) ?_ ?_
      rotate_left
      · (intro wq; go_simp; try with_reducible rfl)
      simp only [Act.put, List.setIfInBounds_toArray, List.set_cons_zero, List.set_cons_succ]
      refine wpF_take 23 (v := .int .i64 (kw : Int)) rfl (by kernel_rfl) (by kernel_rfl) (by kernel_rfl) (fun _ _ _ h => h) hT0 (by rfl) (by intro wq; rcases Hmkw.out with ⟨hq, e⟩ | ⟨hq, e⟩ <;> (rw [e]; go_simp)) ?_
      simp only [Act.put, List.setIfInBounds_toArray, List.set_cons_zero, List.set_cons_succ]
      refine wpF_take 24 (v := .slice hG.c.w kw hG.c.wc) rfl (by kernel_rfl) (by kernel_rfl) (by kernel_rfl) (fun _ _ _ h => h) hT0 (by rfl) (by intro wq; have hq := hckw wq; go_simp) ?_
      simp only [Act.put, List.setIfInBounds_toArray, List.set_cons_zero, List.set_cons_succ]
      refine wpF_take 25 (v := ?_) rfl (by kernel_rfl) (by kernel_rfl) (by kernel_rfl) (fun _ _ _ h => h) hT0 (by rfl) ?_ ?_
      rotate_left
      · (intro wq; go_simp; try with_reducible rfl)
      simp only [Act.put, List.setIfInBounds_toArray, List.set_cons_zero, List.set_cons_succ]
      refine wpF_exec 26 rfl (by kernel_rfl) (by rfl) ?_
      intro K hK
      go_simp
      have hT1 : ∀ k, looks [(1, fun z => True), (3, fun z => True), (9, fun z => True), (12, fun z => True), (18, fun z => True), (21, fun z => True)] k ((w5.setCell ⟨g, 24, none⟩ (.slice hG.o ko hG.oc)).drew) := looks_all ⟨trivial, trivial, trivial, trivial, trivial, trivial, trivial⟩
      refine hK _ _ (looks [(1, fun z => True), (3, fun z => True), (9, fun z => True), (12, fun z => True), (18, fun z => True), (21, fun z => True)]) ⟨.inr (.inl (by kernel_rfl)), .inr (.inl (by kernel_rfl)), .inr (.inl (by kernel_rfl)), .inr (.inl (by kernel_rfl)), .inr (.inl (by kernel_rfl)), .inr (.inl (by kernel_rfl)), trivial⟩ hT1 ?_
      clear hK K
      try simp only [Act.put, List.setIfInBounds_toArray, List.set_cons_zero, List.set_cons_succ]
      refine wpF_take 27 (v := ?_) rfl (by kernel_rfl) (by kernel_rfl) (by kernel_rfl) (fun _ _ _ h => h) hT1 (by rfl) ?_ ?_
      rotate_left
      · (intro wq; go_simp; try with_reducible rfl)
      simp only [Act.put, List.setIfInBounds_toArray, List.set_cons_zero, List.set_cons_succ]
      refine wpF_take 28 (v := ?_) rfl (by kernel_rfl) (by kernel_rfl) (by kernel_rfl) (fun _ _ _ h => h) hT1 (by rfl) ?_ ?_
      rotate_left
      · (intro wq; go_simp; try with_reducible rfl)
      simp only [Act.put, List.setIfInBounds_toArray, List.set_cons_zero, List.set_cons_succ]
      refine wpF_exec 29 rfl (by kernel_rfl) (by rfl) ?_
      intro K hK
      go_simp
      have hT2 : ∀ k, looks [(1, fun z => True), (3, fun z => True), (9, fun z => True), (12, fun z => True), (18, fun z => True), (21, fun z => True)] k (((w5.setCell ⟨g, 24, none⟩ (.slice hG.o ko hG.oc)).setCell ⟨g, 14, none⟩ (.slice hG.c.o kc hG.c.oc)).drew) := looks_all ⟨trivial, trivial, trivial, trivial, trivial, trivial, trivial⟩
      refine hK _ _ (looks [(1, fun z => True), (3, fun z => True), (9, fun z => True), (12, fun z => True), (18, fun z => True), (21, fun z => True)]) ⟨.inr (.inl (by kernel_rfl)), .inr (.inl (by kernel_rfl)), .inr (.inl (by kernel_rfl)), .inr (.inl (by kernel_rfl)), .inr (.inl (by kernel_rfl)), .inr (.inl (by kernel_rfl)), trivial⟩ hT2 ?_
      clear hK K
      try simp only [Act.put, List.setIfInBounds_toArray, List.set_cons_zero, List.set_cons_succ]
      refine wpF_take 30 (v := ?_) rfl (by kernel_rfl) (by kernel_rfl) (by kernel_rfl) (fun _ _ _ h => h) hT2 (by rfl) ?_ ?_
      rotate_left
      · (intro wq; go_simp; try with_reducible rfl)
      simp only [Act.put, List.setIfInBounds_toArray, List.set_cons_zero, List.set_cons_succ]
      refine wpF_take 31 (v := ?_) rfl (by kernel_rfl) (by kernel_rfl) (by kernel_rfl) (fun _ _ _ h => h) hT2 (by rfl) ?_ ?_
      rotate_left
      · (intro wq; go_simp; try with_reducible rfl)
      simp only [Act.put, List.setIfInBounds_toArray, List.set_cons_zero, List.set_cons_succ]
      refine wpF_exec 32 rfl (by kernel_rfl) (by rfl) ?_
      intro K hK
      go_simp
      have hT3 : ∀ k, looks [(1, fun z => True), (3, fun z => True), (9, fun z => True), (12, fun z => True), (18, fun z => True), (21, fun z => True)] k ((((w5.setCell ⟨g, 24, none⟩ (.slice hG.o ko hG.oc)).setCell ⟨g, 14, none⟩ (.slice hG.c.o kc hG.c.oc)).setCell ⟨g, 13, none⟩ (.slice hG.c.w kw hG.c.wc)).drew) := looks_all ⟨trivial, trivial, trivial, trivial, trivial, trivial, trivial⟩
      refine hK _ _ (looks [(1, fun z => True), (3, fun z => True), (9, fun z => True), (12, fun z => True), (18, fun z => True), (21, fun z => True)]) ⟨.inr (.inl (by kernel_rfl)), .inr (.inl (by kernel_rfl)), .inr (.inl (by kernel_rfl)), .inr (.inl (by kernel_rfl)), .inr (.inl (by kernel_rfl)), .inr (.inl (by kernel_rfl)), trivial⟩ hT3 ?_
      clear hK K
      try simp only [Act.put, List.setIfInBounds_toArray, List.set_cons_zero, List.set_cons_succ]
      refine wpF_done (by kernel_rfl) ?_ _
      go_wp2_with fail
      go_meet
      have e6 : (((M.cells hG).set 24 (.slice hG.o ko hG.oc)).set 14 (.slice hG.c.o kc hG.c.oc)).set 13 (.slice hG.c.w kw hG.c.wc) = (front M).cells hG := by rw [Hko.out, Hkc.out, Hkw.out]; rfl
      have q6 := (((hC5.set 24 (.slice hG.o ko hG.oc) (by show 24 < 25; omega)).set 14 (.slice hG.c.o kc hG.c.oc) (by show 14 < 25; omega)).set 13 (.slice hG.c.w kw hG.c.wc) (by show 13 < 25; omega))
      rw [e6] at q6
      exact ⟨q6.drew, ((((Ext.refl _ _).comp (Ext.at _ g 24 (.slice hG.o ko hG.oc))).comp (Ext.at _ g 14 (.slice hG.c.o kc hG.c.oc))).comp (Ext.at _ g 13 (.slice hG.c.w kw hG.c.wc))).comp (Ext.drew _ _)⟩
    case rest =>
      obtain ⟨hC6, hx56⟩ := hcut
      obtain ⟨w6, h0⟩ : ∃ v, v = wc := ⟨_, rfl⟩
      subst h0
      have hxx6 := hxx5.fresh hx56 hgw
      have hM6 := front_in (Hgk.out w6 (hx5.comp hx56) hxx6)
      have hn6 := front_nice hni
      clear hC5 hx5 hx56 hxx5 hM5 z24 z14 z13 f24 f14 f13 hcko hckc hckw hlko hlkc hlkw
      go_upto_region 7 with fail
      refine wp_region_lit ?_
      refine wp_load_msg (m := front M) (h := hG) rfl rfl (by rfl) hC6 ?_
      simp only [Act.put, List.setIfInBounds_toArray, List.set_cons_zero, List.set_cons_succ]
      go_wp2_with fail
      refine (wbytes_any w6 (front M) hG hM6 hn6.ok hn6.few).mono ?_
      rintro e w7 ⟨a, c, rfl, ho, hx7⟩
      rw [hn6.bytes]
      have hB : bytesOf (front M) = frame (bodyEnc (front M)) := by unfold bytesOf; rw [if_pos hn6.bytes]
      have hl := bodyEnc_le hn6.ok hn6.few
      have hfl := frame_length (bodyEnc (front M))
      obtain ⟨b, hb⟩ : ∃ b, b = bodyEnc (front M) := ⟨_, rfl⟩
      rw [← hb] at hB hl hfl
      obtain ⟨B, hBe⟩ : ∃ B, B = frame b := ⟨_, rfl⟩
      rw [hB, ← hBe] at ho ⊢
      rw [← hBe] at hfl
      have hxx7 := hxx6.comp hx7
      have HB := Lib.hid hBe
      have hBl : B.length ≤ 40000 := by omega
      have hB8 : 8 ≤ B.length := by omega
      have Hbl := Lib.hid (show b.length ≤ 4194304 by omega)
      have HfL := Lib.hid hfl
      clear hB hl hfl hBe hb hC6 hM6 hn6 hx7 hxx6
      have hr := ho.rd
      have hnc := ho.nc
      have hcm := ho.cm
      go_wp2_with fail
      go_loopw [9] (fun s9 wr => ∃ k : Nat, s9 = .int .i64 k ∧ k ≤ B.length ∧ Ext no w7 wr) (fun s9 _ => B.length - (intOf s9).toNat)
      case atStart => exact ⟨0, rfl, Nat.zero_le _, Ext.refl _ _⟩
      case round =>
        obtain ⟨k, rfl, hkl, hx⟩ := hrel
        by_cases hk : k < B.length
        · have d1 : decide (k < B.length) = true := decT hk
          have htl : (B.take k).length = k := by rw [List.length_take]; omega
          have hrt : Rd wr a (bs (B.take k)) := by have q := (hr.ext hx (fun _ _ h => h)).take k; rw [bs_take] at q; exact q
          have hcut : one (B.take k) = ([], 8) := by rw [HB.out]; exact one_cut b Hbl.out k (by rw [← HB.out]; exact hk)
          have HP := Lib.hid (by
            have q := wparse_bad wr a c (B.take k) 8 hrt (by omega) (by omega) hcut (by decide)
            rw [htl] at q
            exact q)
          have hcd : ∀ w, (Instr.sliceAt 40 (.slice a B.length c) none (some (.int .i64 (k : Int))) none).run Try.prog w = .ok (.slice a k c) w := fun w => run_cut_h TBytes w _ _ c .i64 k (by omega)
          clear htl hrt hcut
          go_wp2_with fail
          refine HP.out.mono ?_
          rintro e w8 ⟨rfl, hx8⟩
          clear HP
          rename_i hK
          dsimp only
          refine hK _ _ ?_
          clear hK
          refine wp_move (.tuple #[MsgR.zero.val MsgA.zero, .int .i64 (8 : Nat)]) rfl rfl (by rfl) ?_
          simp only [Act.put, List.setIfInBounds_toArray, List.set_cons_zero, List.set_cons_succ]
          refine wp_extract (v := MsgR.zero.val MsgA.zero) rfl rfl (by rfl) (by rfl) ?_
          simp only [Act.put, List.setIfInBounds_toArray, List.set_cons_zero, List.set_cons_succ]
          refine wp_extract (v := .int .i64 (8 : Nat)) rfl rfl (by rfl) (by rfl) ?_
          simp only [Act.put, List.setIfInBounds_toArray, List.set_cons_zero, List.set_cons_succ]
          refine wp_alloc_msg rfl rfl (fun hA => ?_)
          simp only [Act.put, List.setIfInBounds_toArray, List.set_cons_zero, List.set_cons_succ]
          refine wp_store_msg (m := MsgR.zero) (h := MsgA.zero) rfl rfl (by rfl) (by rfl) hA rfl (fun hS hxS => ?_)
          simp only [Act.put, List.setIfInBounds_toArray, List.set_cons_zero, List.set_cons_succ]
          refine wp_assign (.int .i64 (8 : Nat)) rfl rfl (by rfl) ?_
          simp only [Act.put, List.setIfInBounds_toArray, List.set_cons_zero, List.set_cons_succ]
          have hxw9 := (Ext.alloc no w8 (.cells (MsgR.zero.cells MsgA.zero).toArray 36)).fresh hxS (Nat.le_refl _)
          generalize (w8.alloc (.cells (MsgR.zero.cells MsgA.zero).toArray 36)).setCells w8.heap.size 0 (MsgR.zero.cells MsgA.zero) = w9 at hxw9 ⊢
          clear hS hxS hA
          go_wp2_with fail
          go_roundw
          case rel => exact ⟨k + 1, by go_num, by omega, (hx.comp hx8).comp hxw9⟩
          case measure => simp [intOf]; omega
        · have d1 : decide (k < B.length) = false := decF hk
          have hb7 := hr.ext hx (fun _ _ h => h)
          have hxx := hxx7.comp hx
          clear hr hx hxx7 ho
          go_wp2_with (at_builtin; refine wpList_append TBytes rfl rfl rfl (emptied2 wr 5) rfl (hb7.alloc _) (by simp) (bs_one _) (by unfold maxLen; omega) (by omega) (by simp) ?_)
          intro a8 c8 w8 happ
          obtain ⟨hown8, hx8⟩ := copied2 happ
          clear happ
          go_wp2_with (at_builtin; refine wpList_append TBytes rfl rfl rfl (hown8.alloc _) rfl (Rd.lit w8 #[.int .u8 0] 5 (0, 0)) (m := 1) rfl (by intro u hu; simp at hu; subst hu; rfl) (by unfold maxLen; omega) (by omega) (by simp; have := hx8.size; omega) ?_)
          intro a9 c9 w9 happ
          have hx89 := hx8.comp (Ext.alloc no w8 (.cells #[.int .u8 0] 5))
          obtain ⟨hown9, hx9⟩ := appended2 (l := [0]) (hown8.alloc _) hx89 happ
          clear happ hown8 hx89 hx8
          rw [show B.length + 1 = (B ++ [(0 : UInt8)]).length by simp] at hown9 ⊢
          have hone : one (B ++ [(0 : UInt8)]) = ([], 9) := by rw [HB.out]; exact one_more b [0] Hbl.out (by simp)
          have hXl : (B ++ [(0 : UInt8)]).length = B.length + 1 := by simp
          generalize B ++ [(0 : UInt8)] = X at *
          have HP := Lib.hid (wparse_bad w9 a9 c9 X 9 hown9.rd (by omega) hown9.nc hone (by decide))
          have hb9 := hb7.ext hx9 (fun _ _ h => h)
          have hxx9 := hxx.comp hx9
          clear hown9 hone hXl hb7 hx9 hxx
          go_wp2_with fail
          refine HP.out.mono ?_
          rintro e w10 ⟨rfl, hx10⟩
          clear HP
          rename_i hK
          dsimp only
          refine hK _ _ ?_
          clear hK
          refine wp_move (.tuple #[MsgR.zero.val MsgA.zero, .int .i64 (9 : Nat)]) rfl rfl (by rfl) ?_
          simp only [Act.put, List.setIfInBounds_toArray, List.set_cons_zero, List.set_cons_succ]
          refine wp_extract (v := MsgR.zero.val MsgA.zero) rfl rfl (by rfl) (by rfl) ?_
          simp only [Act.put, List.setIfInBounds_toArray, List.set_cons_zero, List.set_cons_succ]
          refine wp_extract (v := .int .i64 (9 : Nat)) rfl rfl (by rfl) (by rfl) ?_
          simp only [Act.put, List.setIfInBounds_toArray, List.set_cons_zero, List.set_cons_succ]
          refine wp_alloc_msg rfl rfl (fun hA => ?_)
          simp only [Act.put, List.setIfInBounds_toArray, List.set_cons_zero, List.set_cons_succ]
          refine wp_store_msg (m := MsgR.zero) (h := MsgA.zero) rfl rfl (by rfl) (by rfl) hA rfl (fun hS hxS => ?_)
          simp only [Act.put, List.setIfInBounds_toArray, List.set_cons_zero, List.set_cons_succ]
          refine wp_assign (.int .i64 (9 : Nat)) rfl rfl (by rfl) ?_
          simp only [Act.put, List.setIfInBounds_toArray, List.set_cons_zero, List.set_cons_succ]
          have hxw11 := (Ext.alloc no w10 (.cells (MsgR.zero.cells MsgA.zero).toArray 36)).fresh hxS (Nat.le_refl _)
          generalize (w10.alloc (.cells (MsgR.zero.cells MsgA.zero).toArray 36)).setCells w10.heap.size 0 (MsgR.zero.cells MsgA.zero) = w11 at hxw11 ⊢
          clear hS hxS hA
          have hb11 := (hb9.ext hx10 (fun _ _ h => h)).ext hxw11 (fun _ _ h => h)
          have hxx11 := (hxx9.comp hx10).comp hxw11
          clear hb9 hx10 hxw11 hxx9
          go_wp2_with (at_builtin; refine wpList_append TBytes rfl rfl rfl (emptied2 w11 5) rfl (hb11.alloc _) (by simp) (bs_one _) (by unfold maxLen; omega) (by omega) (by simp) ?_)
          intro a12 c12 w12 happ
          obtain ⟨hown12, hx12⟩ := copied2 happ
          clear happ
          have hxx12 := hxx11.comp hx12
          have hs11 := hxx11.size
          clear hb11 hxx11
          go_upto_region 18 with fail
          obtain ⟨N, hN⟩ : ∃ N : Int, N = (B.length : Int) - 4 := ⟨_, rfl⟩
          have hN1 : 0 < N := by omega
          have hN2 : N ≤ 40000 := by omega
          have HN := Lib.hid hN
          obtain ⟨j, hj⟩ : ∃ j : Nat, pt % N = j := ⟨(pt % N).toNat, by have := Int.emod_nonneg pt (show N ≠ 0 by omega); omega⟩
          have hjN : (j : Int) < N := by rw [← hj]; exact Int.emod_lt_of_pos pt hN1
          obtain ⟨t, ht⟩ : ∃ t : Nat, bt % 8 = t := ⟨(bt % 8).toNat, by omega⟩
          have ht8 : t < 8 := by omega
          have HcJ := Lib.hid (fun wz => by have q := wiwithin_any pt N wz hN1 (by omega) hpt; rw [hj] at q; exact q)
          have HcT := Lib.hid (fun wz => by have q := wiwithin_any bt 8 wz (by omega) (by omega) hbt; rw [ht] at q; exact q)
          clear hj ht
          have hkM : 4 + j < B.length := by omega
          have hjb := Lib.hid (show j < 4 + b.length by have := HfL.out; omega)
          obtain ⟨bad, rfl, hblt⟩ := hown12.rd.ne (by rw [bs_length]; omega)
          have hbc := hown12.rd.cell (4 + j) (by simpa using hkM)
          rw [show (bs B)[4 + j]'(by simpa using hkM) = .int .u8 B[4 + j].toNat from by simp [bs, B8]] at hbc
          have hbf : w12.frozen? (bad.add (4 + j)) = false := by
            obtain ⟨_, e, _, f⟩ := hown12.can (4 + j) (by have := hown12.nc; omega)
            cases e; exact f
          have hMx : B[4 + j]? = some B[4 + j] := List.getElem?_eq_getElem hkM
          have HMx := Lib.hid hMx
          clear hMx
          generalize B[4 + j] = x at *
          obtain ⟨i, hi⟩ : ∃ i, i = 4 + j := ⟨_, rfl⟩
          have Hi := Lib.hid hi
          have hii : (4 + (j : Int)) = ((i : Nat) : Int) := by omega
          have hiM : i < B.length := by omega
          rw [← hi] at hbc hbf
          clear hi hkM
          have hb1 := x.toNat_lt
          have hp2 : 2 ^ t < 256 := Nat.pow_lt_pow_right (by decide) ht8
          have hxl : x.toNat ^^^ 2 ^ t < 256 := Nat.xor_lt_two_pow (n := 8) hb1 hp2
          obtain ⟨z, hz⟩ : ∃ z : UInt8, z.toNat = x.toNat ^^^ 2 ^ t := ⟨b8 (x.toNat ^^^ 2 ^ t), b8_toNat _ hxl⟩
          have Hzx := Lib.hid (show z ≠ x from fun h => by
            rw [h] at hz
            have h1 : x.toNat ^^^ 0 = x.toNat ^^^ 2 ^ t := by rw [Nat.xor_zero]; exact hz
            have h2 := xor_cancel' h1
            have : 0 < 2 ^ t := Nat.pow_pos (by decide)
            omega)
          have HPw := Lib.hid (show (0 : Int) ≤ 2 ^ t ∧ (2 : Int) ^ t < 256 from by
            have h1 : ((2 ^ t : Nat) : Int) = 2 ^ t := by simp
            exact ⟨Int.le_of_lt (Int.pow_pos (by decide)), by rw [← h1]; omega⟩)
          have Hz := Lib.hid (show bits .xor .u8 (x.toNat : Int) ((2 ^ t : Nat) : Int) = (z.toNat : Int) by rw [u8_xor_nat _ _ hb1 hp2, hz])
          clear hz hxl hp2 hb1 hN
          refine wp_region_F [8] (looks [(8, fun z => Ext no w12 z)]) (by kernel_rfl) ?_
          have hT0 : ∀ k, looks [(8, fun z => Ext no w12 z)] k (w12.drew) := looks_all ⟨Ext.drew no w12, trivial⟩
          refine wpF_take 0 (v := ?_) rfl (by kernel_rfl) (by kernel_rfl) (by kernel_rfl) (fun _ _ _ h => h) hT0 (by rfl) ?_ ?_
          rotate_left
          · (intro wq; go_simp; try with_reducible rfl)
          simp only [Act.put, List.setIfInBounds_toArray, List.set_cons_zero, List.set_cons_succ]
          refine wpF_take 1 (v := ?_) rfl (by kernel_rfl) (by kernel_rfl) (by kernel_rfl) (fun _ _ _ h => h) hT0 (by rfl) ?_ ?_
          rotate_left
          · (intro wq; go_simp; try with_reducible rfl)
          simp only [Act.put, List.setIfInBounds_toArray, List.set_cons_zero, List.set_cons_succ]
          refine wpF_take 2 (v := ?_) rfl (by kernel_rfl) (by kernel_rfl) (by kernel_rfl) (fun _ _ _ h => h) hT0 (by rfl) ?_ ?_
          rotate_left
          · (intro wq; go_simp; try with_reducible rfl)
          simp only [Act.put, List.setIfInBounds_toArray, List.set_cons_zero, List.set_cons_succ]
          refine wpF_take 3 (v := ?_) rfl (by kernel_rfl) (by kernel_rfl) (by kernel_rfl) (fun _ _ _ h => h) hT0 (by rfl) ?_ ?_
          rotate_left
          · (intro wq; go_simp; try with_reducible rfl)
          simp only [Act.put, List.setIfInBounds_toArray, List.set_cons_zero, List.set_cons_succ]
          refine wpF_take 4 (v := .int .i64 N) rfl (by kernel_rfl) (by kernel_rfl) (by kernel_rfl) (fun _ _ _ h => h) hT0 (by rfl) (by intro wq; go_simp; first | done | rfl | exact HN.out.symm | (have := HN.out; omega) | (rw [HN.out, IntKind.wrap_i64]; omega) | (rw [IntKind.wrap_i64]; omega) | (rw [HN.out]) | omega) ?_
          simp only [Act.put, List.setIfInBounds_toArray, List.set_cons_zero, List.set_cons_succ]
          refine wpF_call 5 (v := .int .i64 (j : Nat)) 13 #[.int .i64 pt, .int .i64 N] rfl (by kernel_rfl) (by kernel_rfl) (by kernel_rfl) (fun _ _ _ h => h) hT0 (by rfl) (by intro wq; go_simp; try with_reducible rfl) (HcJ.out) ?_
          simp only [Act.put, List.setIfInBounds_toArray, List.set_cons_zero, List.set_cons_succ]
          refine wpF_take 6 (v := .int .i64 (i : Nat)) rfl (by kernel_rfl) (by kernel_rfl) (by kernel_rfl) (fun _ _ _ h => h) hT0 (by rfl) (by intro wq; go_simp; first | done | rfl | (rw [IntKind.wrap_i64]; omega) | (rw [hii]) | omega) ?_
          simp only [Act.put, List.setIfInBounds_toArray, List.set_cons_zero, List.set_cons_succ]
          refine wpF_take 7 (v := ?_) rfl (by kernel_rfl) (by kernel_rfl) (by kernel_rfl) (fun _ _ _ h => h) hT0 (by rfl) ?_ ?_
          rotate_left
          · (intro wq; go_simp; try with_reducible rfl)
          simp only [Act.put, List.setIfInBounds_toArray, List.set_cons_zero, List.set_cons_succ]
          refine wpF_look 8 (v := .int .u8 x.toNat) rfl rfl (by kernel_rfl) (by kernel_rfl) (by kernel_rfl) (by kernel_rfl) (fun _ _ _ h => h) hT0 (by rfl) (fun w hS => by have hS : Ext no w12 w := hS; have q0 := hS.keeps hbc (fun h => h); go_simp) ?_
          simp only [Act.put, List.setIfInBounds_toArray, List.set_cons_zero, List.set_cons_succ]
          refine wpF_take 9 (v := ?_) rfl (by kernel_rfl) (by kernel_rfl) (by kernel_rfl) (fun _ _ _ h => h) hT0 (by rfl) ?_ ?_
          rotate_left
          · (intro wq; go_simp; try with_reducible rfl)
          simp only [Act.put, List.setIfInBounds_toArray, List.set_cons_zero, List.set_cons_succ]
          refine wpF_call 10 (v := .int .i64 (t : Nat)) 13 #[.int .i64 bt, .int .i64 8] rfl (by kernel_rfl) (by kernel_rfl) (by kernel_rfl) (fun _ _ _ h => h) hT0 (by rfl) (by intro wq; go_simp; try with_reducible rfl) (HcT.out) ?_
          simp only [Act.put, List.setIfInBounds_toArray, List.set_cons_zero, List.set_cons_succ]
          refine wpF_take 11 (v := .int .u64 t) rfl (by kernel_rfl) (by kernel_rfl) (by kernel_rfl) (fun _ _ _ h => h) hT0 (by rfl) (by intro wq; go_simp; rw [IntKind.wrap_u64]; omega) ?_
          simp only [Act.put, List.setIfInBounds_toArray, List.set_cons_zero, List.set_cons_succ]
          refine wpF_take 12 (v := .int .u8 (2 ^ t : Nat)) rfl (by kernel_rfl) (by kernel_rfl) (by kernel_rfl) (fun _ _ _ h => h) hT0 (by rfl) (by intro wq; go_simp; rw [IntKind.wrap_u8']; exact Int.emod_eq_of_lt HPw.out.1 HPw.out.2) ?_
          simp only [Act.put, List.setIfInBounds_toArray, List.set_cons_zero, List.set_cons_succ]
          refine wpF_take 13 (v := .int .u8 z.toNat) rfl (by kernel_rfl) (by kernel_rfl) (by kernel_rfl) (fun _ _ _ h => h) hT0 (by rfl) (by intro wq; go_simp; exact Hz.out) ?_
          simp only [Act.put, List.setIfInBounds_toArray, List.set_cons_zero, List.set_cons_succ]
          refine wpF_take 14 (v := ?_) rfl (by kernel_rfl) (by kernel_rfl) (by kernel_rfl) (fun _ _ _ h => h) hT0 (by rfl) ?_ ?_
          rotate_left
          · (intro wq; go_simp; try with_reducible rfl)
          simp only [Act.put, List.setIfInBounds_toArray, List.set_cons_zero, List.set_cons_succ]
          refine wpF_exec 15 rfl (by kernel_rfl) (by rfl) ?_
          intro K hK
          go_simp
          have hT1 : ∀ k, looks [(8, fun z => True)] k ((w12.setCell (bad.add i) (.int .u8 z.toNat)).drew) := looks_all ⟨trivial, trivial⟩
          refine hK _ _ (looks [(8, fun z => True)]) ⟨.inr (.inl (by kernel_rfl)), trivial⟩ hT1 ?_
          clear hK K
          try simp only [Act.put, List.setIfInBounds_toArray, List.set_cons_zero, List.set_cons_succ]
          refine wpF_done (by kernel_rfl) ?_ _
          have hset : Own (w12.setCell (bad.add i) (.int .u8 z.toNat)).drew w11.heap.size (some bad) 1 B.length c12 (bs (B.set i z)) := by
            have := (hown12.set i (by omega) (B8 z)).drew
            rw [bs_set] at this; exact this
          have hx13 : Ext no w (w12.setCell (bad.add i) (.int .u8 z.toNat)).drew := (hxx12.trans (Ext.setCell (S := just bad.block) _ _ _ (add_block _ _)) (fun q hq h => by have := (hown12.base bad rfl).1; simp only [Esc.just] at h; omega)).comp (Ext.drew no _)
          go_wp2_with fail
          clear hT0 hT1
          generalize (w12.setCell (bad.add i) (.int .u8 z.toNat)).drew = w13 at *
          have hone := turned_one b Hbl.out j hjb.out z (by rw [← HB.out, HMx.out]; exact fun h => Hzx.out (by cases h; rfl))
          rw [← HB.out, ← Hi.out] at hone
          have hXl : (B.set i z).length = B.length := by simp
          generalize B.set i z = X at *
          have HP := Lib.hid (by
            have q := wparse_bad w13 (some bad) c12 X 10 hset.rd (by omega) (by rw [hXl]; exact hset.nc) hone (by decide)
            rw [hXl] at q
            exact q)
          clear hone hXl hset hown12 hbc hbf hxx12
          go_wp2_with fail
          refine HP.out.mono ?_
          rintro e w14 ⟨rfl, hx14⟩
          clear HP
          rename_i hK
          dsimp only
          refine hK _ _ ?_
          clear hK
          refine wp_move (.tuple #[MsgR.zero.val MsgA.zero, .int .i64 (10 : Nat)]) rfl rfl (by rfl) ?_
          simp only [Act.put, List.setIfInBounds_toArray, List.set_cons_zero, List.set_cons_succ]
          refine wp_extract (v := MsgR.zero.val MsgA.zero) rfl rfl (by rfl) (by rfl) ?_
          simp only [Act.put, List.setIfInBounds_toArray, List.set_cons_zero, List.set_cons_succ]
          refine wp_extract (v := .int .i64 (10 : Nat)) rfl rfl (by rfl) (by rfl) ?_
          simp only [Act.put, List.setIfInBounds_toArray, List.set_cons_zero, List.set_cons_succ]
          refine wp_alloc_msg rfl rfl (fun hA => ?_)
          simp only [Act.put, List.setIfInBounds_toArray, List.set_cons_zero, List.set_cons_succ]
          refine wp_store_msg (m := MsgR.zero) (h := MsgA.zero) rfl rfl (by rfl) (by rfl) hA rfl (fun hS hxS => ?_)
          simp only [Act.put, List.setIfInBounds_toArray, List.set_cons_zero, List.set_cons_succ]
          refine wp_assign (.int .i64 (10 : Nat)) rfl rfl (by rfl) ?_
          simp only [Act.put, List.setIfInBounds_toArray, List.set_cons_zero, List.set_cons_succ]
          have hxw15 := (Ext.alloc no w14 (.cells (MsgR.zero.cells MsgA.zero).toArray 36)).fresh hxS (Nat.le_refl _)
          generalize (w14.alloc (.cells (MsgR.zero.cells MsgA.zero).toArray 36)).setCells w14.heap.size 0 (MsgR.zero.cells MsgA.zero) = w15 at hxw15 ⊢
          clear hS hxS hA
          go_wp2_with fail
          go_ret
          exact ⟨rfl, (hx13.comp hx14).comp hxw15⟩

end Go.Proofs.Ytddobhihjljcgaa
