/- The reference's Parse. -/
import Derived.Test.YtddobhihjljcgaaGreatWxK
import Derived.Test.YtddobhihjljcgaaGreatWxQ
import Derived.Test.YtddobhihjljcgaaGreatFrD
namespace Go.Esc
open Go.RowKit
set_option linter.unusedVariables false
set_option linter.unusedSimpArgs false
theorem xRow_all {α : Type} {f : RS → α × RS} {P : α → Prop} (hf : ∀ s, P (f s).1) : ∀ n s, ∀ x ∈ (xRow f n s).1, P x
 | 0, s, x, h => by cases h
 | n + 1, s, x, h => by
  unfold xRow at h
  split at h
  ·cases h
  ·rcases List.mem_cons.1 h with h | h
   ·rw [h]; exact hf s
   ·exact xRow_all hf n _ x h
theorem xRow_len {α : Type} {f : RS → α × RS} : ∀ n s, (xRow f n s).1.length ≤ n
 | 0, s => Nat.le_refl _
 | n + 1, s => by
  unfold xRow
  split
  ·simp
  ·rw [List.length_cons]; have := xRow_len (f := f) n (f s).2; omega
def FineO (o : OpR) : Prop := o.dots.length ≤ 1099511627776 ∧ o.key.length ≤ maxLen ∧ o.text.length ≤ maxLen
def FineL (l : List OpR) : Prop := l.length ≤ 1000000 ∧ ∀ o ∈ l, FineO o
theorem FineL.nil : FineL [] := ⟨Nat.zero_le _, fun o h => by cases h⟩
theorem pRead_fineO (s : RS) : FineO (pRead s).1 := by
 obtain ⟨_, h1, h2, h3⟩ := pRead_fine s
 exact ⟨by omega, by unfold maxLen; omega, by unfold maxLen; omega⟩
theorem xOps_fine (s : RS) : FineL (xOps s).1 := by
 refine ⟨?_, ?_⟩
 ·have h1 := xRow_len (f := pRead) (pSize 20 s).1 (pSize 20 s).2
  have h2 : ((pSize 20 s).1 : Int) ≤ 20 := by
   unfold pSize
   split
   ·show ((0 : Nat) : Int) ≤ 20; omega
   ·show (((rInt s).1.toNat : Nat) : Int) ≤ 20; omega
  show (xRow pRead (pSize 20 s).1 (pSize 20 s).2).1.length ≤ _
  omega
 ·intro o ho
  unfold xOps at ho
  generalize (pSize 20 s).1 = n at ho
  generalize (pSize 20 s).2 = t at ho
  exact xRow_all (P := FineO) pRead_fineO n t o ho
theorem xBody_fine (k : Int) (s : RS) : FineL (xBody k s).1.cmd.ops ∧ FineL (xBody k s).1.ops := by
 unfold xBody
 simp only
 by_cases h1 : k = 1
 ·rw [if_pos h1]
  refine ⟨?_, FineL.nil⟩
  show FineL (xCmd _).1.ops
  unfold xCmd
  exact xOps_fine _
 ·rw [if_neg h1]
  by_cases h2 : k = 2
  ·rw [if_pos h2]; exact ⟨FineL.nil, FineL.nil⟩
  ·rw [if_neg h2]
   by_cases h3 : k = 3
   ·rw [if_pos h3]; exact ⟨FineL.nil, FineL.nil⟩
   ·rw [if_neg h3]
    by_cases h4 : k = 4
    ·rw [if_pos h4]; exact ⟨FineL.nil, xOps_fine _⟩
    ·rw [if_neg h4]
     by_cases h5 : k = 5
     ·rw [if_pos h5]; exact ⟨FineL.nil, FineL.nil⟩
     ·rw [if_neg h5]; exact ⟨FineL.nil, FineL.nil⟩
theorem many_used {k : Int} (hk : 1 ≤ k ∧ k ≤ 5) {s : RS} (h : (wBody k s).2.e = 0) : manyM (wBody k s).1 = decide (100 < (wBody k s).1.rep.used.length) := by
 obtain ⟨_, _, b3, _, b5, b6, b7, b8, b9⟩ := wBody_canon hk h
 have hu : k ≠ 2 → (wBody k s).1.rep.used = [] := by
  intro h2
  unfold wBody
  simp only
  by_cases h1 : k = 1
  ·rw [if_pos h1]; rfl
  ·rw [if_neg h1, if_neg h2]
   by_cases h3 : k = 3
   ·rw [if_pos h3]; rfl
   ·rw [if_neg h3]
    by_cases h4 : k = 4
    ·rw [if_pos h4]; rfl
    ·rw [if_neg h4]
     by_cases h5 : k = 5
     ·rw [if_pos h5]; rfl
     ·rw [if_neg h5]; rfl
 generalize (wBody k s).1 = m at *
 unfold manyM
 rw [b3]
 by_cases h1 : k = 1
 ·rw [if_pos h1, hu (by omega)]; exact decide_eq_decide.2 (by simp only [List.length_nil]; omega)
 ·rw [if_neg h1]
  by_cases h2 : k = 2
  ·rw [if_pos h2]; exact decide_eq_decide.2 (by omega)
  ·rw [if_neg h2, hu h2]
   by_cases h4 : k = 4
   ·rw [if_pos h4]; exact decide_eq_decide.2 (by simp only [List.length_nil]; omega)
   ·rw [if_neg h4]; rfl
theorem xBody_bad {k : Int} (hk : k < 1 ∨ 5 < k) {s : RS} (h : s.e ≠ 0) : (xBody k s).2 = s := by
 unfold xBody
 simp only
 rw [if_neg (by omega), if_neg (by omega), if_neg (by omega), if_neg (by omega), if_neg (by omega)]
 exact rInt_stuck h
end Go.Esc
namespace Go.Proofs.YtddobhihjljcgaaGreat
open Go.RowKit Go.Esc
theorem run_load_rmsg {op : Oper} {x : Operand} {a : Act} {w : World} {m : MsgR} {h : MsgA} {g : Nat} (ho : op.op = .load 42 x) (hx : a.eval x = .pointer (some ⟨g, 0, none⟩)) (hC : Blk w g (m.cells h)) : (execOp a.eval op).run Tryz.prog w = .ok (.value (m.val h)) w := by
 have h1 : (Instr.sureAddr (.pointer (some ⟨g, 0, none⟩))).run Tryz.prog w = .ok ⟨g, 0, none⟩ w := rfl
 unfold execOp
 simp only [ho, hx, Instr.loadAt, h1, Sem.run_bind, Sem.run_pure, load_rmsg hC, Result.andThen_ok]
theorem parse_form {l X : List UInt8} {n : Int} {s1 t : RS} (h2 : (one l).2 = 0) (hX : X = (one l).1) (hw : wMsg X = if n < 1 ∨ 5 < n then ({ MsgR.zero with kind := n }, rFail s1 3) else wBody n s1) (ht : t = if n < 1 ∨ 5 < n then rFail s1 3 else s1) :
  parseErr l = (if rEnd (xBody n t).2 ≠ 0 then rEnd (xBody n t).2 else if manyM (xBody n t).1 = true then 4 else (msgErr (xBody n t).1 : Int)) ∧ (parseErr l = 0 → parseMsg l = (xBody n t).1) := by
 rw [hX] at hw
 by_cases hb : n < 1 ∨ 5 < n
 ·rw [if_pos hb] at hw ht
  have hte : t.e ≠ 0 := by rw [ht]; exact rFail_e s1 3 (by omega)
  have h1 : (xBody n t).2 = rFail s1 3 := by rw [xBody_bad hb hte, ht]
  have hE : rEnd (rFail s1 3) ≠ 0 := rFail_end s1 (by omega)
  have hp := parseErr_of h2 hw
  rw [if_pos hE] at hp
  rw [h1, if_pos hE]
  exact ⟨hp, fun e => absurd (hp ▸ e) hE⟩
 ·rw [if_neg hb] at hw ht
  subst ht
  have hw' : wMsg (one l).1 = ((wBody n t).1, (wBody n t).2) := hw
  have hp := parseErr_of h2 hw'
  rw [xBody_state]
  by_cases hE : rEnd (wBody n t).2 = 0
  ·have he := (rEnd_zero hE).1
   rw [xBody_val n t he, many_used (by omega) he]
   refine ⟨?_, fun e => parseMsg_of hw' e⟩
   have hE2 : ¬ (rEnd (wBody n t).2 ≠ 0) := fun e => e hE
   rw [hp, if_neg hE2, if_neg hE2]
   by_cases hu : 100 < (wBody n t).1.rep.used.length
   ·rw [if_pos hu, if_pos (decide_eq_true hu)]
   ·rw [if_neg hu, if_neg (by rw [decide_eq_false hu]; exact Bool.false_ne_true)]
  ·rw [if_pos hE] at hp ⊢
   exact ⟨hp, fun e => absurd (hp ▸ e) hE⟩
open Go.RowKit Go.Esc
set_option linter.unusedVariables false
set_option linter.unusedSimpArgs false
set_option maxRecDepth 100000 in
set_option maxHeartbeats 4000000 in
theorem refmany_any (w : World) (m : MsgR) (h : MsgA) :
  Calls Tryz.prog 17 #[m.val h] w fun e w' => e = .returned (.bool (manyM m)) ∧ Ext no w w' := by
 obtain ⟨V, hV⟩ : ∃ V, V = manyM m := ⟨_, rfl⟩
 rw [← hV]
 have HV := Lib.hid hV
 clear hV
 go_enter Tryz.func17, Tryz.ntmps17
 go_upto_region 0 with fail
 refine wp_region_lit ?_
 refine wp_box_rmsg (m := m) (h := h) rfl rfl (by rfl) (fun hC => ?_)
 simp only [pz]
 have hxx := Ext.alloc no w (.cells (m.cells h).toArray 42)
 generalize w.alloc (.cells (m.cells h).toArray 42) = w1 at *
 generalize w.heap.size = g at hC ⊢
 have z0 := hC.cell 0 _ rfl
 have z13 := hC.cell 13 _ rfl
 have z14 := hC.cell 14 _ rfl
 have z21 := hC.cell 21 _ rfl
 have z22 := hC.cell 22 _ rfl
 have z23 := hC.cell 23 _ rfl
 have z24 := hC.cell 24 _ rfl
 have kT : ∀ k : Int, m.kind = k → (m.kind == k) = true := fun k e => by rw [beq_iff_eq]; exact e
 have kF : ∀ k : Int, m.kind ≠ k → (m.kind == k) = false := fun k e => by rw [beq_eq_false_iff_ne]; exact e
 have KT := Lib.hid kT
 have KF := Lib.hid kF
 clear kT kF
 by_cases h1 : m.kind = 1
 ·have t1 := KT.out 1 h1
  have HV' := Lib.hid (show V = decide (20 < m.cmd.wants.length ∨ 20 < m.cmd.ops.length) by rw [HV.out]; unfold manyM; rw [if_pos h1])
  clear h1
  by_cases g1 : 20 < m.cmd.wants.length
  ·have s1 : decide (20 < m.cmd.wants.length) = true := decT g1
   have s1' : decide ((20 : Int) < (m.cmd.wants.length : Int)) = true := decT (by omega)
   have HW := Lib.hid (show V = true by rw [HV'.out]; exact decT (.inl g1))
   clear g1
   go_wp2_with fail
   go_ret
   exact ⟨by rw [HW.out]; rfl, hxx⟩
  ·have s1 : decide (20 < m.cmd.wants.length) = false := decF g1
   have s1' : decide ((20 : Int) < (m.cmd.wants.length : Int)) = false := decF (by omega)
   have HW := Lib.hid (show V = decide ((20 : Int) < (m.cmd.ops.length : Int)) by rw [HV'.out]; exact decide_eq_decide.2 (by omega))
   clear g1
   go_wp2_with fail
   go_ret
   exact ⟨by rw [HW.out]; rfl, hxx⟩
 ·have t1 := KF.out 1 h1
  by_cases h2 : m.kind = 2
  ·have t2 := KT.out 2 h2
   have HV' := Lib.hid (show V = decide (20 < m.rep.slices.length ∨ 100 < m.rep.ids.length ∨ 100 < m.rep.used.length) by rw [HV.out]; unfold manyM; rw [if_neg h1, if_pos h2])
   clear h1 h2
   by_cases g1 : 20 < m.rep.slices.length
   ·have s1' : decide ((20 : Int) < (m.rep.slices.length : Int)) = true := decT (by omega)
    have HW := Lib.hid (show V = true by rw [HV'.out]; exact decT (.inl g1))
    clear g1
    go_wp2_with fail
    go_ret
    exact ⟨by rw [HW.out]; rfl, hxx⟩
   ·have s1' : decide ((20 : Int) < (m.rep.slices.length : Int)) = false := decF (by omega)
    by_cases g2 : 100 < m.rep.ids.length
    ·have s2' : decide ((100 : Int) < (m.rep.ids.length : Int)) = true := decT (by omega)
     have HW := Lib.hid (show V = true by rw [HV'.out]; exact decT (.inr (.inl g2)))
     clear g1 g2
     go_wp2_with fail
     go_ret
     exact ⟨by rw [HW.out]; rfl, hxx⟩
    ·have s2' : decide ((100 : Int) < (m.rep.ids.length : Int)) = false := decF (by omega)
     have HW := Lib.hid (show V = decide ((100 : Int) < (m.rep.used.length : Int)) by rw [HV'.out]; exact decide_eq_decide.2 (by omega))
     clear g1 g2
     go_wp2_with fail
     go_ret
     exact ⟨by rw [HW.out]; rfl, hxx⟩
  ·have t2 := KF.out 2 h2
   by_cases h4 : m.kind = 4
   ·have t4 := KT.out 4 h4
    have HW := Lib.hid (show V = decide ((20 : Int) < (m.ops.length : Int)) by rw [HV.out]; unfold manyM; rw [if_neg h1, if_neg h2, if_pos h4]; exact decide_eq_decide.2 (by omega))
    clear h1 h2 h4
    go_wp2_with fail
    go_ret
    exact ⟨by rw [HW.out]; rfl, hxx⟩
   ·have t4 := KF.out 4 h4
    have HW := Lib.hid (show V = false by rw [HV.out]; unfold manyM; rw [if_neg h1, if_neg h2, if_neg h4])
    clear h1 h2 h4
    go_wp2_with fail
    go_ret
    exact ⟨by rw [HW.out]; rfl, hxx⟩
set_option maxRecDepth 100000 in
set_option maxHeartbeats 16000000 in
theorem refparse_any (w : World) (a : Option Addr) (c : Nat) (l : List UInt8) (hrd : Rd w a (bs l)) (hl : l.length ≤ 1099511627776) (hlc : l.length ≤ c) :
  Calls Tryz.prog 12 #[.slice a l.length c] w (ParseEnd w l) := by
 go_enter Tryz.func12, Tryz.ntmps12
 go_upto_region 0 with fail
 refine wp_region_lit ?_
 refine wp_alloc_rmsg rfl rfl (fun hZ => ?_)
 simp only [pz]
 have hx := Ext.alloc no w (.cells (MsgR.zero.cells MsgA.zero).toArray 42)
 have hr1 := hrd.ext hx (fun _ _ h => h)
 generalize w.alloc (.cells (MsgR.zero.cells MsgA.zero).toArray 42) = w1 at *
 obtain ⟨q, hq⟩ : ∃ g, g = w.heap.size := ⟨_, rfl⟩
 rw [← hq] at hZ ⊢
 have hwq : w.heap.size ≤ q := by omega
 clear hq
 have hql := hZ.lt (msg_ne _ _)
 go_wp2_with fail
 refine (rone_any w1 a c l hr1 hl hlc).mono ?_
 rintro e w2 ⟨a2, c2, rfl, hr2, hfr, hc2, hm2, hy⟩
 have hZ := hZ.ext (msg_ne _ _) hy (fun h => h)
 replace hx := hx.comp hy
 clear hy hr1
 by_cases h2 : (one l).2 = 0
 rotate_left
 ·obtain ⟨E, hE⟩ : ∃ E : Int, E = ((one l).2 : Nat) := ⟨_, rfl⟩
  have HE0 := Lib.hid (show E ≠ 0 by rw [hE]; omega)
  have HE := Lib.hid (show parseErr l = E by rw [hE]; unfold parseErr; rw [if_pos h2])
  rw [← hE]
  clear hE h2
  have d0 : (E != 0) = true := by rw [bne_iff_ne]; exact HE0.out
  go_upto_region 3 with fail
  refine wp_region_lit ?_
  refine wp_val (by rfl) (MsgR.zero.val MsgA.zero) (by kernel_rfl) ?_
  simp only [pz]
  refine wp_move (.int .i64 E) rfl rfl (by rfl) ?_
  simp only [pz]
  refine wp_store_rmsg (m := MsgR.zero) (h := MsgA.zero) rfl rfl (by rfl) (by rfl) hZ rfl (fun hF hy => ?_)
  simp only [pz]
  have hx4 := hx.fresh hy hwq
  generalize w2.setCells q 0 (MsgR.zero.cells MsgA.zero) = wz at *
  go_wp2_with fail
  refine bodyPost_ret (v := .tuple #[MsgR.zero.val MsgA.zero, .int .i64 E]) ?_ rfl (parseEnd_bad (by rw [HE.out]; exact HE0.out) (by rw [HE.out]) hx4)
  exact rparse_results rfl _ _ (by rfl) (by rfl) hF
 have H2 := Lib.hid h2
 rw [h2]
 have t0 : (((0 : Nat) : Int) != 0) = false := rfl
 clear h2
 obtain ⟨X, hX⟩ : ∃ X, X = (one l).1 := ⟨_, rfl⟩
 rw [← hX] at hr2 hc2 ⊢
 have HX := Lib.hid hX
 clear hX
 go_wp2_with fail
 refine (xnew_any w2 a2 c2 X hr2 hc2 hm2).mono ?_
 rintro e w3 ⟨rfl, h, hy⟩
 obtain ⟨g, hg⟩ : ∃ g, g = w2.heap.size := ⟨_, rfl⟩
 rw [← hg] at h ⊢
 have hqg : q < g := by have := hZ.lt (msg_ne _ _); omega
 have hwg : w.heap.size ≤ g := by omega
 have hZ := hZ.ext (msg_ne _ _) hy (fun h => h)
 replace hx := hx.comp hy
 clear hg hy
 obtain ⟨s0, hs0⟩ : ∃ s : RS, s = ⟨X, 0⟩ := ⟨_, rfl⟩
 replace h : XRdr w3 g a2 c2 X s0.l s0.e := by rw [hs0]; exact h
 have HS0 := Lib.hid hs0
 clear hs0
 go_wp2_with fail
 refine (xint_any w3 g s0 h).mono ?_
 rintro e w4 ⟨rfl, h, hy⟩
 have hZ := hZ.ext (msg_ne _ _) hy (by simp only [Esc.just]; omega)
 replace hx := hx.fresh hy hwg
 clear hy
 obtain ⟨n, hn⟩ : ∃ n, n = (rInt s0).1 := ⟨_, rfl⟩
 obtain ⟨s1, hs1⟩ : ∃ q, q = (rInt s0).2 := ⟨_, rfl⟩
 rw [← hs1] at h
 rw [← hn]
 have HWM := Lib.hid (show wMsg X = if n < 1 ∨ 5 < n then ({ MsgR.zero with kind := n }, rFail s1 3) else wBody n s1 by unfold wMsg; rw [← HS0.out, ← hn, ← hs1])
 clear hn hs1 HS0
 rename_i hK
 dsimp only
 refine hK _ _ ?_
 clear hK
 refine wp_rbuild1 n rfl rfl (by rfl) ?_
 simp only [pz]
 refine wp_alloc_rmsg rfl rfl (fun hM => ?_)
 simp only [pz]
 have hxa := Ext.alloc no w4 (.cells (MsgR.zero.cells MsgA.zero).toArray 42)
 have hql4 := hZ.lt (msg_ne _ _)
 have hgl4 := h.lt
 have hZ := hZ.ext (msg_ne _ _) hxa (fun h => h)
 have hlow4 : X ≠ [] → ∀ ad, a2 = some ad → ad.block ≠ w4.heap.size := fun hb ad ha => Nat.ne_of_lt (xrdr_low h hb ad ha)
 have h := h.no hxa
 obtain ⟨gm, hgm⟩ : ∃ g, g = w4.heap.size := ⟨_, rfl⟩
 rw [← hgm] at hM hlow4 ⊢
 have hwm : w.heap.size ≤ gm := by have := hx.size; omega
 have hqm : q < gm := by omega
 have hgg : g < gm := by omega
 replace hx := hx.comp hxa
 clear hxa hgm hql4 hgl4
 generalize w4.alloc (.cells (MsgR.zero.cells MsgA.zero).toArray 42) = w5 at *
 refine wp_store_rmsg (m := kindM n) (h := MsgA.zero) rfl rfl (by rfl) (by rfl) hM rfl (fun hN hy => ?_)
 simp only [pz]
 have hZ := hZ.ext (msg_ne _ _) hy (fun e => by have e : q = gm := e; omega)
 have h : XRdr _ g a2 c2 X _ _ := h.ext hy (by simp only [Esc.just]; omega) (fun hb ad ha e => hlow4 hb ad ha e)
 replace hx := hx.fresh hy hwm
 clear hM hy
 generalize w5.setCells gm 0 ((kindM n).cells MsgA.zero) = w6 at *
 have z0 : w6.cell? ⟨gm, 0, none⟩ = some (.int .i64 n) := hN.cell 0 _ rfl
 obtain ⟨tt, htt⟩ : ∃ tt, tt = decide (n < 1 ∨ 5 < n) := ⟨_, rfl⟩
 have HTT := Lib.hid htt
 clear htt
 go_upto_region 6 with fail
 go_cut [29] (fun st wx => st = .bool tt ∧ wx = w6)
 case first =>
  by_cases c0 : n < 1
  ·have d0 : decide (n < 1) = true := decT c0
   have HT2 := Lib.hid (show tt = true by rw [HTT.out]; exact decide_eq_true (.inl c0))
   clear c0
   go_wp2_with fail
   go_meet
   exact ⟨by rw [HT2.out], rfl⟩
  ·have d0 : decide (n < 1) = false := decF c0
   by_cases c1 : 5 < n
   ·have d1 : decide (5 < n) = true := decT c1
    have HT2 := Lib.hid (show tt = true by rw [HTT.out]; exact decide_eq_true (.inr c1))
    clear c0 c1
    go_wp2_with fail
    go_meet
    exact ⟨by rw [HT2.out], rfl⟩
   ·have d1 : decide (5 < n) = false := decF c1
    have HT2 := Lib.hid (show tt = false by rw [HTT.out]; exact decide_eq_false (by omega))
    clear c0 c1
    go_wp2_with fail
    go_meet
    exact ⟨by rw [HT2.out], rfl⟩
 case rest =>
  obtain ⟨rfl, rfl⟩ := hcut
  obtain ⟨w6, h0⟩ : ∃ v, v = wc := ⟨_, rfl⟩
  subst h0
  go_upto_if 29 with fail
  go_cut [] (fun wx => ∃ t : RS, XRdr wx g a2 c2 X t.l t.e ∧ Ext (just g) w6 wx ∧ t = if n < 1 ∨ 5 < n then rFail s1 3 else s1)
  case first =>
   cases tt with
   | true =>
    have hk2 := of_decide_eq_true HTT.out.symm
    have HP := Lib.hid (show rFail s1 3 = if n < 1 ∨ 5 < n then rFail s1 3 else s1 by rw [if_pos hk2])
    clear hk2 HTT
    go_wp2_with fail
    refine (xfail_any w6 g s1.l s1.e 3 h).mono ?_
    rintro e x2 ⟨rfl, hr, hy⟩
    go_wp2_with fail
    go_meet
    exact ⟨rFail s1 3, by rw [(rFail_l s1 3).1, (rFail_l s1 3).2]; exact hr, hy, HP.out⟩
   | false =>
    have hk2 := of_decide_eq_false HTT.out.symm
    have HP := Lib.hid (show s1 = if n < 1 ∨ 5 < n then rFail s1 3 else s1 by rw [if_neg hk2])
    clear hk2 HTT
    go_wp2_with fail
    go_meet
    exact ⟨s1, h, Ext.refl _ _, HP.out⟩
  case rest =>
   clear h
   obtain ⟨t, h, hy, ht⟩ := hcut
   obtain ⟨w7, h0⟩ : ∃ v, v = wc := ⟨_, rfl⟩
   subst h0
   have hZ := hZ.ext (msg_ne _ _) hy (by simp only [Esc.just]; omega)
   have hN := hN.ext (msg_ne _ _) hy (by simp only [Esc.just]; omega)
   replace hx := hx.fresh hy hwg
   have hpf := parse_form H2.out HX.out HWM.out ht
   have hfi := xBody_fine n t
   clear hy z0 HWM HTT H2 HX ht
   go_upto_region 8 with fail
   refine wp_region_lit ?_
   refine wp_move (.pointer (some ⟨g, 0, none⟩)) rfl rfl (by rfl) ?_
   simp only [pz]
   refine wp_load_rmsg (m := kindM n) (h := MsgA.zero) rfl rfl (by rfl) hN ?_
   simp only [pz]
   have hgl7 := hN.lt (msg_ne _ _)
   have hgl8 := hZ.lt (msg_ne _ _)
   have hwx7 := hx.size
   go_wp2_with fail
   refine (xbody_any w7 g t n h).mono ?_
   rintro e w8 ⟨hh, rfl, hKp, h, hy⟩
   have hZ := hZ.ext (msg_ne _ _) hy (by simp only [Esc.just]; omega)
   have hN := hN.ext (msg_ne _ _) hy (by simp only [Esc.just]; omega)
   replace hx := hx.fresh hy hwg
   clear hy
   obtain ⟨M, hM⟩ : ∃ M, M = (xBody n t).1 := ⟨_, rfl⟩
   obtain ⟨s2, hs2⟩ : ∃ s, s = (xBody n t).2 := ⟨_, rfl⟩
   rw [← hM, ← hs2] at hpf
   rw [← hs2] at h
   rw [← hM] at hKp hfi ⊢
   have HPF := Lib.hid hpf
   have HFI := Lib.hid hfi
   clear hM hs2 hpf hfi
   rename_i hK
   dsimp only
   refine hK _ _ ?_
   clear hK
   refine wp_store_rmsg (m := M) (h := hh) rfl rfl (by rfl) (by rfl) hN rfl (fun hV hy => ?_)
   simp only [pz]
   have hZ := hZ.ext (msg_ne _ _) hy (fun e => by have e : q = gm := e; omega)
   have h : XRdr _ g a2 c2 X _ _ := h.ext hy (by simp only [Esc.just]; omega) (fun hb ad ha e => hlow4 hb ad ha e)
   replace hx := hx.fresh hy hwm
   have hKx : Ext (fun k => k < w7.heap.size ∨ w8.heap.size ≤ k) w8 (w8.setCells gm 0 (M.cells hh)) := hy.mono (fun k _ e => .inl (by have e : k = gm := e; omega))
   clear hN hy
   generalize w8.setCells gm 0 (M.cells hh) = w9 at *
   go_wp2_with fail
   refine (xend_any w9 g s2 h).mono ?_
   rintro e wa ⟨rfl, hy⟩
   have hZ := hZ.ext (msg_ne _ _) hy (fun h => h)
   have hV := hV.ext (msg_ne _ _) hy (fun h => h)
   have hKx := hKx.comp (hy.mono (fun _ _ h => h.elim))
   replace hx := hx.comp hy
   clear hy h
   obtain ⟨E0, hE0⟩ : ∃ E, E = rEnd s2 := ⟨_, rfl⟩
   rw [← hE0]
   have HPE := Lib.hid (show parseErr l = (if E0 ≠ 0 then E0 else if manyM M = true then 4 else (msgErr M : Int)) by rw [hE0]; exact HPF.out.1)
   clear hE0
   by_cases c0 : E0 = 0
   rotate_left
   ·obtain ⟨E, hE⟩ : ∃ E, E = E0 := ⟨_, rfl⟩
    rw [← hE] at HPE c0 ⊢
    clear hE
    have d0 : (E == 0) = false := by rw [beq_eq_false_iff_ne]; exact c0
    have d1 : (E != 0) = true := by rw [bne_iff_ne]; exact c0
    have HE0 := Lib.hid c0
    have HE := Lib.hid (show parseErr l = E by rw [HPE.out, if_pos c0])
    clear c0
    go_upto_region 17 with fail
    refine wp_region_lit ?_
    refine wp_val (by rfl) (MsgR.zero.val MsgA.zero) (by kernel_rfl) ?_
    simp only [pz]
    refine wp_move (.int .i64 E) rfl rfl (by rfl) ?_
    simp only [pz]
    refine wp_store_rmsg (m := MsgR.zero) (h := MsgA.zero) rfl rfl (by rfl) (by rfl) hZ rfl (fun hF hy => ?_)
    simp only [pz]
    have hx4 := hx.fresh hy hwq
    generalize wa.setCells q 0 (MsgR.zero.cells MsgA.zero) = wz at *
    go_wp2_with fail
    refine bodyPost_ret (v := .tuple #[MsgR.zero.val MsgA.zero, .int .i64 E]) ?_ rfl (parseEnd_bad (by rw [HE.out]; exact HE0.out) (by rw [HE.out]) hx4)
    exact rparse_results rfl _ _ (by rfl) (by rfl) hF
   subst c0
   have HPE2 := Lib.hid (show parseErr l = (if manyM M = true then 4 else (msgErr M : Int)) by rw [HPE.out, if_neg (fun e => e rfl)])
   clear HPE
   go_upto_region 10 with fail
   refine wp_region_lit ?_
   refine wp_val (by rfl) (.int .i64 0) (by go_simp) ?_
   simp only [pz]
   refine wp_val (by rfl) (.bool true) (by go_simp) ?_
   simp only [pz]
   refine wp_val (by rfl) (.bool true) (by go_simp) ?_
   simp only [pz]
   refine wp_val (by rfl) (M.val hh) (run_load_rmsg rfl (by rfl) hV) ?_
   simp only [pz]
   go_wp2_with fail
   refine (refmany_any wa M hh).mono ?_
   rintro e wb ⟨rfl, hy⟩
   have hZ := hZ.ext (msg_ne _ _) hy (fun h => h)
   have hV := hV.ext (msg_ne _ _) hy (fun h => h)
   have hKx := hKx.comp (hy.mono (fun _ _ h => h.elim))
   replace hx := hx.comp hy
   clear hy
   obtain ⟨mb, hmb⟩ : ∃ b, b = manyM M := ⟨_, rfl⟩
   rw [← hmb] at HPE2 ⊢
   clear hmb
   cases mb with
   | true =>
    obtain ⟨E, hE⟩ : ∃ E : Int, E = 4 := ⟨_, rfl⟩
    have HE0 := Lib.hid (show E ≠ 0 by omega)
    have HE := Lib.hid (show parseErr l = E by rw [HPE2.out, if_pos rfl, hE])
    clear HPE2
    subst hE
    go_upto_region 17 with fail
    refine wp_region_lit ?_
    refine wp_val (by rfl) (MsgR.zero.val MsgA.zero) (by kernel_rfl) ?_
    simp only [pz]
    refine wp_move (.int .i64 4) rfl rfl (by rfl) ?_
    simp only [pz]
    refine wp_store_rmsg (m := MsgR.zero) (h := MsgA.zero) rfl rfl (by rfl) (by rfl) hZ rfl (fun hF hy => ?_)
    simp only [pz]
    have hx4 := hx.fresh hy hwq
    generalize wb.setCells q 0 (MsgR.zero.cells MsgA.zero) = wz at *
    go_wp2_with fail
    refine bodyPost_ret (v := .tuple #[MsgR.zero.val MsgA.zero, .int .i64 4]) ?_ rfl (parseEnd_bad (by rw [HE.out]; exact HE0.out) (by rw [HE.out]) hx4)
    exact rparse_results rfl _ _ (by rfl) (by rfl) hF
   | false =>
    have HPE3 := Lib.hid (show parseErr l = (msgErr M : Int) by rw [HPE2.out, if_neg Bool.false_ne_true])
    clear HPE2
    have z14 := hV.cell 14 _ rfl
    go_wp2_with fail
    refine (xgood_any wb hh.c.o hh.c.oc M.cmd.ops (hKp _ wb hKx (fun k hk => hk)).c.o HFI.out.1.1 HFI.out.1.2).mono ?_
    rintro e wd ⟨rfl, hy⟩
    have hZ := hZ.ext (msg_ne _ _) hy (fun h => h)
    have hV := hV.ext (msg_ne _ _) hy (fun h => h)
    have hKx := hKx.comp (hy.mono (fun _ _ h => h.elim))
    replace hx := hx.comp hy
    clear hy z14
    obtain ⟨E, hE⟩ : ∃ E : Int, E = (opsErr M.cmd.ops : Nat) := ⟨_, rfl⟩
    have HPE4 := Lib.hid (show parseErr l = if E ≠ 0 then E else (opsErr M.ops : Int) by rw [HPE3.out, hE]; unfold msgErr; by_cases e : opsErr M.cmd.ops = 0 <;> simp [e])
    rw [← hE]
    clear hE HPE3
    by_cases c1 : E = 0
    rotate_left
    ·have d0 : (E == 0) = false := by rw [beq_eq_false_iff_ne]; exact c1
     have d1 : (E != 0) = true := by rw [bne_iff_ne]; exact c1
     have HE0 := Lib.hid c1
     have HE := Lib.hid (show parseErr l = E by rw [HPE4.out, if_pos c1])
     clear c1
     go_upto_region 17 with fail
     refine wp_region_lit ?_
     refine wp_val (by rfl) (MsgR.zero.val MsgA.zero) (by kernel_rfl) ?_
     simp only [pz]
     refine wp_move (.int .i64 E) rfl rfl (by rfl) ?_
     simp only [pz]
     refine wp_store_rmsg (m := MsgR.zero) (h := MsgA.zero) rfl rfl (by rfl) (by rfl) hZ rfl (fun hF hy => ?_)
     simp only [pz]
     have hx4 := hx.fresh hy hwq
     generalize wd.setCells q 0 (MsgR.zero.cells MsgA.zero) = wz at *
     go_wp2_with fail
     refine bodyPost_ret (v := .tuple #[MsgR.zero.val MsgA.zero, .int .i64 E]) ?_ rfl (parseEnd_bad (by rw [HE.out]; exact HE0.out) (by rw [HE.out]) hx4)
     exact rparse_results rfl _ _ (by rfl) (by rfl) hF
    subst c1
    have HPE5 := Lib.hid (show parseErr l = (opsErr M.ops : Int) by rw [HPE4.out, if_neg (fun e => e rfl)])
    clear HPE4
    have z24 := hV.cell 24 _ rfl
    go_wp2_with fail
    refine (xgood_any wd hh.o hh.oc M.ops (hKp _ wd hKx (fun k hk => hk)).o HFI.out.2.1 HFI.out.2.2).mono ?_
    rintro e wf ⟨rfl, hy⟩
    have hZ := hZ.ext (msg_ne _ _) hy (fun h => h)
    have hV := hV.ext (msg_ne _ _) hy (fun h => h)
    have hKx := hKx.comp (hy.mono (fun _ _ h => h.elim))
    replace hx := hx.comp hy
    clear hy z24
    obtain ⟨E, hE⟩ : ∃ E : Int, E = (opsErr M.ops : Nat) := ⟨_, rfl⟩
    have HE := Lib.hid (show parseErr l = E by rw [HPE5.out, hE])
    rw [← hE]
    clear hE HPE5
    by_cases c1 : E = 0
    rotate_left
    ·have d1 : (E != 0) = true := by rw [bne_iff_ne]; exact c1
     have HE0 := Lib.hid c1
     clear c1
     go_upto_region 17 with fail
     refine wp_region_lit ?_
     refine wp_val (by rfl) (MsgR.zero.val MsgA.zero) (by kernel_rfl) ?_
     simp only [pz]
     refine wp_move (.int .i64 E) rfl rfl (by rfl) ?_
     simp only [pz]
     refine wp_store_rmsg (m := MsgR.zero) (h := MsgA.zero) rfl rfl (by rfl) (by rfl) hZ rfl (fun hF hy => ?_)
     simp only [pz]
     have hx4 := hx.fresh hy hwq
     generalize wf.setCells q 0 (MsgR.zero.cells MsgA.zero) = wz at *
     go_wp2_with fail
     refine bodyPost_ret (v := .tuple #[MsgR.zero.val MsgA.zero, .int .i64 E]) ?_ rfl (parseEnd_bad (by rw [HE.out]; exact HE0.out) (by rw [HE.out]) hx4)
     exact rparse_results rfl _ _ (by rfl) (by rfl) hF
    subst c1
    have hPM := HPF.out.2 HE.out
    go_upto_region 18 with fail
    refine wp_region_lit ?_
    refine wp_load_rmsg (m := M) (h := hh) rfl rfl (by rfl) hV ?_
    simp only [pz]
    refine wp_store_rmsg (m := M) (h := hh) rfl rfl (by rfl) (by rfl) hZ rfl (fun hF hy => ?_)
    simp only [pz]
    have hx4 := hx.fresh hy hwq
    have hKy := hKx.comp (hy.mono (fun k _ e => .inl (by have e : k = q := e; omega)))
    generalize wf.setCells q 0 (M.cells hh) = wz at *
    go_wp2_with fail
    refine bodyPost_ret (v := .tuple #[M.val hh, .int .i64 0]) ?_ rfl ⟨hh, by rw [hPM, HE.out], ?_, hx4⟩
    ·exact rparse_results rfl _ _ (by rfl) (by rfl) hF
    ·rw [hPM]
     exact fun S wy hy hS => hKp _ wy (hKy.comp (hy.mono (fun k _ hk => by have := hS k hk; have := hKy.size; omega))) (fun k hk => hk)
end Go.Proofs.YtddobhihjljcgaaGreat
