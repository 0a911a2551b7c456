/- The reference's reader of a message's body. -/
import Derived.Test.YtddobhihjljcgaaGreatWxH
import Derived.Test.YtddobhihjljcgaaGreatWxM
namespace Go.Esc
open Go.RowKit
set_option linter.unusedVariables false
set_option linter.unusedSimpArgs false
/-- What stands behind a message's kind, as the reference reads it. -/
def xBody (k : Int) (s : RS) : MsgR × RS :=
 let a := rInt s
 let z : MsgR := { MsgR.zero with kind := k, dev := a.1 }
 if k = 1 then ({ z with cmd := (xCmd a.2).1 }, (xCmd a.2).2) else
 if k = 2 then
  let b := rInt a.2
  let c := rInt b.2
  ({ z with req := b.1, pos := c.1, rep := (xReply c.2).1 }, (xReply c.2).2) else
 if k = 3 then
  let b := rInt a.2
  let c := rInt b.2
  ({ z with ver := b.1, pos := c.1, subs := (pRow pSub 3 c.2).1 }, (pRow pSub 3 c.2).2) else
 if k = 4 then
  let b := rInt a.2
  let c := rInt b.2
  ({ z with pos := b.1, nxt := c.1, ops := (xOps c.2).1 }, (xOps c.2).2) else
 if k = 5 then
  let b := rInt a.2
  ({ z with req := b.1, err := (pErr b.2).1 }, (pErr b.2).2) else (z, a.2)
theorem xBody_state (k : Int) (s : RS) : (xBody k s).2 = (wBody k s).2 := by
 unfold xBody wBody
 simp only
 by_cases h1 : k = 1
 ·rw [if_pos h1, if_pos h1]; exact xCmd_state _
 ·rw [if_neg h1, if_neg h1]
  by_cases h2 : k = 2
  ·rw [if_pos h2, if_pos h2]; exact xReply_state _
  ·rw [if_neg h2, if_neg h2]
   by_cases h3 : k = 3
   ·rw [if_pos h3, if_pos h3]
   ·rw [if_neg h3, if_neg h3]
    by_cases h4 : k = 4
    ·rw [if_pos h4, if_pos h4]; exact xOps_state _
    ·rw [if_neg h4, if_neg h4]
theorem xBody_val (k : Int) (s : RS) (h : (wBody k s).2.e = 0) : (xBody k s).1 = (wBody k s).1 := by
 unfold wBody at h
 unfold xBody wBody
 simp only at *
 split
 ·rename_i hk; rw [if_pos hk] at h; rw [xCmd_val _ h]
 ·rename_i h1
  rw [if_neg h1] at h
  split
  ·rename_i hk; rw [if_pos hk] at h; rw [xReply_val _ h]
  ·rename_i h2
   rw [if_neg h2] at h
   split
   ·rfl
   ·rename_i h3
    rw [if_neg h3] at h
    split
    ·rename_i hk; rw [if_pos hk] at h; rw [xOps_list _ h]
    ·rfl
end Go.Esc
namespace Go.Proofs.YtddobhihjljcgaaGreat
open Go.RowKit Go.Esc
set_option linter.unusedVariables false
set_option linter.unusedSimpArgs false
def XBodyEnd (w : World) (g : Nat) (a : Option Addr) (c : Nat) (b : List UInt8) (s : RS) (k : Int) (e : Ending) (w' : World) : Prop :=
 ∃ h : MsgA, e = .returned ((xBody k s).1.val h) ∧ Kept w w' (fun wz => (xBody k s).1.In wz h) ∧ XRdr w' g a c b (xBody k s).2.l (xBody k s).2.e ∧ Ext (just g) w w'
set_option maxRecDepth 100000 in
set_option maxHeartbeats 8000000 in
theorem xbody_0 (w : World) (g : Nat) {a : Option Addr} {c : Nat} {b : List UInt8} (s0 : RS) {k : Int} (hk : k < 1 ∨ 5 < k) (h : XRdr w g a c b s0.l s0.e) :
  Calls Tryz.prog 36 #[.pointer (some ⟨g, 0, none⟩), (kindM k).val MsgA.zero] w (XBodyEnd w g a c b s0 k) := by
 have hgw := h.lt
 have hlow := fun hb ad ha => xrdr_low h hb ad ha
 go_enter Tryz.func36, Tryz.ntmps36
 go_upto_region 0 with fail
 refine wp_region_lit ?_
 refine wp_box_rmsg (m := kindM k) (h := MsgA.zero) rfl rfl (by rfl) (fun hC => ?_)
 simp only [pz]
 have hxa := Ext.alloc no w (.cells ((kindM k).cells MsgA.zero).toArray 42)
 obtain ⟨gm, h0⟩ : ∃ v, v = w.heap.size := ⟨_, rfl⟩
 rw [← h0] at hC ⊢
 have hwm : w.heap.size ≤ gm := by omega
 clear h0
 generalize w.alloc (.cells ((kindM k).cells MsgA.zero).toArray 42) = w1 at *
 refine wp_alloc_rmsg rfl rfl (fun hZ => ?_)
 simp only [pz]
 have hxb := Ext.alloc no w1 (.cells (MsgR.zero.cells MsgA.zero).toArray 42)
 have hml := hC.lt (msg_ne _ _)
 have hC := hC.ext (msg_ne _ _) hxb (fun h => h)
 obtain ⟨gz, h0⟩ : ∃ v, v = w1.heap.size := ⟨_, rfl⟩
 rw [← h0] at hZ hml ⊢
 clear h0
 have h := (h.no hxa).no hxb
 have hx : Ext (just g) w _ := (hxa.comp hxb).mono (fun _ _ e => e.elim)
 clear hxa hxb
 generalize w1.alloc (.cells (MsgR.zero.cells MsgA.zero).toArray 42) = u0 at *
 go_wp2_with fail
 refine (xint_any u0 g s0 h).mono ?_
 rintro e v1 ⟨rfl, h, hy⟩
 have hC := hC.ext (msg_ne _ _) hy (by simp only [Esc.just]; omega)
 have hZ := hZ.ext (msg_ne _ _) hy (by simp only [Esc.just]; omega)
 replace hx := hx.comp hy
 clear hy
 obtain ⟨i1, hn⟩ : ∃ n, n = (rInt s0).1 := ⟨_, rfl⟩
 obtain ⟨s1, hs⟩ : ∃ q, q = (rInt s0).2 := ⟨_, rfl⟩
 rw [← hs] at h
 rw [← hn]
 have HNi1 := Lib.hid hn
 have HSi1 := Lib.hid hs
 clear hn hs
 have cK := hC.cell 1 _ rfl
 have fK := hC.fr 1
 go_upto_region 2 with fail
 have hy : Ext (just gm) v1 (v1.setCell ⟨gm, 1, none⟩ (.int .i64 i1)) := Ext.setCell _ _ _ rfl
 have hC := hC.put 1 (.int .i64 i1) (by show 1 < 25; omega) (ds := ({ kindM k with dev := i1 } : MsgR).cells MsgA.zero) rfl
 have hZ := hZ.ext (msg_ne _ _) hy (fun e => by have e : gz = gm := e; omega)
 have h : XRdr (v1.setCell ⟨gm, 1, none⟩ (.int .i64 i1)) g a c b _ _ := h.ext hy (by simp only [Esc.just]; omega) (fun hb ad ha e => by have := hlow hb ad ha; have e : ad.block = gm := e; omega)
 replace hx : Ext (just g) w (v1.setCell ⟨gm, 1, none⟩ (.int .i64 i1)) := hx.trans hy (fun k hk e => by have e : k = gm := e; omega)
 clear hy cK fK
 generalize (v1.setCell ⟨gm, 1, none⟩ (.int .i64 i1)) = u1 at *
 have e0 : u1.cell? ⟨gm, 0, none⟩ = some (.int .i64 k) := hC.cell 0 _ rfl
 have t1 : (k == (1 : Int)) = false := by rw [beq_eq_false_iff_ne]; omega
 have t2 : (k == (2 : Int)) = false := by rw [beq_eq_false_iff_ne]; omega
 have t3 : (k == (3 : Int)) = false := by rw [beq_eq_false_iff_ne]; omega
 have t4 : (k == (4 : Int)) = false := by rw [beq_eq_false_iff_ne]; omega
 have t5 : (k == (5 : Int)) = false := by rw [beq_eq_false_iff_ne]; omega
 obtain ⟨M, hM⟩ : ∃ M : MsgR, M = { kindM k with dev := i1 } := ⟨_, rfl⟩
 have HB := Lib.hid (show xBody k s0 = (M, s1) by
  rw [hM]
  unfold xBody
  simp only [← HNi1.out, ← HSi1.out]
  rw [if_neg (by omega), if_neg (by omega), if_neg (by omega), if_neg (by omega), if_neg (by omega)]
  rfl)
 rw [← hM] at hC
 have HM := Lib.hid hM
 clear hM hk
 go_upto_region 26 with fail
 refine wp_region_lit ?_
 refine wp_load_rmsg (m := M) (h := MsgA.zero) rfl rfl (by rfl) hC ?_
 simp only [pz]
 refine wp_store_rmsg (m := M) (h := MsgA.zero) rfl rfl (by rfl) (by rfl) hZ rfl (fun hF hy => ?_)
 simp only [pz]
 have h : XRdr _ g a c b _ _ := h.ext hy (by simp only [Esc.just]; omega) (fun hb ad ha e => by have := hlow hb ad ha; have e : ad.block = gz := e; omega)
 replace hx : Ext (just g) w _ := hx.trans hy (fun k hk e => by have e : k = gz := e; omega)
 generalize u1.setCells gz 0 (MsgR.cells M MsgA.zero) = wz at *
 go_wp2_with fail
 refine bodyPost_ret (v := MsgR.val M MsgA.zero) ?_ rfl ⟨MsgA.zero, by rw [HB.out], ?_, by rw [HB.out]; exact h, hx⟩
 ·exact rmsg_result rfl _ _ (by rfl) hF
 ·rw [HB.out]
  intro S wy hy2 hS
  rw [HM.out]
  exact ⟨Rd.nil _ _, CmdR.In.zero _, ReplyR.In.zero _, OpsIn.nil _ _, Nat.le_refl _, Nat.zero_le _, Nat.le_refl _, Nat.zero_le _⟩
set_option maxRecDepth 100000 in
set_option maxHeartbeats 8000000 in
theorem xbody_5 (w : World) (g : Nat) {a : Option Addr} {c : Nat} {b : List UInt8} (s0 : RS) (h : XRdr w g a c b s0.l s0.e) :
  Calls Tryz.prog 36 #[.pointer (some ⟨g, 0, none⟩), (kindM 5).val MsgA.zero] w (XBodyEnd w g a c b s0 5) := by
 have hgw := h.lt
 have hlow := fun hb ad ha => xrdr_low h hb ad ha
 go_enter Tryz.func36, Tryz.ntmps36
 go_upto_region 0 with fail
 refine wp_region_lit ?_
 refine wp_box_rmsg (m := kindM 5) (h := MsgA.zero) rfl rfl (by rfl) (fun hC => ?_)
 simp only [pz]
 have hxa := Ext.alloc no w (.cells ((kindM 5).cells MsgA.zero).toArray 42)
 obtain ⟨gm, h0⟩ : ∃ v, v = w.heap.size := ⟨_, rfl⟩
 rw [← h0] at hC ⊢
 have hwm : w.heap.size ≤ gm := by omega
 clear h0
 generalize w.alloc (.cells ((kindM 5).cells MsgA.zero).toArray 42) = w1 at *
 refine wp_alloc_rmsg rfl rfl (fun hZ => ?_)
 simp only [pz]
 have hxb := Ext.alloc no w1 (.cells (MsgR.zero.cells MsgA.zero).toArray 42)
 have hml := hC.lt (msg_ne _ _)
 have hC := hC.ext (msg_ne _ _) hxb (fun h => h)
 obtain ⟨gz, h0⟩ : ∃ v, v = w1.heap.size := ⟨_, rfl⟩
 rw [← h0] at hZ hml ⊢
 clear h0
 have h := (h.no hxa).no hxb
 have hx : Ext (just g) w _ := (hxa.comp hxb).mono (fun _ _ e => e.elim)
 clear hxa hxb
 generalize w1.alloc (.cells (MsgR.zero.cells MsgA.zero).toArray 42) = u0 at *
 go_wp2_with fail
 refine (xint_any u0 g s0 h).mono ?_
 rintro e v1 ⟨rfl, h, hy⟩
 have hC := hC.ext (msg_ne _ _) hy (by simp only [Esc.just]; omega)
 have hZ := hZ.ext (msg_ne _ _) hy (by simp only [Esc.just]; omega)
 replace hx := hx.comp hy
 clear hy
 obtain ⟨i1, hn⟩ : ∃ n, n = (rInt s0).1 := ⟨_, rfl⟩
 obtain ⟨s1, hs⟩ : ∃ q, q = (rInt s0).2 := ⟨_, rfl⟩
 rw [← hs] at h
 rw [← hn]
 have HNi1 := Lib.hid hn
 have HSi1 := Lib.hid hs
 clear hn hs
 have cK := hC.cell 1 _ rfl
 have fK := hC.fr 1
 go_upto_region 2 with fail
 have hy : Ext (just gm) v1 (v1.setCell ⟨gm, 1, none⟩ (.int .i64 i1)) := Ext.setCell _ _ _ rfl
 have hC := hC.put 1 (.int .i64 i1) (by show 1 < 25; omega) (ds := ({ kindM 5 with dev := i1 } : MsgR).cells MsgA.zero) rfl
 have hZ := hZ.ext (msg_ne _ _) hy (fun e => by have e : gz = gm := e; omega)
 have h : XRdr (v1.setCell ⟨gm, 1, none⟩ (.int .i64 i1)) g a c b _ _ := h.ext hy (by simp only [Esc.just]; omega) (fun hb ad ha e => by have := hlow hb ad ha; have e : ad.block = gm := e; omega)
 replace hx : Ext (just g) w (v1.setCell ⟨gm, 1, none⟩ (.int .i64 i1)) := hx.trans hy (fun k hk e => by have e : k = gm := e; omega)
 clear hy cK fK
 generalize (v1.setCell ⟨gm, 1, none⟩ (.int .i64 i1)) = u1 at *
 have e0 : u1.cell? ⟨gm, 0, none⟩ = some (.int .i64 5) := hC.cell 0 _ rfl
 go_wp2_with fail
 refine (xint_any u1 g s1 h).mono ?_
 rintro e v2 ⟨rfl, h, hy⟩
 have hC := hC.ext (msg_ne _ _) hy (by simp only [Esc.just]; omega)
 have hZ := hZ.ext (msg_ne _ _) hy (by simp only [Esc.just]; omega)
 replace hx := hx.comp hy
 clear hy
 obtain ⟨i2, hn⟩ : ∃ n, n = (rInt s1).1 := ⟨_, rfl⟩
 obtain ⟨s2, hs⟩ : ∃ q, q = (rInt s1).2 := ⟨_, rfl⟩
 rw [← hs] at h
 rw [← hn]
 have HNi2 := Lib.hid hn
 have HSi2 := Lib.hid hs
 clear hn hs
 have cK := hC.cell 2 _ rfl
 have fK := hC.fr 2
 go_upto_region 25 with fail
 have hy : Ext (just gm) v2 (v2.setCell ⟨gm, 2, none⟩ (.int .i64 i2)) := Ext.setCell _ _ _ rfl
 have hC := hC.put 2 (.int .i64 i2) (by show 2 < 25; omega) (ds := ({ kindM 5 with dev := i1, req := i2 } : MsgR).cells MsgA.zero) rfl
 have hZ := hZ.ext (msg_ne _ _) hy (fun e => by have e : gz = gm := e; omega)
 have h : XRdr (v2.setCell ⟨gm, 2, none⟩ (.int .i64 i2)) g a c b _ _ := h.ext hy (by simp only [Esc.just]; omega) (fun hb ad ha e => by have := hlow hb ad ha; have e : ad.block = gm := e; omega)
 replace hx : Ext (just g) w (v2.setCell ⟨gm, 2, none⟩ (.int .i64 i2)) := hx.trans hy (fun k hk e => by have e : k = gm := e; omega)
 clear hy cK fK
 generalize (v2.setCell ⟨gm, 2, none⟩ (.int .i64 i2)) = u2 at *
 go_wp2_with fail
 refine (xerrno_any u2 g s2 h).mono ?_
 rintro e v3 ⟨rfl, h, hy⟩
 have hC := hC.ext (msg_ne _ _) hy (by simp only [Esc.just]; omega)
 have hZ := hZ.ext (msg_ne _ _) hy (by simp only [Esc.just]; omega)
 replace hx := hx.comp hy
 clear hy
 obtain ⟨i3, hn⟩ : ∃ n, n = (pErr s2).1 := ⟨_, rfl⟩
 obtain ⟨s3, hs⟩ : ∃ q, q = (pErr s2).2 := ⟨_, rfl⟩
 rw [← hs] at h
 rw [← hn]
 have HNi3 := Lib.hid hn
 have HSi3 := Lib.hid hs
 clear hn hs
 have cK := hC.cell 7 _ rfl
 have fK := hC.fr 7
 go_upto_region 26 with fail
 have hy : Ext (just gm) v3 (v3.setCell ⟨gm, 7, none⟩ (.int .i64 i3)) := Ext.setCell _ _ _ rfl
 have hC := hC.put 7 (.int .i64 i3) (by show 7 < 25; omega) (ds := ({ kindM 5 with dev := i1, req := i2, err := i3 } : MsgR).cells MsgA.zero) rfl
 have hZ := hZ.ext (msg_ne _ _) hy (fun e => by have e : gz = gm := e; omega)
 have h : XRdr (v3.setCell ⟨gm, 7, none⟩ (.int .i64 i3)) g a c b _ _ := h.ext hy (by simp only [Esc.just]; omega) (fun hb ad ha e => by have := hlow hb ad ha; have e : ad.block = gm := e; omega)
 replace hx : Ext (just g) w (v3.setCell ⟨gm, 7, none⟩ (.int .i64 i3)) := hx.trans hy (fun k hk e => by have e : k = gm := e; omega)
 clear hy cK fK
 generalize (v3.setCell ⟨gm, 7, none⟩ (.int .i64 i3)) = u3 at *
 obtain ⟨M, hM⟩ : ∃ M : MsgR, M = { kindM 5 with dev := i1, req := i2, err := i3 } := ⟨_, rfl⟩
 have HB := Lib.hid (show xBody 5 s0 = (M, s3) by
  rw [hM]
  unfold xBody
  simp only [← HNi1.out, ← HSi1.out, ← HNi2.out, ← HSi2.out, ← HNi3.out, ← HSi3.out]
  rfl)
 rw [← hM] at hC
 have HM := Lib.hid hM
 clear hM
 go_upto_region 26 with fail
 refine wp_region_lit ?_
 refine wp_load_rmsg (m := M) (h := MsgA.zero) rfl rfl (by rfl) hC ?_
 simp only [pz]
 refine wp_store_rmsg (m := M) (h := MsgA.zero) rfl rfl (by rfl) (by rfl) hZ rfl (fun hF hy => ?_)
 simp only [pz]
 have h : XRdr _ g a c b _ _ := h.ext hy (by simp only [Esc.just]; omega) (fun hb ad ha e => by have := hlow hb ad ha; have e : ad.block = gz := e; omega)
 replace hx : Ext (just g) w _ := hx.trans hy (fun k hk e => by have e : k = gz := e; omega)
 generalize u3.setCells gz 0 (MsgR.cells M MsgA.zero) = wz at *
 go_wp2_with fail
 refine bodyPost_ret (v := MsgR.val M MsgA.zero) ?_ rfl ⟨MsgA.zero, by rw [HB.out], ?_, by rw [HB.out]; exact h, hx⟩
 ·exact rmsg_result rfl _ _ (by rfl) hF
 ·rw [HB.out]
  intro S wy hy2 hS
  rw [HM.out]
  exact ⟨Rd.nil _ _, CmdR.In.zero _, ReplyR.In.zero _, OpsIn.nil _ _, Nat.le_refl _, Nat.zero_le _, Nat.le_refl _, Nat.zero_le _⟩
set_option maxRecDepth 100000 in
set_option maxHeartbeats 8000000 in
theorem xbody_4 (w : World) (g : Nat) {a : Option Addr} {c : Nat} {b : List UInt8} (s0 : RS) (h : XRdr w g a c b s0.l s0.e) :
  Calls Tryz.prog 36 #[.pointer (some ⟨g, 0, none⟩), (kindM 4).val MsgA.zero] w (XBodyEnd w g a c b s0 4) := by
 have hgw := h.lt
 have hlow := fun hb ad ha => xrdr_low h hb ad ha
 go_enter Tryz.func36, Tryz.ntmps36
 go_upto_region 0 with fail
 refine wp_region_lit ?_
 refine wp_box_rmsg (m := kindM 4) (h := MsgA.zero) rfl rfl (by rfl) (fun hC => ?_)
 simp only [pz]
 have hxa := Ext.alloc no w (.cells ((kindM 4).cells MsgA.zero).toArray 42)
 obtain ⟨gm, h0⟩ : ∃ v, v = w.heap.size := ⟨_, rfl⟩
 rw [← h0] at hC ⊢
 have hwm : w.heap.size ≤ gm := by omega
 clear h0
 generalize w.alloc (.cells ((kindM 4).cells MsgA.zero).toArray 42) = w1 at *
 refine wp_alloc_rmsg rfl rfl (fun hZ => ?_)
 simp only [pz]
 have hxb := Ext.alloc no w1 (.cells (MsgR.zero.cells MsgA.zero).toArray 42)
 have hml := hC.lt (msg_ne _ _)
 have hC := hC.ext (msg_ne _ _) hxb (fun h => h)
 obtain ⟨gz, h0⟩ : ∃ v, v = w1.heap.size := ⟨_, rfl⟩
 rw [← h0] at hZ hml ⊢
 clear h0
 have h := (h.no hxa).no hxb
 have hx : Ext (just g) w _ := (hxa.comp hxb).mono (fun _ _ e => e.elim)
 clear hxa hxb
 generalize w1.alloc (.cells (MsgR.zero.cells MsgA.zero).toArray 42) = u0 at *
 go_wp2_with fail
 refine (xint_any u0 g s0 h).mono ?_
 rintro e v1 ⟨rfl, h, hy⟩
 have hC := hC.ext (msg_ne _ _) hy (by simp only [Esc.just]; omega)
 have hZ := hZ.ext (msg_ne _ _) hy (by simp only [Esc.just]; omega)
 replace hx := hx.comp hy
 clear hy
 obtain ⟨i1, hn⟩ : ∃ n, n = (rInt s0).1 := ⟨_, rfl⟩
 obtain ⟨s1, hs⟩ : ∃ q, q = (rInt s0).2 := ⟨_, rfl⟩
 rw [← hs] at h
 rw [← hn]
 have HNi1 := Lib.hid hn
 have HSi1 := Lib.hid hs
 clear hn hs
 have cK := hC.cell 1 _ rfl
 have fK := hC.fr 1
 go_upto_region 2 with fail
 have hy : Ext (just gm) v1 (v1.setCell ⟨gm, 1, none⟩ (.int .i64 i1)) := Ext.setCell _ _ _ rfl
 have hC := hC.put 1 (.int .i64 i1) (by show 1 < 25; omega) (ds := ({ kindM 4 with dev := i1 } : MsgR).cells MsgA.zero) rfl
 have hZ := hZ.ext (msg_ne _ _) hy (fun e => by have e : gz = gm := e; omega)
 have h : XRdr (v1.setCell ⟨gm, 1, none⟩ (.int .i64 i1)) g a c b _ _ := h.ext hy (by simp only [Esc.just]; omega) (fun hb ad ha e => by have := hlow hb ad ha; have e : ad.block = gm := e; omega)
 replace hx : Ext (just g) w (v1.setCell ⟨gm, 1, none⟩ (.int .i64 i1)) := hx.trans hy (fun k hk e => by have e : k = gm := e; omega)
 clear hy cK fK
 generalize (v1.setCell ⟨gm, 1, none⟩ (.int .i64 i1)) = u1 at *
 have e0 : u1.cell? ⟨gm, 0, none⟩ = some (.int .i64 4) := hC.cell 0 _ rfl
 go_wp2_with fail
 refine (xint_any u1 g s1 h).mono ?_
 rintro e v2 ⟨rfl, h, hy⟩
 have hC := hC.ext (msg_ne _ _) hy (by simp only [Esc.just]; omega)
 have hZ := hZ.ext (msg_ne _ _) hy (by simp only [Esc.just]; omega)
 replace hx := hx.comp hy
 clear hy
 obtain ⟨i2, hn⟩ : ∃ n, n = (rInt s1).1 := ⟨_, rfl⟩
 obtain ⟨s2, hs⟩ : ∃ q, q = (rInt s1).2 := ⟨_, rfl⟩
 rw [← hs] at h
 rw [← hn]
 have HNi2 := Lib.hid hn
 have HSi2 := Lib.hid hs
 clear hn hs
 have cK := hC.cell 4 _ rfl
 have fK := hC.fr 4
 go_upto_region 21 with fail
 have hy : Ext (just gm) v2 (v2.setCell ⟨gm, 4, none⟩ (.int .i64 i2)) := Ext.setCell _ _ _ rfl
 have hC := hC.put 4 (.int .i64 i2) (by show 4 < 25; omega) (ds := ({ kindM 4 with dev := i1, pos := i2 } : MsgR).cells MsgA.zero) rfl
 have hZ := hZ.ext (msg_ne _ _) hy (fun e => by have e : gz = gm := e; omega)
 have h : XRdr (v2.setCell ⟨gm, 4, none⟩ (.int .i64 i2)) g a c b _ _ := h.ext hy (by simp only [Esc.just]; omega) (fun hb ad ha e => by have := hlow hb ad ha; have e : ad.block = gm := e; omega)
 replace hx : Ext (just g) w (v2.setCell ⟨gm, 4, none⟩ (.int .i64 i2)) := hx.trans hy (fun k hk e => by have e : k = gm := e; omega)
 clear hy cK fK
 generalize (v2.setCell ⟨gm, 4, none⟩ (.int .i64 i2)) = u2 at *
 go_wp2_with fail
 refine (xint_any u2 g s2 h).mono ?_
 rintro e v3 ⟨rfl, h, hy⟩
 have hC := hC.ext (msg_ne _ _) hy (by simp only [Esc.just]; omega)
 have hZ := hZ.ext (msg_ne _ _) hy (by simp only [Esc.just]; omega)
 replace hx := hx.comp hy
 clear hy
 obtain ⟨i3, hn⟩ : ∃ n, n = (rInt s2).1 := ⟨_, rfl⟩
 obtain ⟨s3, hs⟩ : ∃ q, q = (rInt s2).2 := ⟨_, rfl⟩
 rw [← hs] at h
 rw [← hn]
 have HNi3 := Lib.hid hn
 have HSi3 := Lib.hid hs
 clear hn hs
 have cK := hC.cell 5 _ rfl
 have fK := hC.fr 5
 go_upto_region 22 with fail
 have hy : Ext (just gm) v3 (v3.setCell ⟨gm, 5, none⟩ (.int .i64 i3)) := Ext.setCell _ _ _ rfl
 have hC := hC.put 5 (.int .i64 i3) (by show 5 < 25; omega) (ds := ({ kindM 4 with dev := i1, pos := i2, nxt := i3 } : MsgR).cells MsgA.zero) rfl
 have hZ := hZ.ext (msg_ne _ _) hy (fun e => by have e : gz = gm := e; omega)
 have h : XRdr (v3.setCell ⟨gm, 5, none⟩ (.int .i64 i3)) g a c b _ _ := h.ext hy (by simp only [Esc.just]; omega) (fun hb ad ha e => by have := hlow hb ad ha; have e : ad.block = gm := e; omega)
 replace hx : Ext (just g) w (v3.setCell ⟨gm, 5, none⟩ (.int .i64 i3)) := hx.trans hy (fun k hk e => by have e : k = gm := e; omega)
 clear hy cK fK
 generalize (v3.setCell ⟨gm, 5, none⟩ (.int .i64 i3)) = u3 at *
 have hzl := hZ.lt (msg_ne _ _)
 have hxl := hx.size
 go_wp2_with fail
 refine (xreadOps_any u3 g s3 h).mono ?_
 rintro e v4 ⟨a4, c4, G, rfl, hGm, hacc, h, hy⟩
 have hC := hC.ext (msg_ne _ _) hy (by simp only [Esc.just]; omega)
 have hZ := hZ.ext (msg_ne _ _) hy (by simp only [Esc.just]; omega)
 replace hx := hx.comp hy
 clear hy
 obtain ⟨lo, hlo⟩ : ∃ l, l = (xOps s3).1 := ⟨_, rfl⟩
 obtain ⟨s4, hs4⟩ : ∃ l, l = (xOps s3).2 := ⟨_, rfl⟩
 rw [← hlo] at hGm
 rw [← hs4] at h
 rw [← hlo]
 obtain ⟨M, hM⟩ : ∃ M : MsgR, M = { kindM 4 with dev := i1, pos := i2, nxt := i3, ops := lo } := ⟨_, rfl⟩
 have HB := Lib.hid (show xBody 4 s0 = (M, s4) by
  rw [hM]
  unfold xBody
  simp only [← HNi1.out, ← HSi1.out, ← HNi2.out, ← HSi2.out, ← HNi3.out, ← HSi3.out, ← hlo, ← hs4]
  rfl)
 clear hlo hs4
 have cK := hC.cell 24 _ rfl
 have fK := hC.fr 24
 go_upto_region 26 with fail
 have hy : Ext (just gm) v4 (v4.setCell ⟨gm, 24, none⟩ (.slice a4 lo.length c4)) := Ext.setCell _ _ _ rfl
 have hC := hC.put 24 (.slice a4 lo.length c4) (by show 24 < 25; omega) (ds := ({ kindM 4 with dev := i1, pos := i2, nxt := i3, ops := lo } : MsgR).cells { MsgA.zero with o := a4, oc := c4 }) rfl
 have hZ := hZ.ext (msg_ne _ _) hy (fun e => by have e : gz = gm := e; omega)
 have h : XRdr (v4.setCell ⟨gm, 24, none⟩ (.slice a4 lo.length c4)) g a c b _ _ := h.ext hy (by simp only [Esc.just]; omega) (fun hb ad ha e => by have := hlow hb ad ha; have e : ad.block = gm := e; omega)
 replace hx : Ext (just g) w (v4.setCell ⟨gm, 24, none⟩ (.slice a4 lo.length c4)) := hx.trans hy (fun k hk e => by have e : k = gm := e; omega)
 have hacc := hacc.low hy (fun k e => by have e : k = gm := e; omega)
 clear hy cK fK
 generalize (v4.setCell ⟨gm, 24, none⟩ (.slice a4 lo.length c4)) = u4 at *
 rw [← hM] at hC
 have HM := Lib.hid hM
 clear hM
 go_upto_region 26 with fail
 refine wp_region_lit ?_
 refine wp_load_rmsg (m := M) (h := { MsgA.zero with o := a4, oc := c4 }) rfl rfl (by rfl) hC ?_
 simp only [pz]
 refine wp_store_rmsg (m := M) (h := { MsgA.zero with o := a4, oc := c4 }) rfl rfl (by rfl) (by rfl) hZ rfl (fun hF hy => ?_)
 simp only [pz]
 have h : XRdr _ g a c b _ _ := h.ext hy (by simp only [Esc.just]; omega) (fun hb ad ha e => by have := hlow hb ad ha; have e : ad.block = gz := e; omega)
 replace hx : Ext (just g) w _ := hx.trans hy (fun k hk e => by have e : k = gz := e; omega)
 have hacc := hacc.low hy (fun k e => by have e : k = gz := e; omega)
 generalize u4.setCells gz 0 (MsgR.cells M { MsgA.zero with o := a4, oc := c4 }) = wz at *
 go_wp2_with fail
 refine bodyPost_ret (v := MsgR.val M { MsgA.zero with o := a4, oc := c4 }) ?_ rfl ⟨{ MsgA.zero with o := a4, oc := c4 }, by rw [HB.out], ?_, by rw [HB.out]; exact h, hx⟩
 ·exact rmsg_result rfl _ _ (by rfl) hF
 ·rw [HB.out]
  intro S wy hy2 hS
  have hacc2 := hacc.keep hy2 (fun k hk => by have := hS k hk; omega)
  have hin := hacc2.in
  rw [hGm] at hin
  rw [HM.out]
  exact ⟨Rd.nil _ _, CmdR.In.zero _, ReplyR.In.zero _, hin, Nat.le_refl _, Nat.zero_le _, by have := hacc2.own.nc; show lo.length ≤ c4; rw [← hGm, List.length_map]; exact this, hacc2.own.cm⟩
set_option maxRecDepth 100000 in
set_option maxHeartbeats 8000000 in
theorem xbody_1 (w : World) (g : Nat) {a : Option Addr} {c : Nat} {b : List UInt8} (s0 : RS) (h : XRdr w g a c b s0.l s0.e) :
  Calls Tryz.prog 36 #[.pointer (some ⟨g, 0, none⟩), (kindM 1).val MsgA.zero] w (XBodyEnd w g a c b s0 1) := by
 have hgw := h.lt
 have hlow := fun hb ad ha => xrdr_low h hb ad ha
 go_enter Tryz.func36, Tryz.ntmps36
 go_upto_region 0 with fail
 refine wp_region_lit ?_
 refine wp_box_rmsg (m := kindM 1) (h := MsgA.zero) rfl rfl (by rfl) (fun hC => ?_)
 simp only [pz]
 have hxa := Ext.alloc no w (.cells ((kindM 1).cells MsgA.zero).toArray 42)
 obtain ⟨gm, h0⟩ : ∃ v, v = w.heap.size := ⟨_, rfl⟩
 rw [← h0] at hC ⊢
 have hwm : w.heap.size ≤ gm := by omega
 clear h0
 generalize w.alloc (.cells ((kindM 1).cells MsgA.zero).toArray 42) = w1 at *
 refine wp_alloc_rmsg rfl rfl (fun hZ => ?_)
 simp only [pz]
 have hxb := Ext.alloc no w1 (.cells (MsgR.zero.cells MsgA.zero).toArray 42)
 have hml := hC.lt (msg_ne _ _)
 have hC := hC.ext (msg_ne _ _) hxb (fun h => h)
 obtain ⟨gz, h0⟩ : ∃ v, v = w1.heap.size := ⟨_, rfl⟩
 rw [← h0] at hZ hml ⊢
 clear h0
 have h := (h.no hxa).no hxb
 have hx : Ext (just g) w _ := (hxa.comp hxb).mono (fun _ _ e => e.elim)
 clear hxa hxb
 generalize w1.alloc (.cells (MsgR.zero.cells MsgA.zero).toArray 42) = u0 at *
 go_wp2_with fail
 refine (xint_any u0 g s0 h).mono ?_
 rintro e v1 ⟨rfl, h, hy⟩
 have hC := hC.ext (msg_ne _ _) hy (by simp only [Esc.just]; omega)
 have hZ := hZ.ext (msg_ne _ _) hy (by simp only [Esc.just]; omega)
 replace hx := hx.comp hy
 clear hy
 obtain ⟨i1, hn⟩ : ∃ n, n = (rInt s0).1 := ⟨_, rfl⟩
 obtain ⟨s1, hs⟩ : ∃ q, q = (rInt s0).2 := ⟨_, rfl⟩
 rw [← hs] at h
 rw [← hn]
 have HNi1 := Lib.hid hn
 have HSi1 := Lib.hid hs
 clear hn hs
 have cK := hC.cell 1 _ rfl
 have fK := hC.fr 1
 go_upto_region 2 with fail
 have hy : Ext (just gm) v1 (v1.setCell ⟨gm, 1, none⟩ (.int .i64 i1)) := Ext.setCell _ _ _ rfl
 have hC := hC.put 1 (.int .i64 i1) (by show 1 < 25; omega) (ds := ({ kindM 1 with dev := i1 } : MsgR).cells MsgA.zero) rfl
 have hZ := hZ.ext (msg_ne _ _) hy (fun e => by have e : gz = gm := e; omega)
 have h : XRdr (v1.setCell ⟨gm, 1, none⟩ (.int .i64 i1)) g a c b _ _ := h.ext hy (by simp only [Esc.just]; omega) (fun hb ad ha e => by have := hlow hb ad ha; have e : ad.block = gm := e; omega)
 replace hx : Ext (just g) w (v1.setCell ⟨gm, 1, none⟩ (.int .i64 i1)) := hx.trans hy (fun k hk e => by have e : k = gm := e; omega)
 clear hy cK fK
 generalize (v1.setCell ⟨gm, 1, none⟩ (.int .i64 i1)) = u1 at *
 have e0 : u1.cell? ⟨gm, 0, none⟩ = some (.int .i64 1) := hC.cell 0 _ rfl
 have hzl := hZ.lt (msg_ne _ _)
 have hxl := hx.size
 have hgl : gm < u1.heap.size ∧ gz < u1.heap.size := ⟨hC.lt (msg_ne _ _), hZ.lt (msg_ne _ _)⟩
 go_wp2_with fail
 refine (xreadCmd_any u1 g s1 h).mono ?_
 rintro e v2 ⟨kc, rfl, hK, h, hy⟩
 have hC := hC.ext (msg_ne _ _) hy (by simp only [Esc.just]; omega)
 have hZ := hZ.ext (msg_ne _ _) hy (by simp only [Esc.just]; omega)
 replace hx := hx.comp hy
 clear hy
 obtain ⟨cm, hcm⟩ : ∃ l, l = (xCmd s1).1 := ⟨_, rfl⟩
 obtain ⟨s2, hst⟩ : ∃ l, l = (xCmd s1).2 := ⟨_, rfl⟩
 rw [← hcm] at hK
 rw [← hst] at h
 rw [← hcm]
 obtain ⟨M, hM⟩ : ∃ M : MsgR, M = { kindM 1 with dev := i1, cmd := cm } := ⟨_, rfl⟩
 have HB := Lib.hid (show xBody 1 s0 = (M, s2) by
  rw [hM]
  unfold xBody
  simp only [← HNi1.out, ← HSi1.out, ← hcm, ← hst]
  rfl)
 clear hcm hst
 unfold CmdR.val
 have e8 := hC.cell 8 _ rfl
 have e9 := hC.cell 9 _ rfl
 have e10 := hC.cell 10 _ rfl
 have e11 := hC.cell 11 _ rfl
 have e12 := hC.cell 12 _ rfl
 have e13 := hC.cell 13 _ rfl
 have e14 := hC.cell 14 _ rfl
 have f8 := hC.fr 8
 have f9 := hC.fr 9
 have f10 := hC.fr 10
 have f11 := hC.fr 11
 have f12 := hC.fr 12
 have f13 := hC.fr 13
 have f14 := hC.fr 14
 go_upto_region 26 with fail
 have hy : Ext (just gm) v2 (((((((v2.setCell ⟨gm, 8, none⟩ (.int .i64 cm.kind)).setCell ⟨gm, 9, none⟩ (.int .i64 cm.dev)).setCell ⟨gm, 10, none⟩ (.int .i64 cm.ep)).setCell ⟨gm, 11, none⟩ (.int .i64 cm.req)).setCell ⟨gm, 12, none⟩ (.int .i64 cm.n)).setCell ⟨gm, 13, none⟩ (.slice kc.w cm.wants.length kc.wc)).setCell ⟨gm, 14, none⟩ (.slice kc.o cm.ops.length kc.oc)) := ((((((((Ext.refl (just gm) v2).comp (Ext.at _ gm 8 (.int .i64 cm.kind))).comp (Ext.at _ gm 9 (.int .i64 cm.dev))).comp (Ext.at _ gm 10 (.int .i64 cm.ep))).comp (Ext.at _ gm 11 (.int .i64 cm.req))).comp (Ext.at _ gm 12 (.int .i64 cm.n))).comp (Ext.at _ gm 13 (.slice kc.w cm.wants.length kc.wc))).comp (Ext.at _ gm 14 (.slice kc.o cm.ops.length kc.oc)))
 have hq := (((((((hC.set 8 (.int .i64 cm.kind) (by show 8 < 25; omega)).set 9 (.int .i64 cm.dev) (by show 9 < 25; omega)).set 10 (.int .i64 cm.ep) (by show 10 < 25; omega)).set 11 (.int .i64 cm.req) (by show 11 < 25; omega)).set 12 (.int .i64 cm.n) (by show 12 < 25; omega)).set 13 (.slice kc.w cm.wants.length kc.wc) (by show 13 < 25; omega)).set 14 (.slice kc.o cm.ops.length kc.oc) (by show 14 < 25; omega))
 have hC : Blk (((((((v2.setCell ⟨gm, 8, none⟩ (.int .i64 cm.kind)).setCell ⟨gm, 9, none⟩ (.int .i64 cm.dev)).setCell ⟨gm, 10, none⟩ (.int .i64 cm.ep)).setCell ⟨gm, 11, none⟩ (.int .i64 cm.req)).setCell ⟨gm, 12, none⟩ (.int .i64 cm.n)).setCell ⟨gm, 13, none⟩ (.slice kc.w cm.wants.length kc.wc)).setCell ⟨gm, 14, none⟩ (.slice kc.o cm.ops.length kc.oc)) gm (({ kindM 1 with dev := i1, cmd := cm } : MsgR).cells { MsgA.zero with c := kc }) := hq
 clear hq e8 f8 e9 f9 e10 f10 e11 f11 e12 f12 e13 f13 e14 f14
 have hZ := hZ.ext (msg_ne _ _) hy (fun e => by have e : gz = gm := e; omega)
 have h : XRdr (((((((v2.setCell ⟨gm, 8, none⟩ (.int .i64 cm.kind)).setCell ⟨gm, 9, none⟩ (.int .i64 cm.dev)).setCell ⟨gm, 10, none⟩ (.int .i64 cm.ep)).setCell ⟨gm, 11, none⟩ (.int .i64 cm.req)).setCell ⟨gm, 12, none⟩ (.int .i64 cm.n)).setCell ⟨gm, 13, none⟩ (.slice kc.w cm.wants.length kc.wc)).setCell ⟨gm, 14, none⟩ (.slice kc.o cm.ops.length kc.oc)) g a c b _ _ := h.ext hy (by simp only [Esc.just]; omega) (fun hb ad ha e => by have := hlow hb ad ha; have e : ad.block = gm := e; omega)
 replace hx : Ext (just g) w (((((((v2.setCell ⟨gm, 8, none⟩ (.int .i64 cm.kind)).setCell ⟨gm, 9, none⟩ (.int .i64 cm.dev)).setCell ⟨gm, 10, none⟩ (.int .i64 cm.ep)).setCell ⟨gm, 11, none⟩ (.int .i64 cm.req)).setCell ⟨gm, 12, none⟩ (.int .i64 cm.n)).setCell ⟨gm, 13, none⟩ (.slice kc.w cm.wants.length kc.wc)).setCell ⟨gm, 14, none⟩ (.slice kc.o cm.ops.length kc.oc)) := hx.trans hy (fun k hk e => by have e : k = gm := e; omega)
 have hX2 : Ext (fun k => k = gm ∨ k = gz) v2 (((((((v2.setCell ⟨gm, 8, none⟩ (.int .i64 cm.kind)).setCell ⟨gm, 9, none⟩ (.int .i64 cm.dev)).setCell ⟨gm, 10, none⟩ (.int .i64 cm.ep)).setCell ⟨gm, 11, none⟩ (.int .i64 cm.req)).setCell ⟨gm, 12, none⟩ (.int .i64 cm.n)).setCell ⟨gm, 13, none⟩ (.slice kc.w cm.wants.length kc.wc)).setCell ⟨gm, 14, none⟩ (.slice kc.o cm.ops.length kc.oc)) := hy.mono (fun _ _ e => .inl e)
 clear hy
 generalize (((((((v2.setCell ⟨gm, 8, none⟩ (.int .i64 cm.kind)).setCell ⟨gm, 9, none⟩ (.int .i64 cm.dev)).setCell ⟨gm, 10, none⟩ (.int .i64 cm.ep)).setCell ⟨gm, 11, none⟩ (.int .i64 cm.req)).setCell ⟨gm, 12, none⟩ (.int .i64 cm.n)).setCell ⟨gm, 13, none⟩ (.slice kc.w cm.wants.length kc.wc)).setCell ⟨gm, 14, none⟩ (.slice kc.o cm.ops.length kc.oc)) = u2 at *
 rw [← hM] at hC
 have HM := Lib.hid hM
 clear hM
 have hs2 := hx.size
 go_upto_region 26 with fail
 refine wp_region_lit ?_
 refine wp_load_rmsg (m := M) (h := { MsgA.zero with c := kc }) rfl rfl (by rfl) hC ?_
 simp only [pz]
 refine wp_store_rmsg (m := M) (h := { MsgA.zero with c := kc }) rfl rfl (by rfl) (by rfl) hZ rfl (fun hF hy => ?_)
 simp only [pz]
 have h : XRdr _ g a c b _ _ := h.ext hy (by simp only [Esc.just]; omega) (fun hb ad ha e => by have := hlow hb ad ha; have e : ad.block = gz := e; omega)
 replace hx : Ext (just g) w _ := hx.trans hy (fun k hk e => by have e : k = gz := e; omega)
 have hX3 : Ext (fun k => k = gm ∨ k = gz) _ _ := hX2.comp (hy.mono (fun _ _ e => .inr e))
 generalize u2.setCells gz 0 (MsgR.cells M { MsgA.zero with c := kc }) = wz at *
 go_wp2_with fail
 refine bodyPost_ret (v := MsgR.val M { MsgA.zero with c := kc }) ?_ rfl ⟨{ MsgA.zero with c := kc }, by rw [HB.out], ?_, by rw [HB.out]; exact h, hx⟩
 ·exact rmsg_result rfl _ _ (by rfl) hF
 ·rw [HB.out]
  intro S wy hy2 hS
  rw [HM.out]
  have hs9 := hX3.size
  have hci := hK (fun k => S k ∨ k = gm ∨ k = gz) wy ((hX3.mono (fun k _ e => .inr e)).comp (hy2.mono (fun k _ e => .inl e))) (fun k hk => hk.elim (fun e => by have := hS k e; omega) (fun e => by rcases e with e | e <;> omega))
  exact ⟨Rd.nil _ _, hci, ReplyR.In.zero _, OpsIn.nil _ _, Nat.le_refl _, Nat.zero_le _, Nat.le_refl _, Nat.zero_le _⟩
set_option maxRecDepth 100000 in
set_option maxHeartbeats 8000000 in
theorem xbody_2 (w : World) (g : Nat) {a : Option Addr} {c : Nat} {b : List UInt8} (s0 : RS) (h : XRdr w g a c b s0.l s0.e) :
  Calls Tryz.prog 36 #[.pointer (some ⟨g, 0, none⟩), (kindM 2).val MsgA.zero] w (XBodyEnd w g a c b s0 2) := by
 have hgw := h.lt
 have hlow := fun hb ad ha => xrdr_low h hb ad ha
 go_enter Tryz.func36, Tryz.ntmps36
 go_upto_region 0 with fail
 refine wp_region_lit ?_
 refine wp_box_rmsg (m := kindM 2) (h := MsgA.zero) rfl rfl (by rfl) (fun hC => ?_)
 simp only [pz]
 have hxa := Ext.alloc no w (.cells ((kindM 2).cells MsgA.zero).toArray 42)
 obtain ⟨gm, h0⟩ : ∃ v, v = w.heap.size := ⟨_, rfl⟩
 rw [← h0] at hC ⊢
 have hwm : w.heap.size ≤ gm := by omega
 clear h0
 generalize w.alloc (.cells ((kindM 2).cells MsgA.zero).toArray 42) = w1 at *
 refine wp_alloc_rmsg rfl rfl (fun hZ => ?_)
 simp only [pz]
 have hxb := Ext.alloc no w1 (.cells (MsgR.zero.cells MsgA.zero).toArray 42)
 have hml := hC.lt (msg_ne _ _)
 have hC := hC.ext (msg_ne _ _) hxb (fun h => h)
 obtain ⟨gz, h0⟩ : ∃ v, v = w1.heap.size := ⟨_, rfl⟩
 rw [← h0] at hZ hml ⊢
 clear h0
 have h := (h.no hxa).no hxb
 have hx : Ext (just g) w _ := (hxa.comp hxb).mono (fun _ _ e => e.elim)
 clear hxa hxb
 generalize w1.alloc (.cells (MsgR.zero.cells MsgA.zero).toArray 42) = u0 at *
 go_wp2_with fail
 refine (xint_any u0 g s0 h).mono ?_
 rintro e v1 ⟨rfl, h, hy⟩
 have hC := hC.ext (msg_ne _ _) hy (by simp only [Esc.just]; omega)
 have hZ := hZ.ext (msg_ne _ _) hy (by simp only [Esc.just]; omega)
 replace hx := hx.comp hy
 clear hy
 obtain ⟨i1, hn⟩ : ∃ n, n = (rInt s0).1 := ⟨_, rfl⟩
 obtain ⟨s1, hs⟩ : ∃ q, q = (rInt s0).2 := ⟨_, rfl⟩
 rw [← hs] at h
 rw [← hn]
 have HNi1 := Lib.hid hn
 have HSi1 := Lib.hid hs
 clear hn hs
 have cK := hC.cell 1 _ rfl
 have fK := hC.fr 1
 go_upto_region 2 with fail
 have hy : Ext (just gm) v1 (v1.setCell ⟨gm, 1, none⟩ (.int .i64 i1)) := Ext.setCell _ _ _ rfl
 have hC := hC.put 1 (.int .i64 i1) (by show 1 < 25; omega) (ds := ({ kindM 2 with dev := i1 } : MsgR).cells MsgA.zero) rfl
 have hZ := hZ.ext (msg_ne _ _) hy (fun e => by have e : gz = gm := e; omega)
 have h : XRdr (v1.setCell ⟨gm, 1, none⟩ (.int .i64 i1)) g a c b _ _ := h.ext hy (by simp only [Esc.just]; omega) (fun hb ad ha e => by have := hlow hb ad ha; have e : ad.block = gm := e; omega)
 replace hx : Ext (just g) w (v1.setCell ⟨gm, 1, none⟩ (.int .i64 i1)) := hx.trans hy (fun k hk e => by have e : k = gm := e; omega)
 clear hy cK fK
 generalize (v1.setCell ⟨gm, 1, none⟩ (.int .i64 i1)) = u1 at *
 have e0 : u1.cell? ⟨gm, 0, none⟩ = some (.int .i64 2) := hC.cell 0 _ rfl
 go_wp2_with fail
 refine (xint_any u1 g s1 h).mono ?_
 rintro e v2 ⟨rfl, h, hy⟩
 have hC := hC.ext (msg_ne _ _) hy (by simp only [Esc.just]; omega)
 have hZ := hZ.ext (msg_ne _ _) hy (by simp only [Esc.just]; omega)
 replace hx := hx.comp hy
 clear hy
 obtain ⟨i2, hn⟩ : ∃ n, n = (rInt s1).1 := ⟨_, rfl⟩
 obtain ⟨s2, hs⟩ : ∃ q, q = (rInt s1).2 := ⟨_, rfl⟩
 rw [← hs] at h
 rw [← hn]
 have HNi2 := Lib.hid hn
 have HSi2 := Lib.hid hs
 clear hn hs
 have cK := hC.cell 2 _ rfl
 have fK := hC.fr 2
 go_upto_region 7 with fail
 have hy : Ext (just gm) v2 (v2.setCell ⟨gm, 2, none⟩ (.int .i64 i2)) := Ext.setCell _ _ _ rfl
 have hC := hC.put 2 (.int .i64 i2) (by show 2 < 25; omega) (ds := ({ kindM 2 with dev := i1, req := i2 } : MsgR).cells MsgA.zero) rfl
 have hZ := hZ.ext (msg_ne _ _) hy (fun e => by have e : gz = gm := e; omega)
 have h : XRdr (v2.setCell ⟨gm, 2, none⟩ (.int .i64 i2)) g a c b _ _ := h.ext hy (by simp only [Esc.just]; omega) (fun hb ad ha e => by have := hlow hb ad ha; have e : ad.block = gm := e; omega)
 replace hx : Ext (just g) w (v2.setCell ⟨gm, 2, none⟩ (.int .i64 i2)) := hx.trans hy (fun k hk e => by have e : k = gm := e; omega)
 clear hy cK fK
 generalize (v2.setCell ⟨gm, 2, none⟩ (.int .i64 i2)) = u2 at *
 go_wp2_with fail
 refine (xint_any u2 g s2 h).mono ?_
 rintro e v3 ⟨rfl, h, hy⟩
 have hC := hC.ext (msg_ne _ _) hy (by simp only [Esc.just]; omega)
 have hZ := hZ.ext (msg_ne _ _) hy (by simp only [Esc.just]; omega)
 replace hx := hx.comp hy
 clear hy
 obtain ⟨i3, hn⟩ : ∃ n, n = (rInt s2).1 := ⟨_, rfl⟩
 obtain ⟨s3, hs⟩ : ∃ q, q = (rInt s2).2 := ⟨_, rfl⟩
 rw [← hs] at h
 rw [← hn]
 have HNi3 := Lib.hid hn
 have HSi3 := Lib.hid hs
 clear hn hs
 have cK := hC.cell 4 _ rfl
 have fK := hC.fr 4
 go_upto_region 8 with fail
 have hy : Ext (just gm) v3 (v3.setCell ⟨gm, 4, none⟩ (.int .i64 i3)) := Ext.setCell _ _ _ rfl
 have hC := hC.put 4 (.int .i64 i3) (by show 4 < 25; omega) (ds := ({ kindM 2 with dev := i1, req := i2, pos := i3 } : MsgR).cells MsgA.zero) rfl
 have hZ := hZ.ext (msg_ne _ _) hy (fun e => by have e : gz = gm := e; omega)
 have h : XRdr (v3.setCell ⟨gm, 4, none⟩ (.int .i64 i3)) g a c b _ _ := h.ext hy (by simp only [Esc.just]; omega) (fun hb ad ha e => by have := hlow hb ad ha; have e : ad.block = gm := e; omega)
 replace hx : Ext (just g) w (v3.setCell ⟨gm, 4, none⟩ (.int .i64 i3)) := hx.trans hy (fun k hk e => by have e : k = gm := e; omega)
 clear hy cK fK
 generalize (v3.setCell ⟨gm, 4, none⟩ (.int .i64 i3)) = u3 at *
 have hzl := hZ.lt (msg_ne _ _)
 have hxl := hx.size
 have hgl : gm < u3.heap.size ∧ gz < u3.heap.size := ⟨hC.lt (msg_ne _ _), hZ.lt (msg_ne _ _)⟩
 go_wp2_with fail
 refine (xreadReply_any u3 g s3 h).mono ?_
 rintro e v4 ⟨kc, rfl, hK, h, hy⟩
 have hC := hC.ext (msg_ne _ _) hy (by simp only [Esc.just]; omega)
 have hZ := hZ.ext (msg_ne _ _) hy (by simp only [Esc.just]; omega)
 replace hx := hx.comp hy
 clear hy
 obtain ⟨cm, hcm⟩ : ∃ l, l = (xReply s3).1 := ⟨_, rfl⟩
 obtain ⟨s4, hst⟩ : ∃ l, l = (xReply s3).2 := ⟨_, rfl⟩
 rw [← hcm] at hK
 rw [← hst] at h
 rw [← hcm]
 obtain ⟨M, hM⟩ : ∃ M : MsgR, M = { kindM 2 with dev := i1, req := i2, pos := i3, rep := cm } := ⟨_, rfl⟩
 have HB := Lib.hid (show xBody 2 s0 = (M, s4) by
  rw [hM]
  unfold xBody
  simp only [← HNi1.out, ← HSi1.out, ← HNi2.out, ← HSi2.out, ← HNi3.out, ← HSi3.out, ← hcm, ← hst]
  rfl)
 clear hcm hst
 unfold ReplyR.val
 have e15 := hC.cell 15 _ rfl
 have e16 := hC.cell 16 _ rfl
 have e17 := hC.cell 17 _ rfl
 have e18 := hC.cell 18 _ rfl
 have e19 := hC.cell 19 _ rfl
 have e20 := hC.cell 20 _ rfl
 have e21 := hC.cell 21 _ rfl
 have e22 := hC.cell 22 _ rfl
 have e23 := hC.cell 23 _ rfl
 have f15 := hC.fr 15
 have f16 := hC.fr 16
 have f17 := hC.fr 17
 have f18 := hC.fr 18
 have f19 := hC.fr 19
 have f20 := hC.fr 20
 have f21 := hC.fr 21
 have f22 := hC.fr 22
 have f23 := hC.fr 23
 go_upto_region 26 with fail
 have hy : Ext (just gm) v4 (((((((((v4.setCell ⟨gm, 15, none⟩ (.int .i64 cm.err)).setCell ⟨gm, 16, none⟩ (.int .i64 cm.n)).setCell ⟨gm, 17, none⟩ (.int .i64 cm.dev)).setCell ⟨gm, 18, none⟩ (.int .i64 cm.ep)).setCell ⟨gm, 19, none⟩ (.int .i64 cm.til)).setCell ⟨gm, 20, none⟩ (.int .i64 cm.last)).setCell ⟨gm, 21, none⟩ (.slice kc.s cm.slices.length kc.sc)).setCell ⟨gm, 22, none⟩ (.slice kc.i cm.ids.length kc.ic)).setCell ⟨gm, 23, none⟩ (.slice kc.u cm.used.length kc.uc)) := ((((((((((Ext.refl (just gm) v4).comp (Ext.at _ gm 15 (.int .i64 cm.err))).comp (Ext.at _ gm 16 (.int .i64 cm.n))).comp (Ext.at _ gm 17 (.int .i64 cm.dev))).comp (Ext.at _ gm 18 (.int .i64 cm.ep))).comp (Ext.at _ gm 19 (.int .i64 cm.til))).comp (Ext.at _ gm 20 (.int .i64 cm.last))).comp (Ext.at _ gm 21 (.slice kc.s cm.slices.length kc.sc))).comp (Ext.at _ gm 22 (.slice kc.i cm.ids.length kc.ic))).comp (Ext.at _ gm 23 (.slice kc.u cm.used.length kc.uc)))
 have hq := (((((((((hC.set 15 (.int .i64 cm.err) (by show 15 < 25; omega)).set 16 (.int .i64 cm.n) (by show 16 < 25; omega)).set 17 (.int .i64 cm.dev) (by show 17 < 25; omega)).set 18 (.int .i64 cm.ep) (by show 18 < 25; omega)).set 19 (.int .i64 cm.til) (by show 19 < 25; omega)).set 20 (.int .i64 cm.last) (by show 20 < 25; omega)).set 21 (.slice kc.s cm.slices.length kc.sc) (by show 21 < 25; omega)).set 22 (.slice kc.i cm.ids.length kc.ic) (by show 22 < 25; omega)).set 23 (.slice kc.u cm.used.length kc.uc) (by show 23 < 25; omega))
 have hC : Blk (((((((((v4.setCell ⟨gm, 15, none⟩ (.int .i64 cm.err)).setCell ⟨gm, 16, none⟩ (.int .i64 cm.n)).setCell ⟨gm, 17, none⟩ (.int .i64 cm.dev)).setCell ⟨gm, 18, none⟩ (.int .i64 cm.ep)).setCell ⟨gm, 19, none⟩ (.int .i64 cm.til)).setCell ⟨gm, 20, none⟩ (.int .i64 cm.last)).setCell ⟨gm, 21, none⟩ (.slice kc.s cm.slices.length kc.sc)).setCell ⟨gm, 22, none⟩ (.slice kc.i cm.ids.length kc.ic)).setCell ⟨gm, 23, none⟩ (.slice kc.u cm.used.length kc.uc)) gm (({ kindM 2 with dev := i1, req := i2, pos := i3, rep := cm } : MsgR).cells { MsgA.zero with r := kc }) := hq
 clear hq e15 f15 e16 f16 e17 f17 e18 f18 e19 f19 e20 f20 e21 f21 e22 f22 e23 f23
 have hZ := hZ.ext (msg_ne _ _) hy (fun e => by have e : gz = gm := e; omega)
 have h : XRdr (((((((((v4.setCell ⟨gm, 15, none⟩ (.int .i64 cm.err)).setCell ⟨gm, 16, none⟩ (.int .i64 cm.n)).setCell ⟨gm, 17, none⟩ (.int .i64 cm.dev)).setCell ⟨gm, 18, none⟩ (.int .i64 cm.ep)).setCell ⟨gm, 19, none⟩ (.int .i64 cm.til)).setCell ⟨gm, 20, none⟩ (.int .i64 cm.last)).setCell ⟨gm, 21, none⟩ (.slice kc.s cm.slices.length kc.sc)).setCell ⟨gm, 22, none⟩ (.slice kc.i cm.ids.length kc.ic)).setCell ⟨gm, 23, none⟩ (.slice kc.u cm.used.length kc.uc)) g a c b _ _ := h.ext hy (by simp only [Esc.just]; omega) (fun hb ad ha e => by have := hlow hb ad ha; have e : ad.block = gm := e; omega)
 replace hx : Ext (just g) w (((((((((v4.setCell ⟨gm, 15, none⟩ (.int .i64 cm.err)).setCell ⟨gm, 16, none⟩ (.int .i64 cm.n)).setCell ⟨gm, 17, none⟩ (.int .i64 cm.dev)).setCell ⟨gm, 18, none⟩ (.int .i64 cm.ep)).setCell ⟨gm, 19, none⟩ (.int .i64 cm.til)).setCell ⟨gm, 20, none⟩ (.int .i64 cm.last)).setCell ⟨gm, 21, none⟩ (.slice kc.s cm.slices.length kc.sc)).setCell ⟨gm, 22, none⟩ (.slice kc.i cm.ids.length kc.ic)).setCell ⟨gm, 23, none⟩ (.slice kc.u cm.used.length kc.uc)) := hx.trans hy (fun k hk e => by have e : k = gm := e; omega)
 have hX2 : Ext (fun k => k = gm ∨ k = gz) v4 (((((((((v4.setCell ⟨gm, 15, none⟩ (.int .i64 cm.err)).setCell ⟨gm, 16, none⟩ (.int .i64 cm.n)).setCell ⟨gm, 17, none⟩ (.int .i64 cm.dev)).setCell ⟨gm, 18, none⟩ (.int .i64 cm.ep)).setCell ⟨gm, 19, none⟩ (.int .i64 cm.til)).setCell ⟨gm, 20, none⟩ (.int .i64 cm.last)).setCell ⟨gm, 21, none⟩ (.slice kc.s cm.slices.length kc.sc)).setCell ⟨gm, 22, none⟩ (.slice kc.i cm.ids.length kc.ic)).setCell ⟨gm, 23, none⟩ (.slice kc.u cm.used.length kc.uc)) := hy.mono (fun _ _ e => .inl e)
 clear hy
 generalize (((((((((v4.setCell ⟨gm, 15, none⟩ (.int .i64 cm.err)).setCell ⟨gm, 16, none⟩ (.int .i64 cm.n)).setCell ⟨gm, 17, none⟩ (.int .i64 cm.dev)).setCell ⟨gm, 18, none⟩ (.int .i64 cm.ep)).setCell ⟨gm, 19, none⟩ (.int .i64 cm.til)).setCell ⟨gm, 20, none⟩ (.int .i64 cm.last)).setCell ⟨gm, 21, none⟩ (.slice kc.s cm.slices.length kc.sc)).setCell ⟨gm, 22, none⟩ (.slice kc.i cm.ids.length kc.ic)).setCell ⟨gm, 23, none⟩ (.slice kc.u cm.used.length kc.uc)) = u4 at *
 rw [← hM] at hC
 have HM := Lib.hid hM
 clear hM
 have hs2 := hx.size
 go_upto_region 26 with fail
 refine wp_region_lit ?_
 refine wp_load_rmsg (m := M) (h := { MsgA.zero with r := kc }) rfl rfl (by rfl) hC ?_
 simp only [pz]
 refine wp_store_rmsg (m := M) (h := { MsgA.zero with r := kc }) rfl rfl (by rfl) (by rfl) hZ rfl (fun hF hy => ?_)
 simp only [pz]
 have h : XRdr _ g a c b _ _ := h.ext hy (by simp only [Esc.just]; omega) (fun hb ad ha e => by have := hlow hb ad ha; have e : ad.block = gz := e; omega)
 replace hx : Ext (just g) w _ := hx.trans hy (fun k hk e => by have e : k = gz := e; omega)
 have hX3 : Ext (fun k => k = gm ∨ k = gz) _ _ := hX2.comp (hy.mono (fun _ _ e => .inr e))
 generalize u4.setCells gz 0 (MsgR.cells M { MsgA.zero with r := kc }) = wz at *
 go_wp2_with fail
 refine bodyPost_ret (v := MsgR.val M { MsgA.zero with r := kc }) ?_ rfl ⟨{ MsgA.zero with r := kc }, by rw [HB.out], ?_, by rw [HB.out]; exact h, hx⟩
 ·exact rmsg_result rfl _ _ (by rfl) hF
 ·rw [HB.out]
  intro S wy hy2 hS
  rw [HM.out]
  have hs9 := hX3.size
  have hci := hK (fun k => S k ∨ k = gm ∨ k = gz) wy ((hX3.mono (fun k _ e => .inr e)).comp (hy2.mono (fun k _ e => .inl e))) (fun k hk => hk.elim (fun e => by have := hS k e; omega) (fun e => by rcases e with e | e <;> omega))
  exact ⟨Rd.nil _ _, CmdR.In.zero _, hci, OpsIn.nil _ _, Nat.le_refl _, Nat.zero_le _, Nat.le_refl _, Nat.zero_le _⟩
set_option maxRecDepth 100000 in
set_option maxHeartbeats 8000000 in
theorem xbody_3 (w : World) (g : Nat) {a : Option Addr} {c : Nat} {b : List UInt8} (s0 : RS) (h : XRdr w g a c b s0.l s0.e) :
  Calls Tryz.prog 36 #[.pointer (some ⟨g, 0, none⟩), (kindM 3).val MsgA.zero] w (XBodyEnd w g a c b s0 3) := by
 have hgw := h.lt
 have hlow := fun hb ad ha => xrdr_low h hb ad ha
 go_enter Tryz.func36, Tryz.ntmps36
 go_upto_region 0 with fail
 refine wp_region_lit ?_
 refine wp_box_rmsg (m := kindM 3) (h := MsgA.zero) rfl rfl (by rfl) (fun hC => ?_)
 simp only [pz]
 have hxa := Ext.alloc no w (.cells ((kindM 3).cells MsgA.zero).toArray 42)
 obtain ⟨gm, h0⟩ : ∃ v, v = w.heap.size := ⟨_, rfl⟩
 rw [← h0] at hC ⊢
 have hwm : w.heap.size ≤ gm := by omega
 clear h0
 generalize w.alloc (.cells ((kindM 3).cells MsgA.zero).toArray 42) = w1 at *
 refine wp_alloc_rmsg rfl rfl (fun hZ => ?_)
 simp only [pz]
 have hxb := Ext.alloc no w1 (.cells (MsgR.zero.cells MsgA.zero).toArray 42)
 have hml := hC.lt (msg_ne _ _)
 have hC := hC.ext (msg_ne _ _) hxb (fun h => h)
 obtain ⟨gz, h0⟩ : ∃ v, v = w1.heap.size := ⟨_, rfl⟩
 rw [← h0] at hZ hml ⊢
 clear h0
 have h := (h.no hxa).no hxb
 have hx : Ext (just g) w _ := (hxa.comp hxb).mono (fun _ _ e => e.elim)
 clear hxa hxb
 generalize w1.alloc (.cells (MsgR.zero.cells MsgA.zero).toArray 42) = u0 at *
 go_wp2_with fail
 refine (xint_any u0 g s0 h).mono ?_
 rintro e v1 ⟨rfl, h, hy⟩
 have hC := hC.ext (msg_ne _ _) hy (by simp only [Esc.just]; omega)
 have hZ := hZ.ext (msg_ne _ _) hy (by simp only [Esc.just]; omega)
 replace hx := hx.comp hy
 clear hy
 obtain ⟨i1, hn⟩ : ∃ n, n = (rInt s0).1 := ⟨_, rfl⟩
 obtain ⟨s1, hs⟩ : ∃ q, q = (rInt s0).2 := ⟨_, rfl⟩
 rw [← hs] at h
 rw [← hn]
 have HNi1 := Lib.hid hn
 have HSi1 := Lib.hid hs
 clear hn hs
 have cK := hC.cell 1 _ rfl
 have fK := hC.fr 1
 go_upto_region 2 with fail
 have hy : Ext (just gm) v1 (v1.setCell ⟨gm, 1, none⟩ (.int .i64 i1)) := Ext.setCell _ _ _ rfl
 have hC := hC.put 1 (.int .i64 i1) (by show 1 < 25; omega) (ds := ({ kindM 3 with dev := i1 } : MsgR).cells MsgA.zero) rfl
 have hZ := hZ.ext (msg_ne _ _) hy (fun e => by have e : gz = gm := e; omega)
 have h : XRdr (v1.setCell ⟨gm, 1, none⟩ (.int .i64 i1)) g a c b _ _ := h.ext hy (by simp only [Esc.just]; omega) (fun hb ad ha e => by have := hlow hb ad ha; have e : ad.block = gm := e; omega)
 replace hx : Ext (just g) w (v1.setCell ⟨gm, 1, none⟩ (.int .i64 i1)) := hx.trans hy (fun k hk e => by have e : k = gm := e; omega)
 clear hy cK fK
 generalize (v1.setCell ⟨gm, 1, none⟩ (.int .i64 i1)) = u1 at *
 have e0 : u1.cell? ⟨gm, 0, none⟩ = some (.int .i64 3) := hC.cell 0 _ rfl
 go_wp2_with fail
 refine (xint_any u1 g s1 h).mono ?_
 rintro e v2 ⟨rfl, h, hy⟩
 have hC := hC.ext (msg_ne _ _) hy (by simp only [Esc.just]; omega)
 have hZ := hZ.ext (msg_ne _ _) hy (by simp only [Esc.just]; omega)
 replace hx := hx.comp hy
 clear hy
 obtain ⟨i2, hn⟩ : ∃ n, n = (rInt s1).1 := ⟨_, rfl⟩
 obtain ⟨s2, hs⟩ : ∃ q, q = (rInt s1).2 := ⟨_, rfl⟩
 rw [← hs] at h
 rw [← hn]
 have HNi2 := Lib.hid hn
 have HSi2 := Lib.hid hs
 clear hn hs
 have cK := hC.cell 3 _ rfl
 have fK := hC.fr 3
 go_upto_region 11 with fail
 have hy : Ext (just gm) v2 (v2.setCell ⟨gm, 3, none⟩ (.int .i64 i2)) := Ext.setCell _ _ _ rfl
 have hC := hC.put 3 (.int .i64 i2) (by show 3 < 25; omega) (ds := ({ kindM 3 with dev := i1, ver := i2 } : MsgR).cells MsgA.zero) rfl
 have hZ := hZ.ext (msg_ne _ _) hy (fun e => by have e : gz = gm := e; omega)
 have h : XRdr (v2.setCell ⟨gm, 3, none⟩ (.int .i64 i2)) g a c b _ _ := h.ext hy (by simp only [Esc.just]; omega) (fun hb ad ha e => by have := hlow hb ad ha; have e : ad.block = gm := e; omega)
 replace hx : Ext (just g) w (v2.setCell ⟨gm, 3, none⟩ (.int .i64 i2)) := hx.trans hy (fun k hk e => by have e : k = gm := e; omega)
 clear hy cK fK
 generalize (v2.setCell ⟨gm, 3, none⟩ (.int .i64 i2)) = u2 at *
 go_wp2_with fail
 refine (xint_any u2 g s2 h).mono ?_
 rintro e v3 ⟨rfl, h, hy⟩
 have hC := hC.ext (msg_ne _ _) hy (by simp only [Esc.just]; omega)
 have hZ := hZ.ext (msg_ne _ _) hy (by simp only [Esc.just]; omega)
 replace hx := hx.comp hy
 clear hy
 obtain ⟨i3, hn⟩ : ∃ n, n = (rInt s2).1 := ⟨_, rfl⟩
 obtain ⟨s3, hs⟩ : ∃ q, q = (rInt s2).2 := ⟨_, rfl⟩
 rw [← hs] at h
 rw [← hn]
 have HNi3 := Lib.hid hn
 have HSi3 := Lib.hid hs
 clear hn hs
 have cK := hC.cell 4 _ rfl
 have fK := hC.fr 4
 go_upto_region 12 with fail
 have hy : Ext (just gm) v3 (v3.setCell ⟨gm, 4, none⟩ (.int .i64 i3)) := Ext.setCell _ _ _ rfl
 have hC := hC.put 4 (.int .i64 i3) (by show 4 < 25; omega) (ds := ({ kindM 3 with dev := i1, ver := i2, pos := i3 } : MsgR).cells MsgA.zero) rfl
 have hZ := hZ.ext (msg_ne _ _) hy (fun e => by have e : gz = gm := e; omega)
 have h : XRdr (v3.setCell ⟨gm, 4, none⟩ (.int .i64 i3)) g a c b _ _ := h.ext hy (by simp only [Esc.just]; omega) (fun hb ad ha e => by have := hlow hb ad ha; have e : ad.block = gm := e; omega)
 replace hx : Ext (just g) w (v3.setCell ⟨gm, 4, none⟩ (.int .i64 i3)) := hx.trans hy (fun k hk e => by have e : k = gm := e; omega)
 clear hy cK fK
 generalize (v3.setCell ⟨gm, 4, none⟩ (.int .i64 i3)) = u3 at *
 have hNs : gz < u3.heap.size := hZ.lt (msg_ne _ _)
 go_wp2_with fail
 go_loopw [5] (fun sI wr => ∃ (i : Nat) (D : List Bool) (a1 : Option Addr) (c6 : Nat) (sr : RS), i ≤ 3 ∧ sI = .int .i64 i ∧ D.length = i ∧ pRow pSub 3 s3 = (D ++ (pRow pSub (3 - i) sr).1, (pRow pSub (3 - i) sr).2) ∧ XRdr wr g a c b sr.l sr.e ∧ Blk wr gm (({ kindM 3 with dev := i1, ver := i2, pos := i3, subs := D } : MsgR).cells { MsgA.zero with b := a1, bc := c6 }) ∧ Blk wr gz (MsgR.zero.cells MsgA.zero) ∧ gz < wr.heap.size ∧ Own wr (gz + 1) a1 1 D.length c6 (bls D) ∧ Ext (just g) w wr) (fun sI _ => 3 - (intOf sI).toNat)
 case atStart => exact ⟨0, [], none, 0, s3, by omega, rfl, rfl, by simp, h, hC, hZ, hNs, Own.nil _ _ _, hx⟩
 case round =>
  clear h hC hZ hx hNs e0
  obtain ⟨i, D, a1, c6, sr, hi, rfl, hDl, hpd, h, hC, hZ, hNs, hown, hx⟩ := hrel
  have HD := Lib.hid hDl
  have HPD := Lib.hid hpd
  clear hDl hpd
  by_cases hlt : i < 3
  ·have d1 : decide ((i : Int) < 3) = true := decT (by omega)
   have HPS := Lib.hid (show pRow pSub (3 - i) sr = ((pSub sr).1 :: (pRow pSub (3 - (i + 1)) (pSub sr).2).1, (pRow pSub (3 - (i + 1)) (pSub sr).2).2) from pRow_step pSub hlt sr)
   go_wp2_with fail
   refine (xint_any wr g sr h).mono ?_
   rintro e x1 ⟨rfl, h, hy⟩
   have hC := hC.ext (msg_ne _ _) hy (by simp only [Esc.just]; omega)
   have hZ := hZ.ext (msg_ne _ _) hy (by simp only [Esc.just]; omega)
   have hown := hown.ext hy (fun ad h e => by have := (hown.base ad h).1; have e : ad.block = g := e; omega)
   replace hNs := Nat.lt_of_lt_of_le hNs hy.size
   replace hx := hx.comp hy
   clear hy
   obtain ⟨n, hn⟩ : ∃ n, n = (rInt sr).1 := ⟨_, rfl⟩
   obtain ⟨t9, hs⟩ : ∃ q, q = (rInt sr).2 := ⟨_, rfl⟩
   rw [← hs] at h
   rw [← hn]
   have HNn := Lib.hid hn
   have HSn := Lib.hid hs
   clear hn hs
   have HV := Lib.hid (show (n == (1 : Int)) = (pSub sr).1 by unfold pSub; rw [← HNn.out]; by_cases e : n = 1 <;> simp [e])
   obtain ⟨tt, htt⟩ : ∃ tt, tt = decide (n ≠ 0 ∧ n ≠ 1) := ⟨_, rfl⟩
   have HTT := Lib.hid htt
   clear htt
   go_upto_region 16 with fail
   go_cut [47] (fun st wx => st = .bool tt ∧ wx = x1)
   case first =>
    clear HV
    by_cases c0 : n = 0
    ·subst c0
     have d2 : ((0 : Int) != 0) = false := rfl
     have HV2 := Lib.hid (show tt = false by rw [HTT.out]; rfl)
     go_wp2_with fail
     go_meet
     exact ⟨by rw [HV2.out], rfl⟩
    ·by_cases c1 : n = 1
     ·subst c1
      have d2 : ((1 : Int) != 0) = true := rfl
      have d3 : ((1 : Int) != 1) = false := rfl
      have HV2 := Lib.hid (show tt = false by rw [HTT.out]; rfl)
      go_wp2_with fail
      go_meet
      exact ⟨by rw [HV2.out], rfl⟩
     ·have d2 : (n != 0) = true := by rw [bne_iff_ne]; exact c0
      have d3 : (n != 1) = true := by rw [bne_iff_ne]; exact c1
      have HV2 := Lib.hid (show tt = true by rw [HTT.out]; exact decide_eq_true ⟨c0, c1⟩)
      clear c0 c1
      go_wp2_with fail
      go_meet
      exact ⟨by rw [HV2.out], rfl⟩
   case rest =>
    obtain ⟨rfl, rfl⟩ := hcut
    obtain ⟨x1, h0⟩ : ∃ v, v = wc := ⟨_, rfl⟩
    subst h0
    go_upto_if 47 with fail
    go_cut [] (fun wx => XRdr wx g a c b (pSub sr).2.l (pSub sr).2.e ∧ Ext (just g) x1 wx)
    case first =>
     clear HV
     cases tt with
     | true =>
      have hk2 := of_decide_eq_true HTT.out.symm
      have HP := Lib.hid (show (pSub sr).2 = rFail t9 10 by unfold pSub; rw [← HNn.out, ← HSn.out]; simp [hk2])
      clear hk2 HTT
      go_wp2_with fail
      refine (xfail_any x1 g t9.l t9.e 10 h).mono ?_
      rintro e x2 ⟨rfl, hr, hy⟩
      go_wp2_with fail
      go_meet
      exact ⟨by rw [HP.out, (rFail_l t9 10).1, (rFail_l t9 10).2]; exact hr, hy⟩
     | false =>
      have hk2 := of_decide_eq_false HTT.out.symm
      have HP := Lib.hid (show (pSub sr).2 = t9 by unfold pSub; rw [← HNn.out, ← HSn.out]; simp only; rw [if_neg hk2])
      clear hk2 HTT
      go_wp2_with fail
      go_meet
      exact ⟨by rw [HP.out]; exact h, Ext.refl _ _⟩
    case rest =>
     clear h HTT
     obtain ⟨h, hy⟩ := hcut
     obtain ⟨x3, h0⟩ : ∃ v, v = wc := ⟨_, rfl⟩
     subst h0
     have hC := hC.ext (msg_ne _ _) hy (by simp only [Esc.just]; omega)
     have hZ := hZ.ext (msg_ne _ _) hy (by simp only [Esc.just]; omega)
     have hown := hown.ext hy (fun ad h e => by have := (hown.base ad h).1; have e : ad.block = g := e; omega)
     replace hNs := Nat.lt_of_lt_of_le hNs hy.size
     replace hx := hx.comp hy
     clear hy
     obtain ⟨sq, hsq⟩ : ∃ q, q = (pSub sr).2 := ⟨_, rfl⟩
     rw [← hsq] at h
     have HSQ := Lib.hid hsq
     clear hsq
     have cK := hC.cell 6 _ rfl
     have hya := Ext.alloc no x3 (.cells #[.bool (n == (1 : Int))] 4)
     go_wp2_with (at_builtin; refine wpList_append TBools rfl rfl rfl (hown.alloc _) rfl (Rd.lit x3 #[.bool (n == (1 : Int))] 4 (0, 0)) (m := 1) rfl (by intro u hu; simp at hu; subst hu; rfl) (by unfold maxLen; have := HD.out; omega) (by have := HD.out; omega) (by simp; omega) ?_)
     intro a8 c8 w8 hA
     have hNb : ∀ k, k ≤ gz → ¬ blk a1 k := fun k hk => by rintro ⟨ad, ha, e⟩; have := (hown.base ad ha).1; omega
     have hC := (hC.ext (msg_ne _ _) hya (fun h => h)).ext (msg_ne _ _) hA.ext (hNb _ (by omega))
     have hZ := (hZ.ext (msg_ne _ _) hya (fun h => h)).ext (msg_ne _ _) hA.ext (hNb _ (by omega))
     have h := (h.no hya).ext hA.ext (hNb _ (by omega)) (fun hb ad ha => hNb _ (by have := hlow hb ad ha; omega))
     replace hx : Ext (just g) w w8 := (hx.comp (hya.mono (fun _ _ e => e.elim))).trans hA.ext (fun k hk e => (hNb k (by omega) e).elim)
     have hNs := Nat.lt_of_lt_of_le (Nat.lt_of_lt_of_le hNs hya.size) hA.ext.size
     have ho8 := hA.own
     clear hA hya cK
     have cK := hC.cell 6 _ rfl
     have fK := hC.fr 6
     have hy : Ext (just gm) w8 (w8.setCell ⟨gm, 6, none⟩ (.slice a8 (D.length + 1) c8)) := Ext.setCell _ _ _ rfl
     have hC9 : Blk (w8.setCell ⟨gm, 6, none⟩ (.slice a8 (D.length + 1) c8)) gm (({ kindM 3 with dev := i1, ver := i2, pos := i3, subs := D ++ [n == (1 : Int)] } : MsgR).cells { MsgA.zero with b := a8, bc := c8 }) := hC.put 6 (.slice a8 (D.length + 1) c8) (by show 6 < 25; omega) (by simp [MsgR.cells])
     have hZ9 := hZ.ext (msg_ne _ _) hy (fun e => by have e : gz = gm := e; omega)
     have h9 : XRdr (w8.setCell ⟨gm, 6, none⟩ (.slice a8 (D.length + 1) c8)) g a c b sq.l sq.e := h.ext hy (by simp only [Esc.just]; omega) (fun hb ad ha e => by have := hlow hb ad ha; have e : ad.block = gm := e; omega)
     have ho9 : Own (w8.setCell ⟨gm, 6, none⟩ (.slice a8 (D.length + 1) c8)) (gz + 1) a8 1 (D ++ [n == (1 : Int)]).length c8 (bls (D ++ [n == (1 : Int)])) := by
      rw [bls_snoc, List.length_append]
      exact ho8.ext hy (fun ad h e => by have := (ho8.base ad h).1; have e : ad.block = gm := e; omega)
     have hx9 : Ext (just g) w (w8.setCell ⟨gm, 6, none⟩ (.slice a8 (D.length + 1) c8)) := hx.trans hy (fun k hk e => by have e : k = gm := e; omega)
     have hNs9 := Nat.lt_of_lt_of_le hNs hy.size
     have HL := Lib.hid (show (D ++ [n == (1 : Int)]).length = i + 1 by rw [List.length_append, HD.out]; rfl)
     have HNX := Lib.hid (show pRow pSub 3 s3 = ((D ++ [n == (1 : Int)]) ++ (pRow pSub (3 - (i + 1)) sq).1, (pRow pSub (3 - (i + 1)) sq).2) by rw [HPD.out, HPS.out, ← HV.out, ← HSQ.out]; simp)
     clear hC h ho8 hx hZ hy hNs
     go_wp2_with fail
     go_roundw
     case rel => exact ⟨i + 1, D ++ [n == (1 : Int)], a8, c8, sq, by omega, by go_num, HL.out, HNX.out, h9, hC9, hZ9, hNs9, ho9, hx9⟩
     case measure => simp [intOf]; omega
  ·have d1 : decide ((i : Int) < 3) = false := decF (by omega)
   have HEND := Lib.hid (show pRow pSub 3 s3 = (D, sr) by rw [HPD.out, pRow_end pSub hlt]; simp)
   clear HPD
   obtain ⟨M, hM⟩ : ∃ M : MsgR, M = { kindM 3 with dev := i1, ver := i2, pos := i3, subs := D } := ⟨_, rfl⟩
   have HB := Lib.hid (show xBody 3 s0 = (M, sr) by
    rw [hM]
    unfold xBody
    simp only [← HNi1.out, ← HSi1.out, ← HNi2.out, ← HSi2.out, ← HNi3.out, ← HSi3.out, HEND.out]
    rfl)
   rw [← hM] at hC
   have HM := Lib.hid hM
   clear hM hlt
   obtain ⟨u9, h0⟩ : ∃ v, v = wr := ⟨_, rfl⟩
   subst h0
   have hob := hown.base
   go_upto_region 26 with fail
   refine wp_region_lit ?_
   refine wp_load_rmsg (m := M) (h := { MsgA.zero with b := a1, bc := c6 }) rfl rfl (by rfl) hC ?_
   simp only [pz]
   refine wp_store_rmsg (m := M) (h := { MsgA.zero with b := a1, bc := c6 }) rfl rfl (by rfl) (by rfl) hZ rfl (fun hF hy => ?_)
   simp only [pz]
   have h : XRdr _ g a c b _ _ := h.ext hy (by simp only [Esc.just]; omega) (fun hb ad ha e => by have := hlow hb ad ha; have e : ad.block = gz := e; omega)
   replace hx : Ext (just g) w _ := hx.trans hy (fun k hk e => by have e : k = gz := e; omega)
   have hown := hown.ext hy (fun ad h e => by have := (hown.base ad h).1; have e : ad.block = gz := e; omega)
   generalize u9.setCells gz 0 (MsgR.cells M { MsgA.zero with b := a1, bc := c6 }) = wz at *
   go_wp2_with fail
   refine bodyPost_ret (v := MsgR.val M { MsgA.zero with b := a1, bc := c6 }) ?_ rfl ⟨{ MsgA.zero with b := a1, bc := c6 }, by rw [HB.out], ?_, by rw [HB.out]; exact h, hx⟩
   ·exact rmsg_result rfl _ _ (by rfl) hF
   ·rw [HB.out]
    intro S wy hy2 hS
    rw [HM.out]
    exact ⟨own_keep hown (by omega) hy2 hS, CmdR.In.zero _, ReplyR.In.zero _, OpsIn.nil _ _, hown.nc, hown.cm, Nat.le_refl _, Nat.zero_le _⟩
theorem xbody_any (w : World) (g : Nat) {a : Option Addr} {c : Nat} {b : List UInt8} (s0 : RS) (k : Int) (h : XRdr w g a c b s0.l s0.e) :
  Calls Tryz.prog 36 #[.pointer (some ⟨g, 0, none⟩), (kindM k).val MsgA.zero] w (XBodyEnd w g a c b s0 k) := by
 by_cases hk : k < 1 ∨ 5 < k
 ·exact xbody_0 w g s0 hk h
 ·rcases (show k = 1 ∨ k = 2 ∨ k = 3 ∨ k = 4 ∨ k = 5 by omega) with rfl | rfl | rfl | rfl | rfl
  ·exact xbody_1 w g s0 h
  ·exact xbody_2 w g s0 h
  ·exact xbody_3 w g s0 h
  ·exact xbody_4 w g s0 h
  ·exact xbody_5 w g s0 h
end Go.Proofs.YtddobhihjljcgaaGreat
