/- The reference's readers: few, readOps, good. -/
import Derived.Test.YtddobhihjljcgaaGreatWxP
import Derived.Test.YtddobhihjljcgaaGreatWiAM
import Derived.Test.YtddobhihjljcgaaGreatWiRd1
import Derived.Test.YtddobhihjljcgaaGreatOpE
namespace Go.Proofs.YtddobhihjljcgaaGreat
open Go.RowKit Go.Esc
set_option linter.unusedVariables false
set_option linter.unusedSimpArgs false
theorem xrdr_low {w : World} {g : Nat} {a : Option Addr} {c : Nat} {b l : List UInt8} {er : Int} (h : XRdr w g a c b l er) (hb : b ≠ []) (ad : Addr) (ha : a = some ad) : ad.block < w.heap.size := h.rd.low hb ad ha
set_option maxRecDepth 100000 in
set_option maxHeartbeats 4000000 in
theorem xfew_any (w : World) (g : Nat) {a : Option Addr} {c : Nat} {b : List UInt8} (s : RS) (most : Int) (h0 : 0 ≤ most) (h1 : most ≤ 1000) (h : XRdr w g a c b s.l s.e) :
  Calls Tryz.prog 84 #[.pointer (some ⟨g, 0, none⟩), .int .i64 most] w fun e w' => e = .returned (.int .i64 ((pSize most s).1 : Nat)) ∧ XRdr w' g a c b (pSize most s).2.l (pSize most s).2.e ∧ Ext (just g) w w' := by
 go_enter Tryz.func84, Tryz.ntmps84
 go_wp2_with fail
 refine (xint_any w g s h).mono ?_
 rintro e w1 ⟨rfl, h, hx⟩
 obtain ⟨n, hn⟩ : ∃ n, n = (rInt s).1 := ⟨_, rfl⟩
 obtain ⟨t, ht⟩ : ∃ t, t = (rInt s).2 := ⟨_, rfl⟩
 have hz : t.e ≠ 0 → n = 0 := fun he => by
  by_cases hs : s.e = 0
  ·rw [hn]
   rw [ht] at he
   unfold rInt at he ⊢
   simp only [hs, ne_eq, not_true_eq_false, if_false] at he ⊢
   split at he <;> simp_all
  ·rw [hn, rInt_skip hs]
 rw [← ht] at h
 rw [← hn]
 have HQ := Lib.hid (show pSize most s = if n < 0 ∨ most < n then (0, rFail t 4) else (n.toNat, t) by unfold pSize; rw [← hn, ← ht])
 clear hn ht
 have HZ := Lib.hid hz
 clear hz
 by_cases c0 : n < 0
 ·have d0 : decide (n < 0) = true := decT c0
  have HR := Lib.hid (show pSize most s = (0, rFail t 4) by rw [HQ.out, if_pos (by omega)])
  clear c0 HQ HZ
  go_wp2_with fail
  refine (xfail_any w1 g t.l t.e 4 h).mono ?_
  rintro e w2 ⟨rfl, hr', hx'⟩
  have h : XRdr w2 g a c b (rFail t 4).l (rFail t 4).e := by rw [(rFail_l t 4).1, (rFail_l t 4).2]; exact hr'
  have hp := h.err
  have d3 : ((rFail t 4).e != 0) = true := by rw [bne_iff_ne]; exact rFail_e t 4 (by omega)
  replace hx := hx.comp hx'
  clear hr' hx'
  go_wp2_with fail
  go_ret
  exact ⟨by rw [HR.out]; rfl, by rw [HR.out]; exact h, hx⟩
 ·have d0 : decide (n < 0) = false := decF c0
  by_cases c1 : most < n
  ·have d1 : decide (most < n) = true := decT c1
   have HR := Lib.hid (show pSize most s = (0, rFail t 4) by rw [HQ.out, if_pos (by omega)])
   clear c0 c1 HQ HZ
   go_wp2_with fail
   refine (xfail_any w1 g t.l t.e 4 h).mono ?_
   rintro e w2 ⟨rfl, hr', hx'⟩
   have h : XRdr w2 g a c b (rFail t 4).l (rFail t 4).e := by rw [(rFail_l t 4).1, (rFail_l t 4).2]; exact hr'
   have hp := h.err
   have d3 : ((rFail t 4).e != 0) = true := by rw [bne_iff_ne]; exact rFail_e t 4 (by omega)
   replace hx := hx.comp hx'
   clear hr' hx'
   go_wp2_with fail
   go_ret
   exact ⟨by rw [HR.out]; rfl, by rw [HR.out]; exact h, hx⟩
  ·have d1 : decide (most < n) = false := decF c1
   have HR := Lib.hid (show pSize most s = (n.toNat, t) by rw [HQ.out, if_neg (by omega)])
   have HN := Lib.hid (show ((n.toNat : Nat) : Int) = n by omega)
   have hp := h.err
   clear c0 c1 HQ
   by_cases c2 : t.e = 0
   ·have d3 : (t.e != 0) = false := by rw [c2]; rfl
    clear c2 HZ
    go_wp2_with fail
    go_ret
    exact ⟨by rw [HR.out, HN.out]; rfl, by rw [HR.out]; exact h, hx⟩
   ·have d3 : (t.e != 0) = true := by rw [bne_iff_ne]; exact c2
    have HM := Lib.hid (show n.toNat = 0 by rw [HZ.out c2]; rfl)
    clear c2 HZ
    go_wp2_with fail
    go_ret
    exact ⟨by rw [HR.out, HM.out]; rfl, by rw [HR.out]; exact h, hx⟩
set_option maxRecDepth 100000 in
set_option maxHeartbeats 4000000 in
theorem xgood_any (w : World) (b : Option Addr) (cb : Nat) (l : List OpR) (hin : OpsIn w b l) (hl : l.length ≤ 1000000) (hf : ∀ o ∈ l, o.dots.length ≤ 1099511627776 ∧ o.key.length ≤ maxLen ∧ o.text.length ≤ maxLen) :
  Calls Tryz.prog 38 #[.slice b l.length cb] w fun e w' => e = .returned (.int .i64 (opsErr l : Nat)) ∧ Ext no w w' := by
 obtain ⟨P, hP, hrp, hgp⟩ := hin
 have hPl : P.length = l.length := by rw [← hP, List.length_map]
 have HP := Lib.hid hP
 have HPl := Lib.hid hPl
 clear hP hPl
 go_enter Tryz.func38, Tryz.ntmps38
 go_wp2_with fail
 go_loopw [3] (fun s3 wr => ∃ (i : Nat), i ≤ l.length ∧ s3 = .int .i64 i ∧ opsErr l = opsErr (l.drop i) ∧ Ext no w wr) (fun s3 _ => l.length - (intOf s3).toNat)
 case atStart => exact ⟨0, Nat.zero_le _, rfl, rfl, Ext.refl _ _⟩
 case round =>
  obtain ⟨i, hi, rfl, hE, hx⟩ := hrel
  have HE := Lib.hid hE
  clear hE
  by_cases hlt : i < l.length
  ·have d1 : decide (i < l.length) = true := decT hlt
   obtain ⟨y, hym⟩ : ∃ y, P[i]? = some y := ⟨_, List.getElem?_eq_getElem (by have := HPl.out; omega)⟩
   have hyo : l[i]? = some y.o := by rw [← HP.out, List.getElem?_map, hym]; rfl
   have hgy := hgp y (List.mem_of_getElem? hym)
   have hfy := hf y.o (List.mem_of_getElem? hyo)
   have hrq := hrp.ext hx (fun _ _ h => h)
   obtain ⟨ob, oof, hsb, _⟩ := rows_shape kOp (by omega) hrq (by have := HPl.out; omega)
   rw [hsb] at hrq
   have y0 : wr.cell? ⟨ob, oof + i * 11, none⟩ = some (.int .i64 y.o.dot.dev) := rows_cell kOp hrq hym 0 _ rfl
   have y1 : wr.cell? ⟨ob, oof + i * 11 + 1, none⟩ = some (.int .i64 y.o.dot.ep) := rows_cell kOp hrq hym 1 _ rfl
   have y2 : wr.cell? ⟨ob, oof + i * 11 + 2, none⟩ = some (.int .i64 y.o.dot.seq) := rows_cell kOp hrq hym 2 _ rfl
   have y3 : wr.cell? ⟨ob, oof + i * 11 + 3, none⟩ = some (.int .i64 y.o.coll) := rows_cell kOp hrq hym 3 _ rfl
   have y4 : wr.cell? ⟨ob, oof + i * 11 + 4, none⟩ = some (.int .i64 y.o.ver) := rows_cell kOp hrq hym 4 _ rfl
   have y5 : wr.cell? ⟨ob, oof + i * 11 + 5, none⟩ = some (.int .i64 y.o.kind) := rows_cell kOp hrq hym 5 _ rfl
   have y6 : wr.cell? ⟨ob, oof + i * 11 + 6, none⟩ = some (.string (str y.o.key)) := rows_cell kOp hrq hym 6 _ rfl
   have y7 : wr.cell? ⟨ob, oof + i * 11 + 7, none⟩ = some (.string (str y.o.text)) := rows_cell kOp hrq hym 7 _ rfl
   have y8 : wr.cell? ⟨ob, oof + i * 11 + 8, none⟩ = some (.int .i64 y.o.n) := rows_cell kOp hrq hym 8 _ rfl
   have y9 : wr.cell? ⟨ob, oof + i * 11 + 9, none⟩ = some (.int .i64 y.o.time) := rows_cell kOp hrq hym 9 _ rfl
   have y10 : wr.cell? ⟨ob, oof + i * 11 + 10, none⟩ = some (.slice y.a y.o.dots.length y.c) := rows_cell kOp hrq hym 10 _ rfl
   have HT := Lib.hid (show opsErr (l.drop i) = if checkOp y.o ≠ 0 then checkOp y.o else opsErr (l.drop (i + 1)) by
    have hd : l.drop i = y.o :: l.drop (i + 1) := by
     rw [List.drop_eq_getElem_cons hlt]
     congr 1
     rw [List.getElem?_eq_getElem hlt] at hyo
     exact Option.some.inj hyo
    rw [hd]; rfl)
   have hb : b = some ⟨ob, oof, none⟩ := hsb
   have hrd := hgy.rd.ext hx (fun _ _ h => h)
   clear hrq hyo hym hsb
   subst hb
   go_wp2_with fail
   refine (refcheck_any wr y.o y.a y.c hrd hfy.1 hfy.2.1 hfy.2.2).mono ?_
   rintro e w3 ⟨rfl, hx3⟩
   obtain ⟨k, hk⟩ : ∃ k, k = checkOp y.o := ⟨_, rfl⟩
   rw [← hk] at HT ⊢
   clear hk
   by_cases hk0 : k = 0
   ·have d2 : (((k : Nat) : Int) != 0) = false := by rw [hk0]; rfl
    have HN := Lib.hid (show opsErr l = opsErr (l.drop (i + 1)) by rw [HE.out, HT.out, if_neg (fun e => e hk0)])
    clear hk0
    go_wp2_with fail
    go_roundw
    case rel => exact ⟨i + 1, by omega, by go_num, HN.out, hx.comp hx3⟩
    case measure => simp [intOf]; omega
   ·have d2 : (((k : Nat) : Int) != 0) = true := by rw [bne_iff_ne]; omega
    have HN := Lib.hid (show opsErr l = k by rw [HE.out, HT.out, if_pos hk0])
    clear hk0
    go_wp2_with fail
    go_ret
    exact ⟨by rw [HN.out]; rfl, hx.comp hx3⟩
  ·have d1 : decide (i < l.length) = false := decF hlt
   have HN := Lib.hid (show opsErr l = 0 by rw [HE.out, List.drop_of_length_le (by omega)]; rfl)
   go_wp2_with fail
   go_ret
   exact ⟨by rw [HN.out]; rfl, hx⟩
set_option maxRecDepth 100000 in
set_option maxHeartbeats 4000000 in
theorem xreadOps_any (w : World) (g : Nat) {a : Option Addr} {c : Nat} {b : List UInt8} (s0 : RS) (h : XRdr w g a c b s0.l s0.e) :
  Calls Tryz.prog 68 #[.pointer (some ⟨g, 0, none⟩)] w fun e w' => ∃ (a' : Option Addr) (c' : Nat) (G : List OpW), e = .returned (.slice a' (xOps s0).1.length c') ∧ G.map OpW.o = (xOps s0).1 ∧ OpAcc w' w.heap.size a' c' G ∧ XRdr w' g a c b (xOps s0).2.l (xOps s0).2.e ∧ Ext (just g) w w' := by
 have hgw := h.lt
 have hlow := fun hb ad ha => xrdr_low h hb ad ha
 go_enter Tryz.func68, Tryz.ntmps68
 go_wp2_with fail
 refine (xfew_any w g s0 20 (by omega) (by omega) h).mono ?_
 rintro e w1 ⟨rfl, h', hx⟩
 have hM20 := pSize_le (m := 20) (by omega) s0
 obtain ⟨M, hM⟩ : ∃ M, M = (pSize 20 s0).1 := ⟨_, rfl⟩
 obtain ⟨t, ht⟩ : ∃ q, q = (pSize 20 s0).2 := ⟨_, rfl⟩
 have HW := Lib.hid (show xOps s0 = xRow pRead M t by unfold xOps; rw [hM, ht])
 rw [← hM] at hM20 ⊢
 rw [← ht] at h'
 clear hM ht h
 have h := h'
 clear h'
 go_wp2_with fail
 go_loopw [3, 5] (fun s3 s5 wr => ∃ (i : Nat) (G : List OpW) (ga : Option Addr) (gc : Nat) (sr : RS), i ≤ M ∧ s3 = .slice ga G.length gc ∧ s5 = .int .i64 i ∧ G.length = i ∧ xRow pRead M t = (G.map OpW.o ++ (xRow pRead (M - i) sr).1, (xRow pRead (M - i) sr).2) ∧ XRdr wr g a c b sr.l sr.e ∧ OpAcc wr w.heap.size ga gc G ∧ Ext (just g) w wr) (fun _ s5 _ => M - (intOf s5).toNat)
 case atStart => exact ⟨0, [], none, 0, t, by omega, rfl, rfl, rfl, by simp, h, OpAcc.nil _ _, hx⟩
 case round =>
  clear h hx
  obtain ⟨i, G, ga, gc, sr, hi, rfl, rfl, hGl, hpd, h, hacc, hx⟩ := hrel
  have HG := Lib.hid hGl
  have HPD := Lib.hid hpd
  clear hGl hpd
  obtain ⟨tt, htt⟩ : ∃ tt, tt = decide (i < M ∧ sr.e = 0) := ⟨_, rfl⟩
  have Htt := Lib.hid htt
  clear htt
  have hpe := h.err
  go_upto_region 4 with fail
  go_cut [17] (fun st wx => st = .bool tt ∧ wx = wr)
  case first =>
   by_cases k1 : i < M
   ·have d1 : decide (i < M) = true := decT k1
    by_cases k2 : sr.e = 0
    ·have d2 : (sr.e == 0) = true := by rw [beq_iff_eq]; exact k2
     have HT := Lib.hid (show tt = true by rw [Htt.out]; exact decT ⟨k1, k2⟩)
     clear k2
     go_wp2_with fail
     go_meet
     exact ⟨by rw [HT.out], rfl⟩
    ·have d2 : (sr.e == 0) = false := by rw [beq_eq_false_iff_ne]; exact k2
     have HT := Lib.hid (show tt = false by rw [Htt.out]; exact decF (fun h => k2 h.2))
     clear k2
     go_wp2_with fail
     go_meet
     exact ⟨by rw [HT.out], rfl⟩
   ·have d1 : decide (i < M) = false := decF k1
    have HT := Lib.hid (show tt = false by rw [Htt.out]; exact decF (fun h => k1 h.1))
    go_wp2_with fail
    go_meet
    exact ⟨by rw [HT.out], rfl⟩
  case rest =>
   obtain ⟨rfl, rfl⟩ := hcut
   obtain ⟨wr, h0⟩ : ∃ v, v = wc := ⟨_, rfl⟩
   subst h0
   clear hpe
   cases tt with
   | true =>
    have hk := of_decide_eq_true Htt.out.symm
    have hiM : i < M := hk.1
    have HPS := Lib.hid (xRow_step pRead hk.1 hk.2)
    clear hk Htt
    go_wp2_with fail
    refine (xread_any wr g sr h).mono ?_
    rintro e wg ⟨a', c', rfl, hrd, hlc, hcm, hfr, h', hx'⟩
    have hsr := hx.size
    have hacc1 := hacc.low hx' (fun k e => by have e : k = g := e; omega)
    have hga : ∀ bd, ga = some bd → bd.block < wr.heap.size := fun bd hb => (hacc.own.base bd hb).2.1
    obtain ⟨O, hO⟩ : ∃ O, O = (pRead sr).1 := ⟨_, rfl⟩
    obtain ⟨sn, hsn⟩ : ∃ q, q = (pRead sr).2 := ⟨_, rfl⟩
    rw [← hsn] at h'
    rw [← hO] at hrd hlc ⊢
    rw [← hO, ← hsn] at HPS
    clear hO hsn h
    have hsg := hx'.size
    unfold OpR.v
    go_wp2_with (at_builtin; refine wpList_append TOps rfl rfl rfl (hacc1.own.alloc _) rfl (Rd.lit wg #[.int .i64 O.dot.dev, .int .i64 O.dot.ep, .int .i64 O.dot.seq, .int .i64 O.coll, .int .i64 O.ver, .int .i64 O.kind, .string (str O.key), .string (str O.text), .int .i64 O.n, .int .i64 O.time, .slice a' O.dots.length c'] 62 (0, 0)) (m := 1) rfl (oneOp ⟨O, a', c'⟩) (by have := HG.out; unfold maxLen; omega) (by have := HG.out; omega) (by simp; omega) ?_)
    intro a2 c2 w7 happ
    have hp := hacc1.push2 (x := ⟨O, a', c'⟩) hga ⟨hrd, hlc, hcm⟩ hfr hsr happ
    have hx7 : Ext (just g) w w7 := ((hx.comp hx').comp ((Ext.alloc no wg _).mono (fun _ _ e => e.elim))).trans hp.2 (fun k hk => by rintro ⟨ad, ha, e⟩; have := (hacc.own.base ad ha).1; omega)
    have h7 : XRdr w7 g a c b sn.l sn.e := (h'.no (Ext.alloc no wg _)).ext hp.2 (fun e => hacc1.own.notBlk (by omega) e) (fun hb ad ha e => hacc1.own.notBlk (hlow hb ad ha) e)
    have HN := Lib.hid (show xRow pRead M t = ((G ++ [(⟨O, a', c'⟩ : OpW)]).map OpW.o ++ (xRow pRead (M - (i + 1)) sn).1, (xRow pRead (M - (i + 1)) sn).2) by rw [HPD.out, HPS.out]; simp)
    clear happ
    go_wp2_with fail
    go_roundw
    case rel => exact ⟨i + 1, G ++ [⟨O, a', c'⟩], a2, c2, sn, by omega, by rw [List.length_append]; rfl, by go_num, by rw [List.length_append, HG.out]; rfl, HN.out, h7, hp.1, hx7⟩
    case measure => simp [intOf]; omega
   | false =>
    have hend : xOps s0 = (G.map OpW.o, sr) := by rw [HW.out, HPD.out, xRow_stop pRead (of_decide_eq_false Htt.out.symm)]; simp
    have hGL : G.length = (xOps s0).1.length := by rw [hend, List.length_map]
    rw [hGL]
    have HE := Lib.hid hend
    clear hend hGL
    go_wp2_with fail
    go_ret
    exact ⟨ga, gc, G, rfl, by rw [HE.out], hacc, by rw [HE.out]; exact h, hx⟩
end Go.Proofs.YtddobhihjljcgaaGreat
