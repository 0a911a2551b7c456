/- The walk of KvFull. -/
import Derived.Test.YtpljcnjkdjblmaaKvTo
import Derived.Test.YtpljcnjkdjblmaaKvFe
namespace Go.Proofs.Ytpljcnjkdjblmaa
open Go.RowKit Go.Esc
set_option linter.unusedVariables false
set_option linter.unusedSimpArgs false

set_option maxRecDepth 100000 in
set_option maxHeartbeats 32000000 in
theorem kvfull_walk (w : World) (rm : Int) (la : Option Addr) (l : List ActR) (lc : Nat) (hrm : I64ok rm) (hr : Rd w la (rows ActR.cells l)) (hg : ∀ x ∈ l, x.good w) (hlc : l.length ≤ lc) (hcm : lc ≤ maxLen) :
    Calls Try.prog 6 #[.int .i64 rm, .slice la l.length lc] w fun e w' => e = .returned (.bool true) ∧ Ext no w w' := by
  have HG := Lib.hid hg
  have Hcm := Lib.hid hcm
  unfold maxLen at hcm
  clear hg
  go_enter Try.func6, Try.ntmps6
  go_wp2_with fail
  refine (kvknown_any w).mono ?_
  rintro e w0 ⟨rfl, hx0⟩
  have hr0 := hr.ext hx0 (fun _ _ h => h)
  have hg0 : ∀ x ∈ l, x.good w0 := fun x hx => by
    have h := HG.out x hx
    exact ⟨h.kind, h.n, h.rd.ext hx0 (fun _ _ h => h), h.ok, h.len, h.cap⟩
  have HG0 := Lib.hid hg0
  clear hg0
  go_wp2_with fail
  refine (kvfew_any w0 la l lc hr0 HG0.out hlc Hcm.out).mono ?_
  rintro e _ ⟨r, rfl, hfew, rfl⟩
  cases r with
  | false =>
    clear hfew
    go_wp2_with fail
    go_ret
    exact ⟨rfl, hx0⟩
  | true =>
  have hf := hfew rfl
  have hl60 := hf.1
  have HF := Lib.hid hf
  clear hfew hf
  go_wp2_with fail
  refine (kvwithin_any rm 3000 w0 (by omega) (by omega) hrm).mono ?_
  rintro e _ ⟨rfl, rfl⟩
  obtain ⟨R, hR⟩ : ∃ R : Nat, 1 + rm % 3000 = (R : Int) := ⟨(1 + rm % 3000).toNat, by have := Int.emod_nonneg rm (show (3000 : Int) ≠ 0 by omega); omega⟩
  have hR1 : 1 ≤ R := by have := Int.emod_nonneg rm (show (3000 : Int) ≠ 0 by omega); omega
  have hR2 : R ≤ 3000 := by have := Int.emod_lt_of_pos rm (show (0 : Int) < 3000 by omega); omega
  have hq0 := Int.emod_nonneg rm (show (3000 : Int) ≠ 0 by omega)
  have hq1 := Int.emod_lt_of_pos rm (show (0 : Int) < 3000 by omega)
  generalize rm % 3000 = rr at *
  go_wp2_with fail
  refine (newdisk_any w0 R (by omega) (by omega) (fun _ => False)).mono ?_
  rintro e w1 ⟨g, rfl, hD, hgg, hx1⟩
  have hW1 := hx0.comp hx1
  have hgw : w.heap.size ≤ g := by have := hx0.size; omega
  have hw1 := hW1.size
  clear hx0 hx1 hgg hr0 HG0
  go_wp2_with fail
  refine (kvfresh w1 g R hD (by omega)).mono ?_
  rintro e w2 ⟨s, j, b, rfl, hSt, ⟨h1, h2, h3⟩, hx2⟩
  have hW2 : Ext no w w2 := hW1.trans hx2 (fun k hk e => by have e : k = g := e; omega)
  have hw2 := hx2.size
  clear hx2 hD hW1
  go_upto_region 8 with fail
  have hTw := Two.start hSt 35
  have hxb := Ext.alloc no w2 (.cells #[.slice none 0 0, .slice none 0 0, .slice none 0 0] 35)
  generalize w2.alloc (.cells #[.slice none 0 0, .slice none 0 0, .slice none 0 0] 35) = w3 at *
  obtain ⟨x, hx⟩ : ∃ x, x = w2.heap.size := ⟨_, rfl⟩
  rw [← hx] at hTw ⊢
  have hwx : w.heap.size ≤ x := by have := hW2.size; omega
  have hW3 := hW2.comp hxb
  have hgg : ∀ k, three g s j k → w.heap.size ≤ k := fun k hk => by rcases hk with e | e | e <;> omega
  have HGG := Lib.hid hgg
  have HTw := Lib.hid hTw
  clear hx hxb hSt hTw hW2 hgg h1 h2 h3 hw2
  go_wp2_with fail
  go_loopw [7, 8, 9, 10] (fun s7 s8 s9 s10 wr => ∃ (i s j b x n' : Nat) (ds : DS) (m : KvM) (X : KvX) (q : Trio) (D : Nat), s7 = .pointer (some ⟨s, 0, none⟩) ∧ s8 = .int .i64 0 ∧ s9 = .pointer (some ⟨x, 0, none⟩) ∧ s10 = .int .i64 i ∧ i ≤ l.length ∧ D ≤ 4 * i ∧ w.heap.size ≤ x ∧ (∀ k, three g s j k → w.heap.size ≤ k) ∧ Two wr g s j b x ds n' m X q R 0 D ∧ Ext no w wr) (fun _ _ _ s10 _ => l.length - (intOf s10).toNat)
  case atStart => exact ⟨0, s, j, b, x, 0, _, _, _, _, 0, rfl, rfl, rfl, rfl, Nat.zero_le _, by omega, hwx, HGG.out, HTw.out, hW3⟩
  case round =>
    clear HTw HGG hW3 hwx
    obtain ⟨i, s, j, b, x, n', ds, m, X, q, D, rfl, rfl, rfl, rfl, hil, hDi, hwx, hgg, hTw, hW⟩ := hrel
    have HGG := Lib.hid hgg
    have HTw := Lib.hid hTw
    clear hgg hTw
    by_cases hin : i < l.length
    · have d1 : decide (i < l.length) = true := decT hin
      obtain ⟨t, ht⟩ : ∃ t, l[i]? = some t := ⟨_, List.getElem?_eq_getElem hin⟩
      have htg := HG.out t (List.mem_of_getElem? ht)
      obtain ⟨ob, off, hsa, _⟩ := rows_shape kAct (by omega) hr (by omega)
      subst hsa
      have hrr := hr.ext hW (fun _ _ h => h)
      have y2 : wr.cell? ⟨ob, off + i * 3 + 2, none⟩ = some (.slice t.a t.l.length t.c) := rows_cell kAct hrr ht 2 _ rfl
      have HT0 := Lib.hid ht
      have htr := htg.rd.ext hW (fun _ _ h => h)
      have htk := htg.kind
      have hto := htg.ok
      have htl := htg.len
      have htc := htg.cap
      have HTo := Lib.hid hto
      clear hrr ht htg hto
      go_wp2_with fail
      refine (kvgood_any wr t.a t.l t.c htr HTo.out htl htc).mono ?_
      rintro e w1 ⟨ga, gc, rfl, hog, hxg⟩
      have hGl := goodL_len t.l
      have hGo := goodL_ok t.l HTo.out
      generalize goodL t.l = G at *
      have hgr := hog.rd
      have hgn := hog.nc
      have hgm := hog.cm
      have hgb := hog.base
      have HGo := Lib.hid hGo
      have hT1 := HTw.out.no hxg
      have hw01 := hxg.size
      have hW1 := hW.comp hxg
      have hfewX := hT1.few
      have c0 := hT1.kx.blk.cell 0 _ rfl
      have c1 := hT1.kx.blk.cell 1 _ rfl
      have c2 := hT1.kx.blk.cell 2 _ rfl
      clear hog y2 htr hGo hxg
      go_upto_region 15 with fail
      have hky := hT1.kx.copy 35
      have hxy := Ext.alloc no w1 (.cells #[.slice q.a0 X.r0.length q.c0, .slice q.a1 X.r1.length q.c1, .slice q.a2 X.r2.length q.c2] 35)
      have hzy : (w1.alloc (.cells #[.slice q.a0 X.r0.length q.c0, .slice q.a1 X.r1.length q.c1, .slice q.a2 X.r2.length q.c2] 35)).heap.size = w1.heap.size + 1 := by simp
      generalize w1.alloc (.cells #[.slice q.a0 X.r0.length q.c0, .slice q.a1 X.r1.length q.c1, .slice q.a2 X.r2.length q.c2] 35) = wy at *
      obtain ⟨y, hy⟩ : ∃ y, y = w1.heap.size := ⟨_, rfl⟩
      rw [← hy] at hky ⊢
      have hy1 : w1.heap.size ≤ y := by omega
      have hy2 : y < wy.heap.size := by omega
      have hgy := hgr.ext hxy (fun _ _ h => h)
      have HT1 := Lib.hid hT1
      clear hy hzy c0 c1 c2 hgr hT1
      go_wp2_with fail
      refine (kvof_any wy ga G gc hgy (by omega)).mono ?_
      rintro e w2 ⟨oa, oc, rfl, hoo, hxo⟩
      have hxos := hxo.size
      have hgr2 := hgy.ext hxo (fun _ _ h => h)
      go_wp2_with fail
      refine (rapply_any w2 y X q (hky.no hxo) (by omega) oa G oc hoo.rd HGo.out (fun ad ha => by have := (hoo.base ad ha).1; omega) (by omega)).mono ?_
      rintro e w3 ⟨rfl, q', hk3, hF3, hx3⟩
      have hDuo := HT1.out.fork hxy hy1 hy2 hxo hk3 hF3 hx3
      have hgr3 := hgr2.ext hx3 (fun ad ha e => by have e : ad.block = y := e; have := (hgb ad ha).2.1; omega)
      have hW3 : Ext no w w3 := ((hW1.comp hxy).comp hxo).trans hx3 (fun k hk e => by have e : k = y := e; have := hW1.size; omega)
      have hx3s := hx3.size
      have HDuo := Lib.hid hDuo
      have hkp := HT1.out.kp
      have hnle := hkp.nle
      have hdle := hkp.dle
      have hml : m.length ≤ 300 := by have := HT1.out.tells.len; omega
      have hst := hDuo.st
      have hgb3 : ∀ ad, ga = some ad → wr.heap.size ≤ ad.block := fun ad ha => (hgb ad ha).1
      clear hDuo hgy hgr2 hky hoo hxo hx3 hk3 hF3 hxy hgb
      go_wp2_with fail
      refine (kvapply_all w3 g s j b n' ds m X (fun i => i = x ∨ i = y) hst HT1.out.tells HT1.out.good (hkp.ok (by omega) (by omega) (by omega)) (by omega) (by omega) hml ga G gc hgr3 HGo.out hgn hgm).mono ?_
      rintro e w4 ⟨rfl, b', hS4, hb', hx4⟩
      have hDuo4 := HDuo.out.after hb' hS4 hx4
      have hW4 : Ext no w w4 := hW3.trans hx4 (fun k hk e => by have := HGG.out k e; omega)
      have hends := ap_ends hkp HT1.out.tells HT1.out.good HT1.out.few G
      obtain ⟨K, hK⟩ : ∃ K, K = xErr X G := ⟨_, rfl⟩
      rw [← hK] at hends ⊢
      generalize apR ds n' m G (kvEnc (wholeX X)) = AR at *
      generalize apM ds n' m G (kvEnc (wholeX X)) = m2 at *
      obtain ⟨ds2, n2, E⟩ := AR
      simp only at hends hDuo4 ⊢
      have HEnds := Lib.hid hends
      have HDuo4 := Lib.hid hDuo4
      have HX := Lib.hid (And.intro HT1.out.tells (And.intro HT1.out.good HT1.out.few))
      clear hK hends hDuo4 hS4 hx4 hst hgr3 HDuo hkp hnle hdle hml hb'
      go_upto_if 63 with fail
      go_cut [9] (fun s9 wx => ∃ (z : Nat) (Z : KvX) (p : Trio), s9 = .pointer (some ⟨z, 0, none⟩) ∧ w.heap.size ≤ z ∧ Two wx g s j b' z ds2 n2 m2 Z p R 0 (D + 3) ∧ wx = w4)
      case first =>
        rcases HEnds.out with ⟨e1, e2, e3, e4, e5⟩ | ⟨e0, e1, e2, e3, e4⟩ | ⟨_, _, hL, _⟩
        · have d5 : ((E : Int) == (K : Int)) = true := by rw [e1]; simp
          have HA := Lib.hid (HDuo4.out.right e3 e4 e5 e2)
          clear e1 e2 e3 e4 e5
          go_wp2_with fail
          go_meet
          exact ⟨y, _, _, rfl, by have := hW1.size; omega, HA.out, rfl⟩
        · have d5 : ((E : Int) == (K : Int)) = false := by rw [e1, e0]; rfl
          have d6 : ((E : Int) != 17) = false := by rw [e1]; rfl
          have HA := Lib.hid (HDuo4.out.left (by rw [e4]; exact HX.out.1) HX.out.2.1 HX.out.2.2 e3)
          clear e0 e1 e2 e3 e4
          go_wp2_with fail
          go_meet
          exact ⟨x, X, q, rfl, hwx, HA.out, rfl⟩
        · omega
      case rest =>
      obtain ⟨z, Z, p, rfl, hwz, hT4, h0⟩ := hcut
      subst h0
      have y0 : wc.cell? ⟨ob, off + i * 3, none⟩ = some (.int .i64 t.kind) := rows_cell kAct (hr.ext hW4 (fun _ _ h => h)) HT0.out 0 _ rfl
      have HT4 := Lib.hid hT4
      clear hT4 HDuo4 HEnds HX HT1 HTw hW3 hW1 hW
      go_wp2_with fail
      refine (kvwithin_any t.kind 8 wc (by omega) (by omega) htk).mono ?_
      rintro e _ ⟨rfl, rfl⟩
      go_upto_if 73 with fail
      go_cut [7, 8] (fun s7 s8 wx => ∃ (s j b n' : Nat) (ds : DS) (m : KvM), s7 = .pointer (some ⟨s, 0, none⟩) ∧ s8 = .int .i64 0 ∧ (∀ k, three g s j k → w.heap.size ≤ k) ∧ Two wx g s j b z ds n' m Z p R 0 (D + 4) ∧ Ext no w wx)
      case first =>
        by_cases hk7 : t.kind % 8 = 7
        · have d7 : (t.kind % 8 == 7) = true := by rw [beq_iff_eq]; exact hk7
          clear hk7
          go_wp2_with fail
          have hdl := HT4.out.kp.dle
          refine (kvopen_opens wc g ds2 (fun i => i = z) (HT4.out.st.dkM.fewer (fun k _ e => .inr e)) HT4.out.st.mlt (HT4.out.kp.ok (by omega) (by omega) (by omega)) Z R (D + 3 + 1) HT4.out.kp.opens).mono ?_
          rintro e w5 ⟨s', j', b5, ds5, n5, m5, rfl, hS5, ⟨q1, q2, q3⟩, ht5, hg5, hk5, hx5⟩
          have HR := Lib.hid (HT4.out.reopened hS5 ⟨q1, q2, q3⟩ ht5 hk5 hx5)
          have hW5 : Ext no w w5 := hW4.trans hx5 (fun k hk e => by have e : k = g := e; omega)
          have hwc := hW4.size
          clear hS5 ht5 hg5 hk5 hx5
          go_wp2_with fail
          go_meet
          exact ⟨s', j', b5, n5, ds5, m5, rfl, rfl, fun k hk => by rcases hk with e | e | e <;> omega, HR.out, hW5⟩
        · have d7 : (t.kind % 8 == 7) = false := by rw [beq_eq_false_iff_ne]; exact hk7
          clear hk7
          go_wp2_with fail
          go_meet
          have hT := HT4.out
          exact ⟨s, j, b', n2, ds2, m2, rfl, rfl, HGG.out, ⟨hT.st, hT.kx, hT.tells, hT.good, hT.few, hT.kp.more (by omega), hT.xn, hT.off⟩, hW4⟩
      case rest =>
      obtain ⟨s5, j5, b5, n5, ds5, m5, rfl, rfl, hgg5, hT5, hW5⟩ := hcut
      have HT5 := Lib.hid hT5
      have HGG5 := Lib.hid hgg5
      clear hT5 hgg5 HT4 y0 hW4
      go_wp2_with fail
      refine (kvsame_any wc s5 j5 b5 m5 Z z Z p HT5.out.st.st.blk HT5.out.st.st.mp HT5.out.tells HT5.out.few HT5.out.kx HT5.out.few).mono ?_
      rw [(sameX_iff Z Z).2 rfl]
      rintro e w6 ⟨rfl, hx6⟩
      have hW6 := hW5.comp hx6
      go_wp2_with fail
      go_roundw
      case rel => exact ⟨i + 1, s5, j5, b5, z, n5, ds5, m5, Z, p, D + 4, rfl, rfl, rfl, by go_num, by omega, by omega, hwz, HGG5.out, HT5.out.no hx6, hW6⟩
      case measure => simp [intOf]; omega
    · have d1 : decide (i < l.length) = false := decF hin
      go_wp2_with fail
      go_ret
      exact ⟨rfl, hW⟩
end Go.Proofs.Ytpljcnjkdjblmaa
