/- The walk of KvCrashes. -/
import Derived.Test.YtpljcnjkdjblmaaKvCr
import Derived.Test.YtpljcnjkdjblmaaKvFe
namespace Go.Proofs.Ytpljcnjkdjblmaa
open Go.RowKit Go.Esc
set_option linter.unusedVariables false
set_option linter.unusedSimpArgs false

set_option maxRecDepth 100000 in
set_option maxHeartbeats 32000000 in
theorem kvcrashes_walk (w : World) (la : Option Addr) (l : List ActR) (lc : Nat) (hr : Rd w la (rows ActR.cells l)) (hg : ∀ x ∈ l, x.good w) (hlc : l.length ≤ lc) (hcm : lc ≤ maxLen) :
    Calls Try.prog 9 #[.slice la l.length lc] w fun e w' => e = .returned (.bool true) ∧ Ext no w w' := by
  have HG := Lib.hid hg
  have Hcm := Lib.hid hcm
  unfold maxLen at hcm
  clear hg
  go_enter Try.func9, Try.ntmps9
  go_wp2_with fail
  refine (kvknown_any w).mono ?_
  rintro e w0 ⟨rfl, hx0⟩
  have hr0 := hr.ext hx0 (fun _ _ h => h)
  have hg0 : ∀ x ∈ l, x.good w0 := fun x hx => by
    have h := HG.out x hx
    exact ⟨h.kind, h.n, h.rd.ext hx0 (fun _ _ h => h), h.ok, h.len, h.cap⟩
  have HG0 := Lib.hid hg0
  clear hg0
  go_wp2_with fail
  refine (kvfew_any w0 la l lc hr0 HG0.out hlc Hcm.out).mono ?_
  rintro e _ ⟨r, rfl, hfew, rfl⟩
  cases r with
  | false =>
    clear hfew
    go_wp2_with fail
    go_ret
    exact ⟨rfl, hx0⟩
  | true =>
  have hf := hfew rfl
  have hl60 := hf.1
  clear hfew hf
  go_wp2_with fail
  refine (newdisk_any w0 1048576 (by omega) (by omega) (fun _ => False)).mono ?_
  rintro e w1 ⟨g, rfl, hD, hgg, hx1⟩
  have hW1 := hx0.comp hx1
  have hgw : w.heap.size ≤ g := by have := hx0.size; omega
  have hw1 := hW1.size
  clear hx0 hx1 hgg hr0 HG0
  go_wp2_with fail
  refine (kvfresh w1 g 1048576 hD (by omega)).mono ?_
  rintro e w2 ⟨s, j, b, rfl, hSt, ⟨h1, h2, h3⟩, hx2⟩
  have hW2 : Ext no w w2 := hW1.trans hx2 (fun k hk e => by have e : k = g := e; omega)
  have hw2 := hx2.size
  clear hx2 hD hW1
  go_upto_region 8 with fail
  have hTw := (Two.start hSt 35).lf (show 0 ≤ 6 by omega) (Nat.le_refl 0)
  have hxb := Ext.alloc no w2 (.cells #[.slice none 0 0, .slice none 0 0, .slice none 0 0] 35)
  generalize w2.alloc (.cells #[.slice none 0 0, .slice none 0 0, .slice none 0 0] 35) = w3 at *
  obtain ⟨x, hx⟩ : ∃ x, x = w2.heap.size := ⟨_, rfl⟩
  rw [← hx] at hTw ⊢
  have hwx : w.heap.size ≤ x := by have := hW2.size; omega
  have hW3 := hW2.comp hxb
  have hgg : ∀ k, three g s j k → w.heap.size ≤ k := fun k hk => by rcases hk with e | e | e <;> omega
  have HGG := Lib.hid hgg
  have HTw := Lib.hid hTw
  clear hx hxb hSt hTw hW2 hgg h1 h2 h3 hw2
  go_wp2_with fail
  go_loopw [5, 6, 7, 8] (fun s7 s8 s9 s10 wr => ∃ (i s j b x n' : Nat) (ds : DS) (m : KvM) (X : KvX) (q : Trio) (D : Nat), s7 = .pointer (some ⟨s, 0, none⟩) ∧ s8 = .int .i64 0 ∧ s9 = .pointer (some ⟨x, 0, none⟩) ∧ s10 = .int .i64 i ∧ i ≤ l.length ∧ D ≤ 4 * i ∧ w.heap.size ≤ x ∧ (∀ k, three g s j k → w.heap.size ≤ k) ∧ X.Low ∧ Two wr g s j b x ds n' m X q 1048576 6 D ∧ Ext no w wr) (fun _ _ _ s10 _ => l.length - (intOf s10).toNat)
  case atStart => exact ⟨0, s, j, b, x, 0, _, _, _, _, 0, rfl, rfl, rfl, rfl, Nat.zero_le _, by omega, hwx, HGG.out, KvX.Low.nil, HTw.out, hW3⟩
  case round =>
    clear HTw HGG hW3 hwx
    obtain ⟨i, s, j, b, x, n', ds0, m, X, q, D, rfl, rfl, rfl, rfl, hil, hDi, hwx, hgg, hlow, hTw, hW⟩ := hrel
    have HGG := Lib.hid hgg
    have HTw := Lib.hid hTw
    have HLow := Lib.hid hlow
    clear hgg hTw hlow
    by_cases hin : i < l.length
    · have d1 : decide (i < l.length) = true := decT hin
      obtain ⟨t, ht⟩ : ∃ t, l[i]? = some t := ⟨_, List.getElem?_eq_getElem hin⟩
      have htg := HG.out t (List.mem_of_getElem? ht)
      obtain ⟨ob, off, hsa, _⟩ := rows_shape kAct (by omega) hr (by omega)
      subst hsa
      have hrr := hr.ext hW (fun _ _ h => h)
      have y0 : wr.cell? ⟨ob, off + i * 3, none⟩ = some (.int .i64 t.kind) := rows_cell kAct hrr ht 0 _ rfl
      have HT0 := Lib.hid ht
      have htn := htg.n
      have htk := htg.kind
      have hto := htg.ok
      have htl := htg.len
      have htc := htg.cap
      have HTo := Lib.hid hto
      have HTr := Lib.hid htg.rd
      clear hrr ht htg hto
      go_wp2_with fail
      refine (kvwithin_any t.kind 8 wr (by omega) (by omega) htk).mono ?_
      rintro e _ ⟨rfl, rfl⟩
      obtain ⟨tt, htt⟩ : ∃ tt : Bool, (t.kind % 8 == 5) = tt := ⟨_, rfl⟩
      go_upto_if 42 with fail
      clear htt y0
      go_cut [53] (fun _ wx => ∃ ds, Two wx g s j b x ds n' m X q 1048576 6 D ∧ Ext no w wx)
      case first =>
        cases tt with
        | true =>
          have hgw2 := HTw.out.st.dkM.lt
          go_upto_region 14 with fail
          refine wp_region_F [7] (looks [(7, fun z => z.cell? ⟨ob, off + i * 3 + 1, none⟩ = some (.int .i64 t.n))]) (by kernel_rfl) ?_
          have hxd := Ext.drew no wr
          generalize wr.drew = wd at *
          have hTd := HTw.out.no hxd
          have y1 : wd.cell? ⟨ob, off + i * 3 + 1, none⟩ = some (.int .i64 t.n) := rows_cell kAct (hr.ext (hW.comp hxd) (fun _ _ h => h)) HT0.out 1 _ rfl
          have hT0 : ∀ k, looks [(7, fun z => z.cell? ⟨ob, off + i * 3 + 1, none⟩ = some (.int .i64 t.n))] k (wd) := looks_all ⟨y1, trivial⟩
          refine wpF_take 0 (v := ?_) rfl (by kernel_rfl) (by kernel_rfl) (by kernel_rfl) (fun _ _ _ h => h) hT0 (by rfl) ?_ ?_
          rotate_left
          · (intro wq; go_simp; try with_reducible rfl)
          simp only [Act.put, List.setIfInBounds_toArray, List.set_cons_zero, List.set_cons_succ]
          refine wpF_take 1 (v := ?_) rfl (by kernel_rfl) (by kernel_rfl) (by kernel_rfl) (fun _ _ _ h => h) hT0 (by rfl) ?_ ?_
          rotate_left
          · (intro wq; go_simp; try with_reducible rfl)
          simp only [Act.put, List.setIfInBounds_toArray, List.set_cons_zero, List.set_cons_succ]
          refine wpF_take 2 (v := ?_) rfl (by kernel_rfl) (by kernel_rfl) (by kernel_rfl) (fun _ _ _ h => h) hT0 (by rfl) ?_ ?_
          rotate_left
          · (intro wq; go_simp; try with_reducible rfl)
          simp only [Act.put, List.setIfInBounds_toArray, List.set_cons_zero, List.set_cons_succ]
          refine wpF_take 3 (v := ?_) rfl (by kernel_rfl) (by kernel_rfl) (by kernel_rfl) (fun _ _ _ h => h) hT0 (by rfl) ?_ ?_
          rotate_left
          · (intro wq; go_simp; try with_reducible rfl)
          simp only [Act.put, List.setIfInBounds_toArray, List.set_cons_zero, List.set_cons_succ]
          refine wpF_take 4 (v := ?_) rfl (by kernel_rfl) (by kernel_rfl) (by kernel_rfl) (fun _ _ _ h => h) hT0 (by rfl) ?_ ?_
          rotate_left
          · (intro wq; go_simp; try with_reducible rfl)
          simp only [Act.put, List.setIfInBounds_toArray, List.set_cons_zero, List.set_cons_succ]
          refine wpF_take 5 (v := ?_) rfl (by kernel_rfl) (by kernel_rfl) (by kernel_rfl) (fun _ _ _ h => h) hT0 (by rfl) ?_ ?_
          rotate_left
          · (intro wq; go_simp; try with_reducible rfl)
          simp only [Act.put, List.setIfInBounds_toArray, List.set_cons_zero, List.set_cons_succ]
          refine wpF_take 6 (v := ?_) rfl (by kernel_rfl) (by kernel_rfl) (by kernel_rfl) (fun _ _ _ h => h) hT0 (by rfl) ?_ ?_
          rotate_left
          · (intro wq; go_simp; try with_reducible rfl)
          simp only [Act.put, List.setIfInBounds_toArray, List.set_cons_zero, List.set_cons_succ]
          refine wpF_look 7 (v := .int .i64 t.n) rfl rfl (by kernel_rfl) (by kernel_rfl) (by kernel_rfl) (by kernel_rfl) (fun _ _ _ h => h) hT0 (by rfl) (fun w hS => by have hS : w.cell? ⟨ob, off + i * 3 + 1, none⟩ = some (.int .i64 t.n) := hS; have q := hS; go_simp) ?_
          simp only [Act.put, List.setIfInBounds_toArray, List.set_cons_zero, List.set_cons_succ]
          refine wpF_exec 8 rfl (by kernel_rfl) (by rfl) ?_
          intro K hK
          go_simp
          refine (kvwithin_any t.n 6 wd (by omega) (by omega) htn).mono ?_
          rintro e _ ⟨rfl, rfl⟩
          have hT1 : ∀ k, looks [(7, fun z => z.cell? ⟨ob, off + i * 3 + 1, none⟩ = some (.int .i64 t.n))] k (wd) := looks_all ⟨y1, trivial⟩
          refine hK _ _ (looks [(7, fun z => z.cell? ⟨ob, off + i * 3 + 1, none⟩ = some (.int .i64 t.n))]) ⟨.inr (.inl (by kernel_rfl)), trivial⟩ hT1 ?_
          clear hK K
          try simp only [Act.put, List.setIfInBounds_toArray, List.set_cons_zero, List.set_cons_succ]
          have hq0 := Int.emod_nonneg t.n (show (6 : Int) ≠ 0 by omega)
          have hq1 := Int.emod_lt_of_pos t.n (show (0 : Int) < 6 by omega)
          generalize t.n % 6 = pp at *
          refine wpF_take 9 (v := .int .i64 (1 + pp)) rfl (by kernel_rfl) (by kernel_rfl) (by kernel_rfl) (fun _ _ _ h => h) hT1 (by rfl) (by intro wq; go_simp; first | done | rfl | (rw [IntKind.wrap_i64]; omega)) ?_
          simp only [Act.put, List.setIfInBounds_toArray, List.set_cons_zero, List.set_cons_succ]
          refine wpF_exec 10 rfl (by kernel_rfl) (by rfl) ?_
          intro K hK
          go_simp
          refine (stop_any wd g ds0 _ hTd.st.dkM (1 + pp) ⟨by omega, by omega⟩).mono ?_
          rintro e w5 ⟨rfl, hD5, hx5⟩
          have hT2 : ∀ k, looks [(7, fun z => True)] k (w5) := looks_all ⟨trivial, trivial⟩
          refine hK _ _ (looks [(7, fun z => True)]) ⟨.inr (.inl (by kernel_rfl)), trivial⟩ hT2 ?_
          clear hK K
          try simp only [Act.put, List.setIfInBounds_toArray, List.set_cons_zero, List.set_cons_succ]
          refine wpF_done (by kernel_rfl) ?_ _
          have HR := Lib.hid (hTd.stop (1 + pp) hD5 hx5 (by omega))
          have hW5 : Ext no w w5 := (hW.comp hxd).trans hx5 (fun k hk e => by have e : k = g := e; omega)
          clear hTd hD5 hx5 hxd y1 hW
          go_wp2_with fail
          go_meet
          exact ⟨_, HR.out, hW5⟩
        | false =>
          go_wp2_with fail
          go_meet
          exact ⟨ds0, HTw.out, hW⟩
      case rest =>
      obtain ⟨ds, hTw, hWc⟩ := hcut
      clear HTw hW
      have HTw := Lib.hid hTw
      clear hTw
      obtain ⟨wr, hwr0⟩ : ∃ v, v = wc := ⟨_, rfl⟩
      rw [← hwr0] at HTw hWc ⊢
      have hW := hWc
      clear hwr0 hWc
      have y2 : wr.cell? ⟨ob, off + i * 3 + 2, none⟩ = some (.slice t.a t.l.length t.c) := rows_cell kAct (hr.ext hW (fun _ _ h => h)) HT0.out 2 _ rfl
      have htr := HTr.out.ext hW (fun _ _ h => h)
      go_wp2_with fail
      refine (kvgood_any wr t.a t.l t.c htr HTo.out htl htc).mono ?_
      rintro e w1 ⟨ga, gc, rfl, hog, hxg⟩
      have hGl := goodL_len t.l
      have hGo := goodL_ok t.l HTo.out
      obtain ⟨hx0, hlow2⟩ := HLow.out.good HTw.out.good t.l
      generalize goodL t.l = G at *
      have HX0 := Lib.hid hx0
      have HLow2 := Lib.hid hlow2
      have hgr := hog.rd
      have hgn := hog.nc
      have hgm := hog.cm
      have hgb := hog.base
      have HGo := Lib.hid hGo
      have hT1 := HTw.out.no hxg
      have hw01 := hxg.size
      have hW1 := hW.comp hxg
      have hfewX := hT1.few
      have c0 := hT1.kx.blk.cell 0 _ rfl
      have c1 := hT1.kx.blk.cell 1 _ rfl
      have c2 := hT1.kx.blk.cell 2 _ rfl
      clear hog y2 htr hGo hxg hx0 hlow2
      go_upto_region 17 with fail
      have hky := hT1.kx.copy 35
      have hxy := Ext.alloc no w1 (.cells #[.slice q.a0 X.r0.length q.c0, .slice q.a1 X.r1.length q.c1, .slice q.a2 X.r2.length q.c2] 35)
      have hzy : (w1.alloc (.cells #[.slice q.a0 X.r0.length q.c0, .slice q.a1 X.r1.length q.c1, .slice q.a2 X.r2.length q.c2] 35)).heap.size = w1.heap.size + 1 := by simp
      generalize w1.alloc (.cells #[.slice q.a0 X.r0.length q.c0, .slice q.a1 X.r1.length q.c1, .slice q.a2 X.r2.length q.c2] 35) = wy at *
      obtain ⟨y, hy⟩ : ∃ y, y = w1.heap.size := ⟨_, rfl⟩
      rw [← hy] at hky ⊢
      have hy1 : w1.heap.size ≤ y := by omega
      have hy2 : y < wy.heap.size := by omega
      have hgy := hgr.ext hxy (fun _ _ h => h)
      have HT1 := Lib.hid hT1
      clear hy hzy c0 c1 c2 hgr hT1
      go_wp2_with fail
      refine (kvof_any wy ga G gc hgy (by omega)).mono ?_
      rintro e w2 ⟨oa, oc, rfl, hoo, hxo⟩
      have hxos := hxo.size
      have hgr2 := hgy.ext hxo (fun _ _ h => h)
      go_wp2_with fail
      refine (rapply_any w2 y X q (hky.no hxo) (by omega) oa G oc hoo.rd HGo.out (fun ad ha => by have := (hoo.base ad ha).1; omega) (by omega)).mono ?_
      rintro e w3 ⟨rfl, q', hk3, hF3, hx3⟩
      have hxap : xAp X G = X.puts G := by unfold xAp; rw [if_pos HX0.out]
      rw [hxap] at hk3
      have hDuo := HT1.out.fork hxy hy1 hy2 hxo hk3 hF3 hx3
      have hgr3 := hgr2.ext hx3 (fun ad ha e => by have e : ad.block = y := e; have := (hgb ad ha).2.1; omega)
      have hW3 : Ext no w w3 := ((hW1.comp hxy).comp hxo).trans hx3 (fun k hk e => by have e : k = y := e; have := hW1.size; omega)
      have hx3s := hx3.size
      have HDuo := Lib.hid hDuo
      have hkp := HT1.out.kp
      have hnle := hkp.nle
      have hdle := hkp.dle
      have hml : m.length ≤ 300 := by have := HT1.out.tells.len; omega
      have hst := hDuo.st
      have HXap := Lib.hid hxap
      clear hDuo hgy hgr2 hky hoo hxo hx3 hk3 hF3 hxy hgb hxap
      go_wp2_with fail
      refine (kvapply_all w3 g s j b n' ds m X (fun i => i = x ∨ i = y) hst HT1.out.tells HT1.out.good (hkp.ok (by omega) (by omega) (by omega)) (by omega) (by omega) hml ga G gc hgr3 HGo.out hgn hgm).mono ?_
      rintro e w4 ⟨rfl, b', hS4, hb', hx4⟩
      have hDuo4 := HDuo.out.after hb' hS4 hx4
      have hW4 : Ext no w w4 := hW3.trans hx4 (fun k hk e => by have := HGG.out k e; omega)
      have hends := ap_ends hkp HT1.out.tells HT1.out.good HT1.out.few G
      rw [HXap.out, HX0.out] at hends
      generalize apR ds n' m G (kvEnc (wholeX X)) = AR at *
      generalize apM ds n' m G (kvEnc (wholeX X)) = m2 at *
      obtain ⟨ds2, n2, E⟩ := AR
      simp only at hends hDuo4 ⊢
      have HDuo4 := Lib.hid hDuo4
      have HX := Lib.hid (And.intro HT1.out.tells (And.intro HT1.out.good HT1.out.few))
      have hwy : w.heap.size ≤ y := by have := hW1.size; omega
      clear hDuo4 hS4 hx4 hst hgr3 HDuo hkp hnle hdle hml hb' hW3
      rcases hends with ⟨e1, e2, e3, e4, e5⟩ | ⟨_, _, hr', _⟩ | ⟨_, e1, _, hDn, e4⟩
      case inr.inl => omega
      · have HA := Lib.hid (HDuo4.out.right e3 e4 e5 e2)
        have hal := e2.alive
        have hdd := dead_any w4 g ds2 _ HA.out.st.dkM
        rw [hal] at hdd
        subst e1
        clear e2 e3 e4 e5 hal
        go_wp2_with fail
        refine hdd.mono ?_
        rintro e _ ⟨rfl, rfl⟩
        clear hdd
        go_wp2_with fail
        go_roundw
        case rel => exact ⟨i + 1, s, j, b', y, n2, ds2, m2, X.puts G, q', D + 3, rfl, rfl, rfl, by go_num, by omega, by omega, hwy, HGG.out, HLow2.out, HA.out, hW4⟩
        case measure => simp [intOf]; omega
      · subst e1
        subst e4
        have HDn := Lib.hid hDn
        have hdd := dead_any w4 g ds2 _ HDuo4.out.st.dkM
        rw [hDn.1] at hdd
        have hokd := hDn.ok (by omega) (by omega)
        clear hDn
        have y1 : w4.cell? ⟨ob, off + i * 3 + 1, none⟩ = some (.int .i64 t.n) := rows_cell kAct (hr.ext hW4 (fun _ _ h => h)) HT0.out 1 _ rfl
        go_wp2_with fail
        refine hdd.mono ?_
        rintro e _ ⟨rfl, rfl⟩
        clear hdd
        go_wp2_with fail
        refine (crash_any w4 g ds2 _ HDuo4.out.st.dkM (fun k hk => by
          obtain ⟨l1, l2, l3, l4⟩ := HDuo4.out.st.st.low
          rcases hk with (e | e | e) | e
          · omega
          · omega
          · omega
          · exact HDuo4.out.st.mlt k e) hokd t.n htn).mono ?_
        rintro e w5 ⟨rfl, hD5, hx5⟩
        have hokc := DS.ok_crash hokd t.n
        have hx5s := hx5.size
        have hW5 : Ext no w w5 := hW4.trans hx5 (fun k hk e => by have e : k = g := e; omega)
        have hDM : Dk w5 g (ds2.crash t.n) (fun i => i = x ∨ i = y) := hD5.fewer (fun k _ e => .inr e)
        have hM5 : ∀ k, (k = x ∨ k = y) → k < w5.heap.size := fun k hk => by have := HDuo4.out.st.mlt k hk; omega
        have HOp := Lib.hid (HDn.out.crash t.n)
        generalize ds2.crash t.n = dc at *
        have HD5 := Lib.hid hDM
        clear hD5 hokd y1 hDM
        obtain ⟨X2, hX2, hO2⟩ : ∃ X2, (X2 = X ∨ X2 = X.puts G) ∧ Opens dc X2 1048576 (D + 3 + 1) := by
          rcases HOp.out with h | h
          · exact ⟨X, .inl rfl, h⟩
          · exact ⟨_, .inr rfl, h⟩
        have HX2 := Lib.hid hX2
        clear hX2 HOp
        go_wp2_with fail
        refine (kvopen_opens w5 g dc (fun i => i = x ∨ i = y) HD5.out hM5 hokc X2 1048576 (D + 3 + 1) hO2).mono ?_
        rintro e w6 ⟨s', j', b5, ds5, n5, m5, rfl, hS5, ⟨q1, q2, q3⟩, ht5, hg5, hk5, hx6⟩
        have hxx := hx5.comp hx6
        have hD6 := HDuo4.out.reopened hS5 ⟨by omega, by omega, by omega⟩ hxx
        have hW6 : Ext no w w6 := hW5.trans hx6 (fun k hk e => by have e : k = g := e; omega)
        have hfew2 : X2.len ≤ 300 := by
          rcases HX2.out with e | e
          · rw [e]; exact HX.out.2.2
          · rw [e]; exact (xErr_ok HX0.out).2.2
        have hfewp : (X.puts G).len ≤ 300 := (xErr_ok HX0.out).2.2
        have hwc := hW4.size
        have hgg6 : ∀ k, three g s' j' k → w.heap.size ≤ k := fun k hk => by rcases hk with e | e | e <;> omega
        have HGG6 := Lib.hid hgg6
        have HD6 := Lib.hid hD6
        have H5 := Lib.hid (And.intro ht5 (And.intro hg5 (hk5.lf (show 0 ≤ 6 by omega))))
        clear hS5 ht5 hg5 hk5 hx6 hxx hD6 hgg6 HD5 hO2 hx5 hW5 HDuo4
        go_wp2_with fail
        refine (kvsame_any w6 s' j' b5 m5 X2 x X q HD6.out.st.st.blk HD6.out.st.st.mp H5.out.1 hfew2 HD6.out.kx HX.out.2.2).mono ?_
        rintro e w7 ⟨rfl, hx7⟩
        have hW7 := hW6.comp hx7
        cases hs1 : sameX X2 X with
        | true =>
          have hXe := (sameX_iff _ _).1 hs1
          have HA := Lib.hid ((HD6.out.no hx7).left (room := 1048576) (Lf := 6) (D := D + 3 + 1) (by rw [← hXe]; exact H5.out.1) HX.out.2.1 HX.out.2.2 (by rw [← hXe]; exact H5.out.2.2))
          clear hs1 hXe
          go_wp2_with fail
          go_roundw
          case rel => exact ⟨i + 1, s', j', b5, x, n5, ds5, m5, X, q, D + 4, rfl, rfl, rfl, by go_num, by omega, by omega, hwx, HGG6.out, HLow.out, HA.out, hW7⟩
          case measure => simp [intOf]; omega
        | false =>
          have hXe : X2 = X.puts G := by
            rcases HX2.out with e | e
            · rw [(sameX_iff X2 X).2 e] at hs1; cases hs1
            · exact e
          have HXe := Lib.hid hXe
          have HD7 := Lib.hid (HD6.out.no hx7)
          have HS1 := Lib.hid hs1
          clear hXe hs1
          go_wp2_with fail
          refine (kvsame_any w7 s' j' b5 m5 X2 y (X.puts G) q' HD7.out.st.st.blk HD7.out.st.st.mp H5.out.1 hfew2 HD7.out.ky hfewp).mono ?_
          rw [(sameX_iff X2 (X.puts G)).2 HXe.out]
          rintro e w8 ⟨rfl, hx8⟩
          have hW8 := hW7.comp hx8
          have HA := Lib.hid ((HD7.out.no hx8).right (room := 1048576) (Lf := 6) (D := D + 3 + 1) (by rw [← HXe.out]; exact H5.out.1) (by rw [← HXe.out]; exact H5.out.2.1) hfewp (by rw [← HXe.out]; exact H5.out.2.2))
          go_wp2_with fail
          go_roundw
          case rel => exact ⟨i + 1, s', j', b5, y, n5, ds5, m5, X.puts G, q', D + 4, rfl, rfl, rfl, by go_num, by omega, by omega, hwy, HGG6.out, HLow2.out, HA.out, hW8⟩
          case measure => simp [intOf]; omega
    · have d1 : decide (i < l.length) = false := decF hin
      go_wp2_with fail
      go_ret
      exact ⟨rfl, hW⟩
end Go.Proofs.Ytpljcnjkdjblmaa
