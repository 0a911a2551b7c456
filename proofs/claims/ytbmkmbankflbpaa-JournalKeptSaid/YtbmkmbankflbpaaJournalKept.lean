/- The walk of the law JournalKept. -/
import Derived.Test.YtbmkmbankflbpaaJoV
import Derived.Test.YtbmkmbankflbpaaRegionF
import Derived.Deep.CutBlock
namespace Go.Proofs.Ytbmkmbankflbpaa
open Go.RowKit Go.Esc
set_option linter.unusedVariables false
set_option linter.unusedSimpArgs false

theorem TStrs : SlT Try.prog 66 9 (.string ⟨#[]⟩) 1 16 := ⟨Try.underlying66, by kernel_rfl, rfl, by decide⟩
def sv (b : List UInt8) : Value := .string (str b)

set_option maxRecDepth 100000 in
set_option maxHeartbeats 16000000 in
theorem kept_walk (w : World) (la : Option Addr) (ps : List Part) (lc : Nat) (ia : Option Addr) (il : List Int) (ic : Nat) (stop pick : Int)
    (hld : Rd w la (ps.map Part.v)) (hlg : ∀ p ∈ ps, p.good w) (hll : ps.length ≤ lc) (hlc : lc ≤ maxLen) (hird : Rd w ia (is il)) (hiok : ∀ n ∈ il, I64ok n) (hilc : il.length ≤ ic) (hic : ic ≤ maxLen) (hstop : I64ok stop) (hpick : I64ok pick) :
    Calls Try.prog 7 #[.slice la ps.length lc, .slice ia il.length ic, .int .i64 stop, .int .i64 pick] w fun e w' => e = .returned (.bool true) ∧ Ext no w w' := by
  unfold maxLen at hlc hic
  have Hlg := Lib.hid hlg
  have Hiok := Lib.hid hiok
  have Hstop := Lib.hid hstop
  have Hpick := Lib.hid hpick
  clear hlg hiok hstop hpick
  go_enter Try.func7, Try.ntmps7
  go_wp2_with fail
  refine (known_any w).mono ?_
  rintro e w1 ⟨rfl, hx1⟩
  go_wp2_with fail
  refine (newdisk_any w1 1048576 (by omega) (by omega) (fun _ => False)).mono ?_
  rintro e w2 ⟨g, rfl, hD2, hg, hx2⟩
  have hgw : w.heap.size ≤ g := Nat.le_trans hx1.size hg
  have hx12 := hx1.comp hx2
  go_wp2_with fail
  refine (open_any w2 g _ _ hD2 (fun _ h => h.elim) (DS.new_ok 1048576 (by omega))).mono ?_
  rintro e w3 ⟨J, sa, sc, ea, ec, rfl, _, _, hx3, hend⟩
  rw [new_opens] at hend ⊢
  simp only at hend ⊢
  rcases hend with ⟨h0, _⟩ | ⟨_, j, rfl, hj1, hj2, hJ, hD3⟩
  · exact absurd rfl h0
  have hx03 := ext_new hx12 hgw hx3
  have hjw : w.heap.size ≤ j := Nat.le_trans hx12.size hj1
  have hgj : g < j := by have := hD2.lt; omega
  obtain ⟨q, hq⟩ : ∃ q : Nat, stop % 40 = q := ⟨(stop % 40).toNat, by omega⟩
  have hq40 : q < 40 := by omega
  have Hq := Lib.hid hq
  clear hx1 hx2 hx3 hx12 hD2 hj1 hq
  have hDd := hD3.no (Ext.drew no w3)
  have hJd := hJ.drew
  have hxd := hx03.comp (Ext.drew no w3)
  go_upto_region 7 with fail
  --<A
  refine wp_region_F [] (looks []) (by kernel_rfl) ?_
  have hT0 : ∀ k, looks [] k (w3.drew) := looks_all trivial
  refine wpF_take 0 (v := ?_) rfl (by kernel_rfl) (by kernel_rfl) (by kernel_rfl) (fun _ _ _ h => h) hT0 (by rfl) ?_ ?_
  rotate_left
  · (intro wq; go_simp; try with_reducible rfl)
  simp only [Act.put, List.setIfInBounds_toArray, List.set_cons_zero, List.set_cons_succ]
  refine wpF_take 1 (v := ?_) rfl (by kernel_rfl) (by kernel_rfl) (by kernel_rfl) (fun _ _ _ h => h) hT0 (by rfl) ?_ ?_
  rotate_left
  · (intro wq; go_simp; try with_reducible rfl)
  simp only [Act.put, List.setIfInBounds_toArray, List.set_cons_zero, List.set_cons_succ]
  refine wpF_take 2 (v := ?_) rfl (by kernel_rfl) (by kernel_rfl) (by kernel_rfl) (fun _ _ _ h => h) hT0 (by rfl) ?_ ?_
  rotate_left
  · (intro wq; go_simp; try with_reducible rfl)
  simp only [Act.put, List.setIfInBounds_toArray, List.set_cons_zero, List.set_cons_succ]
  refine wpF_take 3 (v := ?_) rfl (by kernel_rfl) (by kernel_rfl) (by kernel_rfl) (fun _ _ _ h => h) hT0 (by rfl) ?_ ?_
  rotate_left
  · (intro wq; go_simp; try with_reducible rfl)
  simp only [Act.put, List.setIfInBounds_toArray, List.set_cons_zero, List.set_cons_succ]
  refine wpF_call 4 (v := .int .i64 (q : Int)) 20 #[.int .i64 stop, .int .i64 40] rfl (by kernel_rfl) (by kernel_rfl) (by kernel_rfl) (fun _ _ _ h => h) hT0 (by rfl) (by intro wq; go_simp; try with_reducible rfl) (fun w => by rw [← Hq.out]; exact within_any stop 40 w (by omega) (by omega) Hstop.out) ?_
  simp only [Act.put, List.setIfInBounds_toArray, List.set_cons_zero, List.set_cons_succ]
  refine wpF_take 5 (v := .int .i64 (1 + (q : Int))) rfl (by kernel_rfl) (by kernel_rfl) (by kernel_rfl) (fun _ _ _ h => h) hT0 (by rfl) (by intro wq; go_simp; try (rw [IntKind.wrap_i64] <;> omega)) ?_
  simp only [Act.put, List.setIfInBounds_toArray, List.set_cons_zero, List.set_cons_succ]
  refine wpF_exec 6 rfl (by kernel_rfl) (by rfl) ?_
  intro K hK
  go_simp
  refine (stop_any w3.drew g _ _ hDd (1 + (q : Int)) ⟨by omega, by omega⟩).mono ?_
  rintro e w4 ⟨rfl, hD4, hx4⟩
  have hJ4 := hJd.ext (by simp [jcells]) hx4 (fun h => by simp only [Esc.just] at h; omega)
  have hx04 := hxd.trans hx4 (fun i hi h => by simp only [Esc.just] at h; omega)
  have hs4 := hx4.size
  have hT1 : ∀ k, looks [] k (w4) := looks_all trivial
  refine hK _ _ (looks []) trivial hT1 ?_
  clear hK K
  try simp only [Act.put, List.setIfInBounds_toArray, List.set_cons_zero, List.set_cons_succ]
  refine wpF_done (by kernel_rfl) ?_ _
  have hU0 : Up ((DS.new 1048576).stop (1 + (q : Int))) [] [] 0 := ⟨rfl, by show 1 ≤ (1 + (q : Int)).toNat; omega, by show (1 + (q : Int)).toNat ≤ 40; omega, by show (1 + (q : Int)).toNat % 2 ≤ 1; omega, rfl, rfl, rfl, rfl, Nat.le_refl _, .inl rfl, by simp, by simp, by simp⟩
  have hj4 : j < w4.heap.size := Nat.lt_of_lt_of_le hj2 hs4
  have hg4 : g < w4.heap.size := by omega
  generalize (DS.new 1048576).stop (1 + (q : Int)) = s0 at *
  clear hDd hJd hxd hD3 hJ hx03 hx4 hs4 hj2
  go_upto_block 0 with fail
  go_cut [15, 16, 17, 18, 19] (fun s15 s16 s17 s18 s19 wx => ∃ (k : Nat) (s : DS) (K : List (List UInt8)) (sn p m : List UInt8) (sw : Bool) (v : Option Addr) (cv n : Nat) (M : Nat → Prop), k ≤ 30 ∧ s15 = .string (str p) ∧ s16 = .slice v K.length cv ∧ s17 = .string (str m) ∧ s18 = .bool sw ∧ said sn = p ∧ K.length ≤ k ∧ n ≤ k ∧ (Up s K sn (2 * k) ∧ sw = false ∨ Down s K sn m sw ∧ Frm s K sn (2 * k)) ∧ Own wx (j + 1) v 1 K.length cv (K.map sv) ∧ Dk wx g s M ∧ Blk wx j (jcells g n) ∧ M j ∧ (∀ ad, v = some ad → M ad.block) ∧ (∀ i, M i → i < wx.heap.size ∧ w.heap.size ≤ i) ∧ Ext no w wx)
  case first =>
    go_wp2_with fail
    go_loopw [15, 16, 17, 18, 19] (fun s15 s16 s17 s18 s19 wr => ∃ (k : Nat) (s : DS) (K : List (List UInt8)) (sn p m : List UInt8) (sw : Bool) (v : Option Addr) (cv n : Nat) (M : Nat → Prop), k ≤ ps.length ∧ k ≤ 30 ∧ s19 = .int .i64 k ∧ s15 = .string (str p) ∧ s16 = .slice v K.length cv ∧ s17 = .string (str m) ∧ s18 = .bool sw ∧ said sn = p ∧ K.length ≤ k ∧ n ≤ k ∧ (Up s K sn (2 * k) ∧ sw = false ∨ Down s K sn m sw ∧ Frm s K sn (2 * k)) ∧ Own wr (j + 1) v 1 K.length cv (K.map sv) ∧ Dk wr g s M ∧ Blk wr j (jcells g n) ∧ M j ∧ (∀ ad, v = some ad → M ad.block) ∧ (∀ i, M i → i < wr.heap.size ∧ w.heap.size ≤ i) ∧ Ext no w wr) (fun _ _ _ _ s19 _ => ps.length - (intOf s19).toNat)
    case atStart => exact ⟨0, s0, [], [], [], [], false, none, 0, 0, _, Nat.zero_le _, by omega, rfl, rfl, rfl, rfl, rfl, rfl, Nat.le_refl _, Nat.le_refl _, .inl ⟨hU0, rfl⟩, Own.nil _ _ _, hD4, hJ4, .inr rfl, (fun _ h => by cases h), (fun i hi => by rcases hi with hi | hi; exact hi.elim; omega), hx04⟩
    case round =>
      clear hD4 hJ4 hU0 hx04 hj4 hg4
      obtain ⟨k, s, K, sn, p, m, sw, v, cv, n, M, hk, hk30, rfl, rfl, rfl, rfl, rfl, hsaid, hKk, hnk, hst, hown, hD, hJ, hMj, hMv, hM, hx⟩ := hrel
      have Hsaid := Lib.hid hsaid
      have Hst := Lib.hid hst
      have hgl := hD.lt
      clear hsaid hst
      by_cases hlt : k < ps.length
      rotate_left
      · have e1 : decide (k < ps.length) = false := decF (by omega)
        have e1' : decide ((k : Int) < ps.length) = false := decF (by omega)
        go_wp2_with fail
        go_meet
        exact ⟨k, s, K, sn, p, m, sw, v, cv, n, M, by omega, rfl, rfl, rfl, rfl, Hsaid.out, hKk, hnk, Hst.out, hown, hD, hJ, hMj, hMv, hM, hx⟩
      have e1 : decide (k < ps.length) = true := decT (by omega)
      have e1' : decide ((k : Int) < ps.length) = true := decT (by omega)
      by_cases hlt2 : k < 30
      rotate_left
      · have e2 : decide ((k : Int) < 30) = false := decF (by omega)
        go_wp2_with fail
        go_meet
        exact ⟨k, s, K, sn, p, m, sw, v, cv, n, M, by omega, rfl, rfl, rfl, rfl, Hsaid.out, hKk, hnk, Hst.out, hown, hD, hJ, hMj, hMv, hM, hx⟩
      have e2 : decide ((k : Int) < 30) = true := decT (by omega)
      go_wp2_with fail
      refine (dead_any wr g s M hD).mono ?_
      rintro e w5 ⟨rfl, rfl⟩
      cases hdd : s.dead with
      | true =>
        go_wp2_with fail
        go_meet
        exact ⟨k, s, K, sn, p, m, sw, v, cv, n, M, by omega, rfl, rfl, rfl, rfl, Hsaid.out, hKk, hnk, Hst.out, hown, hD, hJ, hMj, hMv, hM, hx⟩
      | false =>
        obtain ⟨hU, hswf⟩ : Up s K sn (2 * k) ∧ sw = false := by rcases Hst.out with h | ⟨⟨h, _⟩, _⟩; exact h; rw [hdd] at h; cases h
        subst hswf
        obtain ⟨lad, rfl, hladw⟩ := hld.ne (by simp; omega)
        have hcell := hx.keeps (hld.cell k (by simpa using hlt)) (fun h => h)
        rw [List.getElem_map, Part.v] at hcell
        obtain ⟨q1, q2, q3⟩ := Hlg.out ps[k] (by simp)
        have hq0 := Lib.hid q1
        have hq1 := q1.ext hx (fun _ _ h => h)
        clear q1
        generalize ps[k] = b at *
        by_cases h200 : 200 < b.l.length
        · have d200 : decide ((200 : Int) < b.l.length) = true := decT (by omega)
          go_wp2_with fail
          go_ret
          exact ⟨rfl, hx⟩
        have d200 : decide ((200 : Int) < b.l.length) = false := decF (by omega)
        have hadb : (lad.add k).block = lad.block := add_block _ _
        have hok := hU.ok (by omega)
        have hdn := hU.done
        have hml : ∀ i, M i → i < wr.heap.size := fun i hi => (hM i hi).1
        have hgj' : j ≠ g := by omega
        by_cases hil : k < il.length
        · have e3 : decide ((k : Int) < il.length) = true := decT (by omega)
          obtain ⟨iad, rfl, hiadw⟩ := hird.ne (by simp; omega)
          have hicell := hx.keeps (hird.cell k (by simpa using hil)) (fun h => h)
          rw [show (is il)[k]'(by simpa using hil) = .int .i64 il[k] from by simp [is, I64]] at hicell
          generalize il[k] = z at *
          cases e4 : (z.tmod 4 == 0) with
          | true =>
            have hsnap := hU.jsnap b.l (by omega)
            go_wp2_with fail
            refine (jsnap_any wr g j n s M hD hJ hgj' hMj hml hok b.a b.c b.l hq1 (by omega)).mono ?_
            rintro e w5 ⟨rfl, hD5, hJ5, hx5⟩
            have hx05 : Ext no w w5 := hx.trans hx5 (fun i hi h => by rcases h with h | h <;> omega)
            have hcell5 := hx5.keeps hcell (fun h => by rcases h with h | h <;> omega)
            have hown5 := hown.ext hx5 (fun ad ha h => by have := (hown.base ad ha).1; rcases h with h | h <;> omega)
            have hM5 : ∀ i, M i → i < w5.heap.size ∧ w.heap.size ≤ i := fun i hi => ⟨Nat.lt_of_lt_of_le (hml i hi) hx5.size, (hM i hi).2⟩
            have cx : (convert 22 9 (.slice b.a b.l.length b.c)).run Try.prog w5 = .ok (.string (str b.l)) w5 := convStr _ _ _ _ _ rfl (hq0.out.ext hx05 (fun _ _ h => h))
            clear hcell hq1 hown hD hJ hM
            rcases hsnap with ⟨h0, hU5⟩ | ⟨h18, hdw, hfr⟩
            · rw [h0, tally_ok] at hJ5
              rw [h0]
              have Hsf := Lib.hid (said_frame b.l (by omega))
              generalize (s.jsnap b.l).1 = s5 at *
              clear h0
              go_wp2_with fail
              go_roundw
              case rel => exact ⟨k + 1, s5, [], frame b.l, b.l, m, false, none, 0, 0, M, by omega, by omega, by go_num, rfl, rfl, rfl, rfl, Hsf.out, by simp, by omega, .inl ⟨hU5, rfl⟩, Own.nil _ _ _, hD5, hJ5, hMj, (fun _ h => by cases h), hM5, hx05⟩
              case measure => simp [intOf]; omega
            · rw [h18] at hJ5
              rw [h18]
              rw [tally_err (by omega)] at hJ5
              generalize (s.jsnap b.l).1 = s5 at *
              clear h18
              have H5 := Lib.hid (And.intro hdw hfr)
              clear hdw hfr
              go_wp2_with fail
              go_roundw
              case rel => exact ⟨k + 1, s5, K, sn, p, b.l, true, v, cv, n, M, by omega, by omega, by go_num, rfl, rfl, rfl, rfl, Hsaid.out, by omega, by omega, .inr H5.out, hown5, hD5, hJ5, hMj, hMv, hM5, hx05⟩
              case measure => simp [intOf]; omega
          | false =>
            have hadd := hU.jadd (by omega) b.l (by omega)
            go_wp2_with fail
            refine (jadd_any wr g j n s M hD hJ hgj' hMj hml hok (by omega) (by omega) b.a b.c b.l hq1 (by omega)).mono ?_
            rintro e w5 ⟨rfl, hD5, hJ5, hx5⟩
            have hx05 : Ext no w w5 := hx.trans hx5 (fun i hi h => by rcases h with h | h <;> omega)
            have hcell5 := hx5.keeps hcell (fun h => by rcases h with h | h <;> omega)
            have hown5 := hown.ext hx5 (fun ad ha h => by have := (hown.base ad ha).1; rcases h with h | h <;> omega)
            have hM5 : ∀ i, M i → i < w5.heap.size ∧ w.heap.size ≤ i := fun i hi => ⟨Nat.lt_of_lt_of_le (hml i hi) hx5.size, (hM i hi).2⟩
            have cx : (convert 22 9 (.slice b.a b.l.length b.c)).run Try.prog w5 = .ok (.string (str b.l)) w5 := convStr _ _ _ _ _ rfl (hq0.out.ext hx05 (fun _ _ h => h))
            clear hcell hq1 hown hD hJ hM
            rcases hadd with ⟨h0, hU5⟩ | ⟨h18, hdw, hfr⟩
            · rw [h0, tally_ok] at hJ5
              rw [h0]
              generalize (s.jadd b.l).1 = s5 at *
              clear h0
              have hcell6 := (Ext.alloc no w5 (.cells #[.string (str b.l)] 9)).keeps hcell5 (fun h => h)
              have hs5 := hx05.size
              have hj5 := hJ5.lt (by simp [jcells])
              go_wp2_with (at_builtin; refine wpList_append TStrs rfl rfl rfl (hown5.ext (Ext.alloc no _ _) (fun _ _ h => h)) rfl (Rd.lit w5 _ _ _) (by simp) (by intro u hu; simp at hu; subst hu; rfl) (by unfold maxLen; omega) (by omega) (by simp; omega) ?_)
              intro v6 c6 w6 happ
              have hown6 := happ.own
              have hxa := Ext.alloc no w5 (.cells #[.string (str b.l)] 9)
              have hbv : ∀ ad, v = some ad → ad.block ≠ g ∧ ad.block ≠ j := fun ad ha => by have := (hown5.base ad ha).1; omega
              have hD6 : Dk w6 g s5 (fun i => M i ∨ blk v6 i) := ((hD5.fewer (N' := fun i => M i ∨ blk v6 i) (fun i hi h => by
                  rcases h with h | ⟨ad, ha, hb⟩
                  · exact h
                  · rcases happ.loc with ⟨e, _⟩ | hl2
                    · rw [e] at ha; rw [← hb]; exact hMv ad ha
                    · have := hl2 ad ha; simp at this; omega)).no hxa).ext happ.ext (fun ⟨ad, ha, hb⟩ => (hbv ad ha).1 hb) (fun i _ ⟨ad, ha, hb⟩ => .inl (by rw [← hb]; exact hMv ad ha))
              have hJ6 := (hJ5.ext (by simp [jcells]) hxa (fun h => h)).ext (by simp [jcells]) happ.ext (fun ⟨ad, ha, hb⟩ => (hbv ad ha).2 hb)
              have hx06 : Ext no w w6 := (hx05.comp hxa).trans happ.ext (fun i hi ⟨ad, ha, hb⟩ => by have := (hM5 _ (hMv ad ha)).2; omega)
              have hM6 : ∀ i, (M i ∨ blk v6 i) → i < w6.heap.size ∧ w.heap.size ≤ i := fun i hi => by
                  have h1 := hxa.size
                  have h2 := happ.ext.size
                  rcases hi with hi | ⟨ad, ha, hb⟩
                  · have := hM5 i hi; omega
                  · have := hown6.base ad ha; omega
              have Hn := Lib.hid (show (K ++ [b.l]).length = K.length + 1 by simp)
              have hown7 : Own w6 (j + 1) v6 1 (K ++ [b.l]).length c6 ((K ++ [b.l]).map sv) := by rw [Hn.out, List.map_append]; exact hown6
              have hMv6 : ∀ ad, v6 = some ad → (M ad.block ∨ blk v6 ad.block) := fun ad ha => .inr ⟨ad, ha, rfl⟩
              clear happ hown6 hown5 hD5 hJ5 hcell6 hcell5 cx
              go_wp2_with fail
              go_roundw
              case rel => exact ⟨k + 1, s5, K ++ [b.l], sn, p, m, false, v6, c6, n + 1, _, by omega, by omega, by go_num, rfl, by rw [Hn.out], rfl, rfl, Hsaid.out, by rw [Hn.out]; omega, by omega, .inl ⟨hU5, rfl⟩, hown7, hD6, hJ6, .inl hMj, hMv6, hM6, hx06⟩
              case measure => simp [intOf]; omega
            · rw [h18] at hJ5
              rw [h18]
              rw [tally_err (by omega)] at hJ5
              generalize (s.jadd b.l).1 = s5 at *
              clear h18
              have H5 := Lib.hid (And.intro hdw hfr)
              clear hdw hfr
              go_wp2_with fail
              go_roundw
              case rel => exact ⟨k + 1, s5, K, sn, p, b.l, false, v, cv, n, M, by omega, by omega, by go_num, rfl, rfl, rfl, rfl, Hsaid.out, by omega, by omega, .inr H5.out, hown5, hD5, hJ5, hMj, hMv, hM5, hx05⟩
              case measure => simp [intOf]; omega
        · have e3 : decide ((k : Int) < il.length) = false := decF (by omega)
          have hadd := hU.jadd (by omega) b.l (by omega)
          go_wp2_with fail
          refine (jadd_any wr g j n s M hD hJ hgj' hMj hml hok (by omega) (by omega) b.a b.c b.l hq1 (by omega)).mono ?_
          rintro e w5 ⟨rfl, hD5, hJ5, hx5⟩
          have hx05 : Ext no w w5 := hx.trans hx5 (fun i hi h => by rcases h with h | h <;> omega)
          have hcell5 := hx5.keeps hcell (fun h => by rcases h with h | h <;> omega)
          have hown5 := hown.ext hx5 (fun ad ha h => by have := (hown.base ad ha).1; rcases h with h | h <;> omega)
          have hM5 : ∀ i, M i → i < w5.heap.size ∧ w.heap.size ≤ i := fun i hi => ⟨Nat.lt_of_lt_of_le (hml i hi) hx5.size, (hM i hi).2⟩
          have cx : (convert 22 9 (.slice b.a b.l.length b.c)).run Try.prog w5 = .ok (.string (str b.l)) w5 := convStr _ _ _ _ _ rfl (hq0.out.ext hx05 (fun _ _ h => h))
          clear hcell hq1 hown hD hJ hM
          rcases hadd with ⟨h0, hU5⟩ | ⟨h18, hdw, hfr⟩
          · rw [h0, tally_ok] at hJ5
            rw [h0]
            generalize (s.jadd b.l).1 = s5 at *
            clear h0
            have hcell6 := (Ext.alloc no w5 (.cells #[.string (str b.l)] 9)).keeps hcell5 (fun h => h)
            have hs5 := hx05.size
            have hj5 := hJ5.lt (by simp [jcells])
            go_wp2_with (at_builtin; refine wpList_append TStrs rfl rfl rfl (hown5.ext (Ext.alloc no _ _) (fun _ _ h => h)) rfl (Rd.lit w5 _ _ _) (by simp) (by intro u hu; simp at hu; subst hu; rfl) (by unfold maxLen; omega) (by omega) (by simp; omega) ?_)
            intro v6 c6 w6 happ
            have hown6 := happ.own
            have hxa := Ext.alloc no w5 (.cells #[.string (str b.l)] 9)
            have hbv : ∀ ad, v = some ad → ad.block ≠ g ∧ ad.block ≠ j := fun ad ha => by have := (hown5.base ad ha).1; omega
            have hD6 : Dk w6 g s5 (fun i => M i ∨ blk v6 i) := ((hD5.fewer (N' := fun i => M i ∨ blk v6 i) (fun i hi h => by
                rcases h with h | ⟨ad, ha, hb⟩
                · exact h
                · rcases happ.loc with ⟨e, _⟩ | hl2
                  · rw [e] at ha; rw [← hb]; exact hMv ad ha
                  · have := hl2 ad ha; simp at this; omega)).no hxa).ext happ.ext (fun ⟨ad, ha, hb⟩ => (hbv ad ha).1 hb) (fun i _ ⟨ad, ha, hb⟩ => .inl (by rw [← hb]; exact hMv ad ha))
            have hJ6 := (hJ5.ext (by simp [jcells]) hxa (fun h => h)).ext (by simp [jcells]) happ.ext (fun ⟨ad, ha, hb⟩ => (hbv ad ha).2 hb)
            have hx06 : Ext no w w6 := (hx05.comp hxa).trans happ.ext (fun i hi ⟨ad, ha, hb⟩ => by have := (hM5 _ (hMv ad ha)).2; omega)
            have hM6 : ∀ i, (M i ∨ blk v6 i) → i < w6.heap.size ∧ w.heap.size ≤ i := fun i hi => by
                have h1 := hxa.size
                have h2 := happ.ext.size
                rcases hi with hi | ⟨ad, ha, hb⟩
                · have := hM5 i hi; omega
                · have := hown6.base ad ha; omega
            have Hn := Lib.hid (show (K ++ [b.l]).length = K.length + 1 by simp)
            have hown7 : Own w6 (j + 1) v6 1 (K ++ [b.l]).length c6 ((K ++ [b.l]).map sv) := by rw [Hn.out, List.map_append]; exact hown6
            have hMv6 : ∀ ad, v6 = some ad → (M ad.block ∨ blk v6 ad.block) := fun ad ha => .inr ⟨ad, ha, rfl⟩
            clear happ hown6 hown5 hD5 hJ5 hcell6 hcell5 cx
            go_wp2_with fail
            go_roundw
            case rel => exact ⟨k + 1, s5, K ++ [b.l], sn, p, m, false, v6, c6, n + 1, _, by omega, by omega, by go_num, rfl, by rw [Hn.out], rfl, rfl, Hsaid.out, by rw [Hn.out]; omega, by omega, .inl ⟨hU5, rfl⟩, hown7, hD6, hJ6, .inl hMj, hMv6, hM6, hx06⟩
            case measure => simp [intOf]; omega
          · rw [h18] at hJ5
            rw [h18]
            rw [tally_err (by omega)] at hJ5
            generalize (s.jadd b.l).1 = s5 at *
            clear h18
            have H5 := Lib.hid (And.intro hdw hfr)
            clear hdw hfr
            go_wp2_with fail
            go_roundw
            case rel => exact ⟨k + 1, s5, K, sn, p, b.l, false, v, cv, n, M, by omega, by omega, by go_num, rfl, rfl, rfl, rfl, Hsaid.out, by omega, by omega, .inr H5.out, hown5, hD5, hJ5, hMj, hMv, hM5, hx05⟩
            case measure => simp [intOf]; omega
  case rest =>
    clear hD4 hJ4 hU0 hx04 hj4 hg4
    --<R
    obtain ⟨k, s, K, sn, p, m, sw, v, cv, n, M, hk30, rfl, rfl, rfl, rfl, hsaid, hKk, hnk, hst, hown, hD, hJ, hMj, hMv, hM, hx⟩ := hcut
    generalize wc = w5 at *
    have hgl := hD.lt
    have hml : ∀ i, M i → i < w5.heap.size := fun i hi => (hM i hi).1
    have hok : s.ok := by
      rcases hst with ⟨h, _⟩ | ⟨h1, h2⟩
      · exact h.ok (by omega)
      · exact h1.ok h2 (by omega)
    obtain ⟨s2, p', L', hop, hF, hL31⟩ : ∃ s2 p' L', ((s.stop 0).crash pick).opens = (s2, 0, p', L') ∧ Go.Esc.Found K p m sw s.dead p' L' ∧ L'.length ≤ 31 := by
      rcases hst with ⟨h, _⟩ | ⟨h1, h2⟩
      · obtain ⟨s2, h3⟩ := h.found pick
        exact ⟨s2, _, _, h3, .inl ⟨hsaid, rfl⟩, by have := h.len; omega⟩
      · obtain ⟨s2, p', L', h3, h4, h5⟩ := h1.found h2 pick
        rw [hsaid] at h4
        rw [h1.1]
        exact ⟨s2, p', L', h3, h4, h5⟩
    have Hop := Lib.hid hop
    have HF := Lib.hid hF
    have hok6 := DS.ok_stop hok 0 ⟨by omega, by omega⟩
    have hok7 := DS.ok_crash hok6 pick
    clear hop hF hst hsaid hok hJ hMj hMv
    go_wp2_with fail
    refine (dead_any w5 g s M hD).mono ?_
    rintro e w6 ⟨rfl, rfl⟩
    go_wp2_with fail
    refine (stop_any w5 g s M hD 0 ⟨by omega, by omega⟩).mono ?_
    rintro e w6 ⟨rfl, hD6, hx6⟩
    have hx06 : Ext no w w6 := hx.trans hx6 (fun i hi h => by simp only [Esc.just] at h; omega)
    have hown6 := hown.ext hx6 (fun ad ha h => by have := (hown.base ad ha).1; simp only [Esc.just] at h; omega)
    go_wp2_with fail
    refine (crash_any w6 g (s.stop 0) M hD6 (fun i hi => Nat.lt_of_lt_of_le (hml i hi) hx6.size) hok6 pick Hpick.out).mono ?_
    rintro e w7 ⟨rfl, hD7, hx7⟩
    have hx07 : Ext no w w7 := hx06.trans hx7 (fun i hi h => by simp only [Esc.just] at h; omega)
    have hown7 := hown6.ext hx7 (fun ad ha h => by have := (hown6.base ad ha).1; simp only [Esc.just] at h; omega)
    go_wp2_with fail
    refine (open_any w7 g ((s.stop 0).crash pick) M hD7 (fun i hi => Nat.lt_of_lt_of_le (hml i hi) (Nat.le_trans hx6.size hx7.size)) hok7).mono ?_
    rintro e w8 ⟨J, ja, jc, ra, rc, rfl, ⟨hs8, _⟩, hR8, hx8, _⟩
    have hx08 : Ext no w w8 := hx07.trans hx8 (fun i hi h => by simp only [Esc.just] at h; omega)
    have hown8 := hown7.ext hx8 (fun ad ha h => by have := (hown7.base ad ha).1; simp only [Esc.just] at h; omega)
    rw [Hop.out] at hs8 hR8 ⊢
    simp only at hs8 hR8 ⊢
    obtain ⟨dd, hdd⟩ : ∃ dd, dd = s.dead := ⟨_, rfl⟩
    rw [← hdd] at HF ⊢
    clear hdd hown hown6 hown7 hD hD6 hD7 hx6 hx7 hx8 hx06 hx07 hx hok6 hok7 hM hml Hop
    have cx : (convert 22 9 (.slice ja p'.length jc)).run Try.prog w8 = .ok (.string (str p')) w8 := convStr _ _ _ _ _ rfl hs8
    cases dd with
    | false =>
      have hpl : p' = p ∧ (L' = K ∨ L' = K ++ [m] ∧ false = true ∧ sw = false) := by rcases HF.out with h | ⟨_, _, h, _⟩ | ⟨h, _⟩; exact ⟨h.1, .inl h.2⟩; cases h; cases h
      obtain ⟨rfl, hLK⟩ := hpl
      clear HF
      have hll : L'.length = K.length ∨ L'.length = K.length + 1 := by
        rcases hLK with h | ⟨h, _⟩
        · exact .inl (by rw [h])
        · exact .inr (by rw [h]; simp)
      have hbe := beqStrT (rfl : p' = p')
      have d1 : decide ((L'.length : Int) < K.length) = false := decF (by omega)
      have d1' : decide (L'.length < K.length) = false := decF (by omega)
      have d2 : decide ((K.length : Int) + 1 < L'.length) = false := decF (by omega)
      have d2' : decide (K.length + 1 < L'.length) = false := decF (by omega)
      obtain ⟨qs, hqs, hqd, hqr, _, _⟩ := hR8
      have hql : qs.length = L'.length := by have := congrArg List.length hqs; simpa using this
      have hqK : ∀ (i : Nat) (hi : i < K.length) (hi' : i < qs.length), qs[i].l = K[i] := fun i hi hi' => by
        have h1 : (qs.map Part.l)[i]? = L'[i]? := by rw [hqs]
        rw [List.getElem?_map, List.getElem?_eq_getElem hi'] at h1
        rcases hLK with h | ⟨h, _⟩
        · rw [h, List.getElem?_eq_getElem hi] at h1; simpa using h1
        · rw [h, List.getElem?_append_left hi, List.getElem?_eq_getElem hi] at h1; simpa using h1
      have hqm : ∀ (hi' : K.length < qs.length), qs[K.length].l = m := fun hi' => by
        have h1 : (qs.map Part.l)[K.length]? = L'[K.length]? := by rw [hqs]
        rw [List.getElem?_map, List.getElem?_eq_getElem hi'] at h1
        rcases hLK with h | ⟨h, _⟩
        · rw [h] at hql; omega
        · rw [h, List.getElem?_append_right (Nat.le_refl _)] at h1; simpa using h1
      have HLK := Lib.hid hLK
      have HqK := Lib.hid hqK
      have Hqm := Lib.hid hqm
      have Hqr := Lib.hid hqr
      have Hll := Lib.hid hll
      have Hql := Lib.hid hql
      have hlK : K.length ≤ qs.length := by omega
      clear hLK hqs hqK hqm hqr hs8 hll hql
      go_wp2_with fail
      go_loopw [25] (fun s25 wr => ∃ i : Nat, i ≤ K.length ∧ s25 = .int .i64 i ∧ Ext no w8 wr) (fun s25 _ => K.length - (intOf s25).toNat)
      case atStart => exact ⟨0, Nat.zero_le _, rfl, Ext.refl _ _⟩
      case round =>
        clear cx hbe d1 d1' d2 d2'
        obtain ⟨i, hi, rfl, hxr⟩ := hrel
        by_cases hlt : i < K.length
        · have e1 : decide ((i : Int) < K.length) = true := decT (by omega)
          have e1' : decide (i < K.length) = true := decT (by omega)
          have hiq : i < qs.length := by omega
          have hiL : i < L'.length := by have := Hql.out; omega
          obtain ⟨rad, rfl, _⟩ := hqd.ne (by simp; omega)
          obtain ⟨vad, rfl, _⟩ := hown8.rd.ne (by simp; omega)
          have hcr := hxr.keeps (hqd.cell i (by simpa using hiq)) (fun h => h)
          have hcv := hxr.keeps (hown8.rd.cell i (by simpa using hlt)) (fun h => h)
          rw [List.getElem_map, Part.v] at hcr
          rw [List.getElem_map, sv] at hcv
          have hqe := HqK.out i hlt hiq
          have hrx := (Hqr.out qs[i] (by simp)).ext hxr (fun _ _ h => h)
          rw [hqe] at hcr hrx
          generalize K[i] = x at *
          generalize qs[i] = y at *
          have cx : ∀ m, (convert 22 9 (.slice y.a x.length y.c)).run Try.prog (wr.drewN m) = .ok (.string (str x)) (wr.drewN m) := fun m => convStr _ _ _ _ _ rfl (hrx.drewN m)
          have hbe := beqStrT (rfl : x = x)
          clear hqe
          go_upto_region 36 with fail
          go_quiet (fail)
          go_wp2_with fail
          go_roundw
          case rel => exact ⟨i + 1, by omega, by go_num, hxr.comp (Ext.drewN no _ _)⟩
          case measure => simp [intOf]; omega
        · have e1 : decide ((i : Int) < K.length) = false := decF (by omega)
          have e1' : decide (i < K.length) = false := decF (by omega)
          rcases Hll.out with h | h
          · have d3 : ((L'.length : Int) == K.length) = true := by rw [beq_iff_eq]; omega
            have d3' : (L'.length == K.length) = true := by rw [beq_iff_eq]; omega
            clear h
            go_wp2_with fail
            go_ret
            exact ⟨rfl, hx08.comp hxr⟩
          · have d3 : ((L'.length : Int) == K.length) = false := by rw [beq_eq_false_iff_ne]; omega
            have d3' : (L'.length == K.length) = false := by rw [beq_eq_false_iff_ne]; omega
            exfalso
            rcases HLK.out with h2 | ⟨_, h3, h4⟩
            · rw [h2] at h; omega
            · first | (cases h3; done) | (cases h4; done)
    | true =>
      cases sw with
      | false =>
        have hpl : p' = p ∧ (L' = K ∨ L' = K ++ [m] ∧ true = true ∧ false = false) := by rcases HF.out with h | ⟨h1, h2, _⟩ | ⟨_, h, _⟩; exact ⟨h.1, .inl h.2⟩; exact ⟨h1, .inr ⟨h2, rfl, rfl⟩⟩; cases h
        obtain ⟨rfl, hLK⟩ := hpl
        clear HF
        have hll : L'.length = K.length ∨ L'.length = K.length + 1 := by
          rcases hLK with h | ⟨h, _⟩
          · exact .inl (by rw [h])
          · exact .inr (by rw [h]; simp)
        have hbe := beqStrT (rfl : p' = p')
        have d1 : decide ((L'.length : Int) < K.length) = false := decF (by omega)
        have d1' : decide (L'.length < K.length) = false := decF (by omega)
        have d2 : decide ((K.length : Int) + 1 < L'.length) = false := decF (by omega)
        have d2' : decide (K.length + 1 < L'.length) = false := decF (by omega)
        obtain ⟨qs, hqs, hqd, hqr, _, _⟩ := hR8
        have hql : qs.length = L'.length := by have := congrArg List.length hqs; simpa using this
        have hqK : ∀ (i : Nat) (hi : i < K.length) (hi' : i < qs.length), qs[i].l = K[i] := fun i hi hi' => by
          have h1 : (qs.map Part.l)[i]? = L'[i]? := by rw [hqs]
          rw [List.getElem?_map, List.getElem?_eq_getElem hi'] at h1
          rcases hLK with h | ⟨h, _⟩
          · rw [h, List.getElem?_eq_getElem hi] at h1; simpa using h1
          · rw [h, List.getElem?_append_left hi, List.getElem?_eq_getElem hi] at h1; simpa using h1
        have hqm : ∀ (hi' : K.length < qs.length), qs[K.length].l = m := fun hi' => by
          have h1 : (qs.map Part.l)[K.length]? = L'[K.length]? := by rw [hqs]
          rw [List.getElem?_map, List.getElem?_eq_getElem hi'] at h1
          rcases hLK with h | ⟨h, _⟩
          · rw [h] at hql; omega
          · rw [h, List.getElem?_append_right (Nat.le_refl _)] at h1; simpa using h1
        have HLK := Lib.hid hLK
        have HqK := Lib.hid hqK
        have Hqm := Lib.hid hqm
        have Hqr := Lib.hid hqr
        have Hll := Lib.hid hll
        have Hql := Lib.hid hql
        have hlK : K.length ≤ qs.length := by omega
        clear hLK hqs hqK hqm hqr hs8 hll hql
        go_wp2_with fail
        go_loopw [25] (fun s25 wr => ∃ i : Nat, i ≤ K.length ∧ s25 = .int .i64 i ∧ Ext no w8 wr) (fun s25 _ => K.length - (intOf s25).toNat)
        case atStart => exact ⟨0, Nat.zero_le _, rfl, Ext.refl _ _⟩
        case round =>
          clear cx hbe d1 d1' d2 d2'
          obtain ⟨i, hi, rfl, hxr⟩ := hrel
          by_cases hlt : i < K.length
          · have e1 : decide ((i : Int) < K.length) = true := decT (by omega)
            have e1' : decide (i < K.length) = true := decT (by omega)
            have hiq : i < qs.length := by omega
            have hiL : i < L'.length := by have := Hql.out; omega
            obtain ⟨rad, rfl, _⟩ := hqd.ne (by simp; omega)
            obtain ⟨vad, rfl, _⟩ := hown8.rd.ne (by simp; omega)
            have hcr := hxr.keeps (hqd.cell i (by simpa using hiq)) (fun h => h)
            have hcv := hxr.keeps (hown8.rd.cell i (by simpa using hlt)) (fun h => h)
            rw [List.getElem_map, Part.v] at hcr
            rw [List.getElem_map, sv] at hcv
            have hqe := HqK.out i hlt hiq
            have hrx := (Hqr.out qs[i] (by simp)).ext hxr (fun _ _ h => h)
            rw [hqe] at hcr hrx
            generalize K[i] = x at *
            generalize qs[i] = y at *
            have cx : ∀ m, (convert 22 9 (.slice y.a x.length y.c)).run Try.prog (wr.drewN m) = .ok (.string (str x)) (wr.drewN m) := fun m => convStr _ _ _ _ _ rfl (hrx.drewN m)
            have hbe := beqStrT (rfl : x = x)
            clear hqe
            go_upto_region 36 with fail
            go_quiet (fail)
            go_wp2_with fail
            go_roundw
            case rel => exact ⟨i + 1, by omega, by go_num, hxr.comp (Ext.drewN no _ _)⟩
            case measure => simp [intOf]; omega
          · have e1 : decide ((i : Int) < K.length) = false := decF (by omega)
            have e1' : decide (i < K.length) = false := decF (by omega)
            rcases Hll.out with h | h
            · have d3 : ((L'.length : Int) == K.length) = true := by rw [beq_iff_eq]; omega
              have d3' : (L'.length == K.length) = true := by rw [beq_iff_eq]; omega
              clear h
              go_wp2_with fail
              go_ret
              exact ⟨rfl, hx08.comp hxr⟩
            · have d3 : ((L'.length : Int) == K.length) = false := by rw [beq_eq_false_iff_ne]; omega
              have d3' : (L'.length == K.length) = false := by rw [beq_eq_false_iff_ne]; omega
              have hKq : K.length < qs.length := by have := Hql.out; omega
              have hKL : K.length < L'.length := by omega
              obtain ⟨rad, rfl, _⟩ := hqd.ne (by simp; omega)
              have hcr := hxr.keeps (hqd.cell K.length (by simpa using hKq)) (fun h => h)
              rw [List.getElem_map, Part.v] at hcr
              have hqe := Hqm.out hKq
              have hrx := (Hqr.out qs[K.length] (by simp)).ext hxr (fun _ _ h => h)
              rw [hqe] at hcr hrx
              generalize qs[K.length] = y at *
              have cx : (convert 22 9 (.slice y.a m.length y.c)).run Try.prog wr = .ok (.string (str m)) wr := convStr _ _ _ _ _ rfl hrx
              have hbe := beqStrT (rfl : m = m)
              clear hqe h
              go_wp2_with fail
              go_ret
              exact ⟨rfl, hx08.comp hxr⟩
      | true =>
        by_cases hpm : p' = m
        · have hbe0 := beqStrT hpm
          by_cases hL : L' = []
          · have d0 : ((L'.length : Int) == 0) = true := by rw [hL]; rfl
            clear hL hpm
            go_wp2_with fail
            go_ret
            exact ⟨rfl, hx08⟩
          · have d0 : ((L'.length : Int) == 0) = false := by rw [beq_eq_false_iff_ne]; have := List.length_pos_iff.2 hL; omega
            have hpl : p' = p ∧ (L' = K ∨ L' = K ++ [m] ∧ true = true ∧ true = false) := by rcases HF.out with h | ⟨_, _, _, h⟩ | ⟨_, _, _, h⟩; exact ⟨h.1, .inl h.2⟩; cases h; exact absurd h hL
            clear hL hpm
            obtain ⟨rfl, hLK⟩ := hpl
            clear HF
            have hll : L'.length = K.length ∨ L'.length = K.length + 1 := by
              rcases hLK with h | ⟨h, _⟩
              · exact .inl (by rw [h])
              · exact .inr (by rw [h]; simp)
            have hbe := beqStrT (rfl : p' = p')
            have d1 : decide ((L'.length : Int) < K.length) = false := decF (by omega)
            have d1' : decide (L'.length < K.length) = false := decF (by omega)
            have d2 : decide ((K.length : Int) + 1 < L'.length) = false := decF (by omega)
            have d2' : decide (K.length + 1 < L'.length) = false := decF (by omega)
            obtain ⟨qs, hqs, hqd, hqr, _, _⟩ := hR8
            have hql : qs.length = L'.length := by have := congrArg List.length hqs; simpa using this
            have hqK : ∀ (i : Nat) (hi : i < K.length) (hi' : i < qs.length), qs[i].l = K[i] := fun i hi hi' => by
              have h1 : (qs.map Part.l)[i]? = L'[i]? := by rw [hqs]
              rw [List.getElem?_map, List.getElem?_eq_getElem hi'] at h1
              rcases hLK with h | ⟨h, _⟩
              · rw [h, List.getElem?_eq_getElem hi] at h1; simpa using h1
              · rw [h, List.getElem?_append_left hi, List.getElem?_eq_getElem hi] at h1; simpa using h1
            have hqm : ∀ (hi' : K.length < qs.length), qs[K.length].l = m := fun hi' => by
              have h1 : (qs.map Part.l)[K.length]? = L'[K.length]? := by rw [hqs]
              rw [List.getElem?_map, List.getElem?_eq_getElem hi'] at h1
              rcases hLK with h | ⟨h, _⟩
              · rw [h] at hql; omega
              · rw [h, List.getElem?_append_right (Nat.le_refl _)] at h1; simpa using h1
            have HLK := Lib.hid hLK
            have HqK := Lib.hid hqK
            have Hqm := Lib.hid hqm
            have Hqr := Lib.hid hqr
            have Hll := Lib.hid hll
            have Hql := Lib.hid hql
            have hlK : K.length ≤ qs.length := by omega
            clear hLK hqs hqK hqm hqr hs8 hll hql
            go_wp2_with fail
            go_loopw [25] (fun s25 wr => ∃ i : Nat, i ≤ K.length ∧ s25 = .int .i64 i ∧ Ext no w8 wr) (fun s25 _ => K.length - (intOf s25).toNat)
            case atStart => exact ⟨0, Nat.zero_le _, rfl, Ext.refl _ _⟩
            case round =>
              clear cx hbe d1 d1' d2 d2'
              obtain ⟨i, hi, rfl, hxr⟩ := hrel
              by_cases hlt : i < K.length
              · have e1 : decide ((i : Int) < K.length) = true := decT (by omega)
                have e1' : decide (i < K.length) = true := decT (by omega)
                have hiq : i < qs.length := by omega
                have hiL : i < L'.length := by have := Hql.out; omega
                obtain ⟨rad, rfl, _⟩ := hqd.ne (by simp; omega)
                obtain ⟨vad, rfl, _⟩ := hown8.rd.ne (by simp; omega)
                have hcr := hxr.keeps (hqd.cell i (by simpa using hiq)) (fun h => h)
                have hcv := hxr.keeps (hown8.rd.cell i (by simpa using hlt)) (fun h => h)
                rw [List.getElem_map, Part.v] at hcr
                rw [List.getElem_map, sv] at hcv
                have hqe := HqK.out i hlt hiq
                have hrx := (Hqr.out qs[i] (by simp)).ext hxr (fun _ _ h => h)
                rw [hqe] at hcr hrx
                generalize K[i] = x at *
                generalize qs[i] = y at *
                have cx : ∀ m, (convert 22 9 (.slice y.a x.length y.c)).run Try.prog (wr.drewN m) = .ok (.string (str x)) (wr.drewN m) := fun m => convStr _ _ _ _ _ rfl (hrx.drewN m)
                have hbe := beqStrT (rfl : x = x)
                clear hqe
                go_upto_region 36 with fail
                go_quiet (fail)
                go_wp2_with fail
                go_roundw
                case rel => exact ⟨i + 1, by omega, by go_num, hxr.comp (Ext.drewN no _ _)⟩
                case measure => simp [intOf]; omega
              · have e1 : decide ((i : Int) < K.length) = false := decF (by omega)
                have e1' : decide (i < K.length) = false := decF (by omega)
                rcases Hll.out with h | h
                · have d3 : ((L'.length : Int) == K.length) = true := by rw [beq_iff_eq]; omega
                  have d3' : (L'.length == K.length) = true := by rw [beq_iff_eq]; omega
                  clear h
                  go_wp2_with fail
                  go_ret
                  exact ⟨rfl, hx08.comp hxr⟩
                · have d3 : ((L'.length : Int) == K.length) = false := by rw [beq_eq_false_iff_ne]; omega
                  have d3' : (L'.length == K.length) = false := by rw [beq_eq_false_iff_ne]; omega
                  exfalso
                  rcases HLK.out with h2 | ⟨_, h3, h4⟩
                  · rw [h2] at h; omega
                  · first | (cases h3; done) | (cases h4; done)
        · have hbe0 := beqStrF hpm
          have hpl : p' = p ∧ (L' = K ∨ L' = K ++ [m] ∧ true = true ∧ true = false) := by rcases HF.out with h | ⟨_, _, _, h⟩ | ⟨_, _, h, _⟩; exact ⟨h.1, .inl h.2⟩; cases h; exact absurd h hpm
          clear hpm
          obtain ⟨rfl, hLK⟩ := hpl
          clear HF
          have hll : L'.length = K.length ∨ L'.length = K.length + 1 := by
            rcases hLK with h | ⟨h, _⟩
            · exact .inl (by rw [h])
            · exact .inr (by rw [h]; simp)
          have hbe := beqStrT (rfl : p' = p')
          have d1 : decide ((L'.length : Int) < K.length) = false := decF (by omega)
          have d1' : decide (L'.length < K.length) = false := decF (by omega)
          have d2 : decide ((K.length : Int) + 1 < L'.length) = false := decF (by omega)
          have d2' : decide (K.length + 1 < L'.length) = false := decF (by omega)
          obtain ⟨qs, hqs, hqd, hqr, _, _⟩ := hR8
          have hql : qs.length = L'.length := by have := congrArg List.length hqs; simpa using this
          have hqK : ∀ (i : Nat) (hi : i < K.length) (hi' : i < qs.length), qs[i].l = K[i] := fun i hi hi' => by
            have h1 : (qs.map Part.l)[i]? = L'[i]? := by rw [hqs]
            rw [List.getElem?_map, List.getElem?_eq_getElem hi'] at h1
            rcases hLK with h | ⟨h, _⟩
            · rw [h, List.getElem?_eq_getElem hi] at h1; simpa using h1
            · rw [h, List.getElem?_append_left hi, List.getElem?_eq_getElem hi] at h1; simpa using h1
          have hqm : ∀ (hi' : K.length < qs.length), qs[K.length].l = m := fun hi' => by
            have h1 : (qs.map Part.l)[K.length]? = L'[K.length]? := by rw [hqs]
            rw [List.getElem?_map, List.getElem?_eq_getElem hi'] at h1
            rcases hLK with h | ⟨h, _⟩
            · rw [h] at hql; omega
            · rw [h, List.getElem?_append_right (Nat.le_refl _)] at h1; simpa using h1
          have HLK := Lib.hid hLK
          have HqK := Lib.hid hqK
          have Hqm := Lib.hid hqm
          have Hqr := Lib.hid hqr
          have Hll := Lib.hid hll
          have Hql := Lib.hid hql
          have hlK : K.length ≤ qs.length := by omega
          clear hLK hqs hqK hqm hqr hs8 hll hql
          go_wp2_with fail
          go_loopw [25] (fun s25 wr => ∃ i : Nat, i ≤ K.length ∧ s25 = .int .i64 i ∧ Ext no w8 wr) (fun s25 _ => K.length - (intOf s25).toNat)
          case atStart => exact ⟨0, Nat.zero_le _, rfl, Ext.refl _ _⟩
          case round =>
            clear cx hbe d1 d1' d2 d2'
            obtain ⟨i, hi, rfl, hxr⟩ := hrel
            by_cases hlt : i < K.length
            · have e1 : decide ((i : Int) < K.length) = true := decT (by omega)
              have e1' : decide (i < K.length) = true := decT (by omega)
              have hiq : i < qs.length := by omega
              have hiL : i < L'.length := by have := Hql.out; omega
              obtain ⟨rad, rfl, _⟩ := hqd.ne (by simp; omega)
              obtain ⟨vad, rfl, _⟩ := hown8.rd.ne (by simp; omega)
              have hcr := hxr.keeps (hqd.cell i (by simpa using hiq)) (fun h => h)
              have hcv := hxr.keeps (hown8.rd.cell i (by simpa using hlt)) (fun h => h)
              rw [List.getElem_map, Part.v] at hcr
              rw [List.getElem_map, sv] at hcv
              have hqe := HqK.out i hlt hiq
              have hrx := (Hqr.out qs[i] (by simp)).ext hxr (fun _ _ h => h)
              rw [hqe] at hcr hrx
              generalize K[i] = x at *
              generalize qs[i] = y at *
              have cx : ∀ m, (convert 22 9 (.slice y.a x.length y.c)).run Try.prog (wr.drewN m) = .ok (.string (str x)) (wr.drewN m) := fun m => convStr _ _ _ _ _ rfl (hrx.drewN m)
              have hbe := beqStrT (rfl : x = x)
              clear hqe
              go_upto_region 36 with fail
              go_quiet (fail)
              go_wp2_with fail
              go_roundw
              case rel => exact ⟨i + 1, by omega, by go_num, hxr.comp (Ext.drewN no _ _)⟩
              case measure => simp [intOf]; omega
            · have e1 : decide ((i : Int) < K.length) = false := decF (by omega)
              have e1' : decide (i < K.length) = false := decF (by omega)
              rcases Hll.out with h | h
              · have d3 : ((L'.length : Int) == K.length) = true := by rw [beq_iff_eq]; omega
                have d3' : (L'.length == K.length) = true := by rw [beq_iff_eq]; omega
                clear h
                go_wp2_with fail
                go_ret
                exact ⟨rfl, hx08.comp hxr⟩
              · have d3 : ((L'.length : Int) == K.length) = false := by rw [beq_eq_false_iff_ne]; omega
                have d3' : (L'.length == K.length) = false := by rw [beq_eq_false_iff_ne]; omega
                exfalso
                rcases HLK.out with h2 | ⟨_, h3, h4⟩
                · rw [h2] at h; omega
                · first | (cases h3; done) | (cases h4; done)
    -->R
  -->A
end Go.Proofs.Ytbmkmbankflbpaa
