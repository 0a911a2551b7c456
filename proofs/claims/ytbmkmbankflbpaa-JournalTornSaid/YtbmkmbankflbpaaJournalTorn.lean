/- The walk of the law JournalTorn. -/
import Derived.Test.YtbmkmbankflbpaaJoM
namespace Go.Proofs.Ytbmkmbankflbpaa
open Go.RowKit Go.Esc
set_option linter.unusedVariables false
set_option linter.unusedSimpArgs false

theorem block_low {w : World} {a : Option Addr} {l : List UInt8} {g : Nat} (hr : Rd w a (bs l)) (hg : w.heap.size ≤ g) : l ≠ [] → ∀ ad, a = some ad → ad.block ≠ g := by
  intro hn ad ha
  obtain ⟨ad2, h2, h3⟩ := hr.ne (by rw [bs_length]; exact List.length_pos_iff.2 hn)
  rw [ha] at h2
  cases h2
  omega

theorem block_low2 {w : World} {a : Option Addr} {cs : List Value} (hr : Rd w a cs) (hn : 0 < cs.length) : ∀ ad, a = some ad → ad.block < w.heap.size := by
  intro ad ha
  obtain ⟨ad2, h2, h3⟩ := hr.ne hn
  rw [ha] at h2
  cases h2
  exact h3

set_option maxRecDepth 100000 in
set_option maxHeartbeats 8000000 in
theorem torn_walk (w : World) (la : Option Addr) (ps : List Part) (lc : Nat) (ta : Option Addr) (t : List UInt8) (tc : Nat) (ma : Option Addr) (m : List UInt8) (mc : Nat)
    (hld : Rd w la (ps.map Part.v)) (hlg : ∀ p ∈ ps, p.good w) (hll : ps.length ≤ lc) (hlc : lc ≤ maxLen) (ht : Rd w ta (bs t)) (htl : t.length ≤ tc) (htc : tc ≤ maxLen) (hm : Rd w ma (bs m)) (hml : m.length ≤ mc) (hmc : mc ≤ maxLen) :
    Calls Try.prog 4 #[.slice la ps.length lc, .slice ta t.length tc, .slice ma m.length mc] w fun e w' => e = .returned (.bool true) ∧ Ext no w w' := by
  have htc0 := htc
  unfold maxLen at hlc htc hmc
  have Hlg := Lib.hid hlg
  clear hlg
  go_enter Try.func4, Try.ntmps4
  go_wp2_with fail
  refine (known_any w).mono ?_
  rintro e w1 ⟨rfl, hx1⟩
  by_cases h1 : 10 < ps.length
  · have d1 : decide ((10 : Int) < ps.length) = true := decT (by omega)
    go_wp2_with fail
    go_ret
    exact ⟨rfl, hx1⟩
  have d1 : decide ((10 : Int) < ps.length) = false := decF (by omega)
  by_cases h2 : 100 < t.length
  · have d2 : decide ((100 : Int) < t.length) = true := decT (by omega)
    go_wp2_with fail
    go_ret
    exact ⟨rfl, hx1⟩
  have d2 : decide ((100 : Int) < t.length) = false := decF (by omega)
  by_cases h3 : 100 < m.length
  · have d3 : decide ((100 : Int) < m.length) = true := decT (by omega)
    go_wp2_with fail
    go_ret
    exact ⟨rfl, hx1⟩
  have d3 : decide ((100 : Int) < m.length) = false := decF (by omega)
  go_wp2_with fail
  refine (newdisk_any w1 100000 (by omega) (by omega) (fun _ => False)).mono ?_
  rintro e w2 ⟨g, rfl, hD2, hg, hx2⟩
  have hgw : w.heap.size ≤ g := Nat.le_trans hx1.size hg
  have hx12 := hx1.comp hx2
  go_wp2_with fail
  refine (open_any w2 g _ _ hD2 (fun _ h => h.elim) (DS.new_ok 100000 (by omega))).mono ?_
  rintro e w3 ⟨J, sa, sc, ea, ec, rfl, _, _, hx3, hend⟩
  rw [new_opens] at hend ⊢
  simp only at hend ⊢
  rcases hend with ⟨h0, _⟩ | ⟨_, j, rfl, hj1, hj2, hJ, hD3⟩
  · exact absurd rfl h0
  have hx03 := ext_new hx12 hgw hx3
  have hjw : w.heap.size ≤ j := Nat.le_trans hx12.size hj1
  have hgj : g ≠ j := by have := hD2.lt; omega
  have hW0 := Well.new 100000
  clear hx1 hx2 hx3 hx12 hD2 hj1 d1 d2 d3
  go_wp2_with fail
  go_loopw [13, 14] (fun s13 s14 wr => ∃ (k : Nat) (s : DS) (F : List UInt8), k ≤ ps.length ∧ s14 = .int .i64 k ∧ s13 = .int .i64 F.length ∧ F = ((ps.map Part.l).take k).flatMap frame ∧ F.length ≤ 208 * k ∧ (∀ b ∈ (ps.map Part.l).take k, b.length ≤ 200) ∧ Well s F [] 100000 (2 * k) ∧ Dk wr g s (fun i => False ∨ i = j) ∧ Blk wr j (jcells g k) ∧ Ext no w wr) (fun _ s14 _ => ps.length - (intOf s14).toNat)
  case atStart => exact ⟨0, DS.new 100000, [], Nat.zero_le _, rfl, rfl, by simp, by simp, by simp, hW0, hD3, hJ, hx03⟩
  case round =>
    clear hD3 hJ hx03 hW0 hj2
    obtain ⟨k, s, F, hk, rfl, rfl, hF, hFl, hall, hW, hD, hJ, hx⟩ := hrel
    have Hall := Lib.hid hall
    have HF := Lib.hid hF
    clear hall hF
    have hflb : F.length ≤ 2080 := by omega
    have hjlt := hJ.lt (by simp [jcells])
    have hokS := hW.ok (by simp only [List.length_nil]; omega) (by omega) (by omega)
    have hN : ∀ i, False ∨ i = j → i < wr.heap.size := fun i hi => by rcases hi with hi | hi; exact hi.elim; omega
    by_cases hlt : k < ps.length
    · have e14 : decide ((k : Int) < ps.length) = true := decT (by omega)
      obtain ⟨lad, rfl, _⟩ := hld.ne (by simp; omega)
      have hcell := hx.keeps (hld.cell k (by simpa using hlt)) (fun h => h)
      rw [List.getElem_map, Part.v] at hcell
      obtain ⟨q1, q2, q3⟩ := Hlg.out ps[k] (by simp)
      have hq1 := q1.ext hx (fun _ _ h => h)
      have Htk := Lib.hid (show (ps.map Part.l).take (k + 1) = (ps.map Part.l).take k ++ [ps[k].l] by rw [List.take_succ_eq_append_getElem (by simpa using hlt)]; simp)
      have Hfk := Lib.hid (show F ++ frame ps[k].l = ((ps.map Part.l).take (k + 1)).flatMap frame by rw [Htk.out, List.flatMap_append, List.flatMap_singleton, HF.out])
      clear q1
      generalize ps[k] = p at *
      by_cases h200 : 200 < p.l.length
      · have d200 : decide ((200 : Int) < p.l.length) = true := decT (by omega)
        go_wp2_with fail
        go_ret
        exact ⟨rfl, hx⟩
      have d200 : decide ((200 : Int) < p.l.length) = false := decF (by omega)
      obtain ⟨ha1, ha2⟩ := hW.jadd p.l (by simp only [List.length_nil]; omega)
      have Ha1 := Lib.hid ha1
      have hdn := hW.done
      go_wp2_with fail
      refine (jadd_any wr g j k s _ hD hJ hgj.symm (.inr rfl) hN hokS (by omega) (by omega) p.a p.c p.l hq1 (by omega)).mono ?_
      rintro e w4 ⟨rfl, hD4, hJ4, hx4⟩
      rw [Ha1.out, tally_ok] at hJ4
      rw [Ha1.out]
      have hx04 : Ext no w w4 := hx.trans hx4 (fun i hi h => by rcases h with h | h <;> omega)
      have hcell4 := hx4.keeps hcell (fun h => by have := block_low2 hld (by simp; omega) lad rfl; have hb : (lad.add k).block = lad.block := add_block _ _; rcases h with h | h <;> omega)
      generalize (s.jadd p.l).1 = s4 at *
      obtain ⟨F2, hF2⟩ : ∃ F2, F2 = F ++ frame p.l := ⟨_, rfl⟩
      rw [← hF2] at ha2 Hfk
      have Hlen := Lib.hid (show (F2.length : Int) = F.length + 8 + p.l.length by rw [hF2, List.length_append, frame_length]; omega)
      clear hF2
      clear hcell hD hJ hx4 ha1
      go_wp2_with fail
      refine ⟨?_, by simp [intOf]; omega⟩
      repeat apply Exists.intro
      refine ⟨?rel, ?eq⟩
      case eq => rfl
      case rel => exact ⟨k + 1, s4, F2, by omega, by go_num, by rw [Hlen.out], Hfk.out, by have := Hlen.out; omega, by rw [Htk.out]; intro b hb; rcases List.mem_append.1 hb with hb | hb; exact Hall.out b hb; simp at hb; subst hb; omega, ha2, hD4, hJ4, hx04⟩
    · have e14 : decide ((k : Int) < ps.length) = false := decF (by omega)
      obtain rfl : k = ps.length := by omega
      rw [List.take_of_length_le (by simp)] at HF Hall
      have hK : ∀ b ∈ ps.map Part.l, b.length ≤ 4194304 := fun b hb => Nat.le_trans (Hall.out b hb) (by omega)
      have HK := Lib.hid hK
      clear Hall hK
      obtain ⟨K, hKd⟩ : ∃ K, K = ps.map Part.l := ⟨_, rfl⟩
      have hKl : K.length = ps.length := by rw [hKd]; simp
      rw [← hKd] at HF HK
      have HKd := Lib.hid hKd
      have HKl := Lib.hid hKl
      clear hKd hKl
      go_wp2_with fail
      refine (rscan_any wr ta tc t (ht.ext hx (fun _ _ h => h)) (by omega) htl htc0).mono ?_
      rintro e w4 ⟨xa, xc, rfl, _, hx4⟩
      have hx04 := hx.comp hx4
      by_cases hsc : (scan t).1 = []
      rotate_left
      · have d5 : decide (0 < (scan t).1.length) = true := decT (List.length_pos_iff.2 hsc)
        go_wp2_with fail
        go_ret
        exact ⟨rfl, hx04⟩
      have d5 : decide (0 < (scan t).1.length) = false := decF (by rw [hsc]; simp)
      have Hsc := Lib.hid hsc
      obtain ⟨hap1, hap2⟩ := hW.append t (by simp only [List.length_nil]; omega)
      have hN4 : ∀ i, False ∨ i = j → i < w4.heap.size := fun i hi => Nat.lt_of_lt_of_le (hN i hi) hx4.size
      have hD4 := hD.no hx4
      clear hsc hD
      go_wp2_with fail
      refine (append_any w4 g s _ hD4 hN4 hokS ta tc t (ht.ext hx04 (fun _ _ h => h)) (block_low ht hgw) (by omega)).mono ?_
      rintro e w5 ⟨rfl, hD5, hx5⟩
      have hx05 := ext_new hx04 hgw hx5
      obtain ⟨s6, ho6, hW6⟩ := Well.reopens (s := (s.append t).1) (L := K) (t := t) (snap := []) (by rw [← HF.out]; exact hap2) (.inl rfl) HK.out Hsc.out
      rw [← HF.out] at hW6
      have hok5 := hap2.ok (by simp only [List.length_nil, List.length_append]; omega) (by omega) (by omega)
      have Ho6 := Lib.hid ho6
      have hN5 : ∀ i, False ∨ i = j → i < w5.heap.size := fun i hi => Nat.lt_of_lt_of_le (hN4 i hi) hx5.size
      clear ho6 hap1 hap2 hD4 hx5 hx4 hN hN4 d5
      generalize (s.append t).1 = s5 at *
      go_wp2_with fail
      refine (open_any w5 g s5 _ hD5 hN5 hok5).mono ?_
      rintro e w6 ⟨J, sa, sc, ra, rc, rfl, _, hR6, hx6, hend⟩
      rw [Ho6.out] at hR6 hend ⊢
      simp only at hR6 hend ⊢
      rcases hend with ⟨h0, _⟩ | ⟨_, j2, rfl, hj1, hj2, hJ6, hD6⟩
      · exact absurd rfl h0
      have hx06 := ext_new hx05 hgw hx6
      have hj2w : w.heap.size ≤ j2 := Nat.le_trans hx05.size hj1
      have hgj2 : g ≠ j2 := by have := hD5.lt; omega
      have hN6 : ∀ i, (False ∨ i = j) ∨ i = j2 → i < w6.heap.size := fun i hi => by rcases hi with hi | hi; exact Nat.lt_of_lt_of_le (hN5 i hi) hx6.size; omega
      have hargs : Lists w6 la K := ⟨ps, HKd.out.symm, hld.ext hx06 (fun _ _ h => h), fun p hp => (Hlg.out p hp).1.ext hx06 (fun _ _ h => h)⟩
      clear hD5 hx6 hj1
      have HK2 := Lib.hid (show K.length = ps.length from HKl.out)
      go_wp2_with fail
      refine (rows_q w6 ra la rc lc K.length ps.length K K rfl HKl.out.symm hR6.lists hargs (by have := HKl.out; omega) (by have := HKl.out; omega)).mono ?_
      rintro e w7 ⟨rfl, n7, rfl⟩
      rw [decide_eq_true rfl]
      have hx7 := Ext.drewN no w6 n7
      have hD7 := hD6.no hx7
      have hJ7 := hJ6.ext (by simp [jcells]) hx7 (fun h => h)
      have hx07 := hx06.comp hx7
      have hN7 : ∀ i, (False ∨ i = j) ∨ i = j2 → i < (w6.drewN n7).heap.size := hN6
      clear hx06 hx7 hD6 hJ6 hR6 hargs hN6
      generalize w6.drewN n7 = w7 at *
      have hok6 := hW6.ok (by simp only [List.length_nil]; omega) (by omega) (by omega)
      have Hl6 := Lib.hid hW6.ilog
      go_wp2_with fail
      refine (log_any' w7 g s6 _ hD7 hok6).mono ?_
      rintro e w8 ⟨a8, c8, rfl, _, hx8⟩
      rw [Hl6.out]
      have hD8 := hD7.no hx8
      have hJ8 := hJ7.ext (by simp [jcells]) hx8 (fun h => h)
      have hx08 := hx07.comp hx8
      have hN8 : ∀ i, (False ∨ i = j) ∨ i = j2 → i < w8.heap.size := fun i hi => Nat.lt_of_lt_of_le (hN7 i hi) hx8.size
      clear hx07 hD7 hJ7 hx8 hN7
      go_wp2_with fail
      refine (count_any w8 g j2 K.length hJ8).mono ?_
      rintro e w9 ⟨rfl, rfl⟩
      rw [HKl.out]
      rw [HKl.out] at hJ8
      obtain ⟨hb1, hb2⟩ := hW6.jadd m (by simp only [List.length_nil]; omega)
      have Hb1 := Lib.hid hb1
      have hdn := hW6.done
      clear hb1
      go_wp2_with fail
      refine (jadd_any w8 g j2 ps.length s6 _ hD8 hJ8 hgj2.symm (.inr rfl) hN8 hok6 (by omega) (by omega) ma mc m (hm.ext hx08 (fun _ _ h => h)) (by omega)).mono ?_
      rintro e w9 ⟨rfl, hD9, _, hx9⟩
      rw [Hb1.out]
      have hx09 : Ext no w w9 := hx08.trans hx9 (fun i hi h => by rcases h with h | h <;> omega)
      have hN9 : ∀ i, (False ∨ i = j) ∨ i = j2 → i < w9.heap.size := fun i hi => Nat.lt_of_lt_of_le (hN8 i hi) hx9.size
      have hW9 : Well (s6.jadd m).1 ((K ++ [m]).flatMap frame ++ []) [] 100000 (2 * ps.length + 1 + 1 + 2) := by rw [List.append_nil, List.flatMap_append, List.flatMap_singleton, ← HF.out]; exact hb2
      obtain ⟨s10, ho10, _⟩ := hW9.reopens (.inl rfl) (fun b hb => by rcases List.mem_append.1 hb with hb | hb; exact HK.out b hb; simp at hb; subst hb; omega) (by rw [scan_nil])
      have hok9 := hb2.ok (by simp only [List.length_nil, List.length_append, frame_length]; omega) (by omega) (by omega)
      have Ho10 := Lib.hid ho10
      clear ho10 hb2 hW9 hD8 hJ8 hx08 hN8 hx9
      generalize (s6.jadd m).1 = s9 at *
      go_wp2_with fail
      refine (open_any w9 g s9 _ hD9 hN9 hok9).mono ?_
      rintro e w10 ⟨J, sa2, sc2, qa, qc, rfl, _, hR10, hx10, _⟩
      rw [Ho10.out] at hR10 ⊢
      simp only at hR10 ⊢
      have hx010 := ext_new hx09 hgw hx10
      have hm10 := hm.ext hx010 (fun _ _ h => h)
      obtain ⟨qs, hqs, hqd, hqr, _, _⟩ := hR10
      have hql : qs.length = ps.length + 1 := by have := congrArg List.length hqs; simp [HKl.out] at this; exact this
      obtain ⟨qad, rfl, _⟩ := hqd.ne (by simp; omega)
      have hqc := hqd.cell ps.length (by simp; omega)
      rw [List.getElem_map, Part.v] at hqc
      have hqm : (qs[ps.length]'(by omega)).l = m := by
        have : (qs.map Part.l)[ps.length]? = (K ++ [m])[ps.length]? := by rw [hqs]
        rw [List.getElem?_append_right (by rw [HKl.out]; omega), List.getElem?_map, List.getElem?_eq_getElem (by omega), HKl.out] at this
        simpa using this
      have hqr1 := hqr (qs[ps.length]'(by omega)) (by simp)
      rw [hqm] at hqc hqr1
      have Hql := Lib.hid (show (K ++ [m]).length = ps.length + 1 by rw [List.length_append, HKl.out]; rfl)
      rw [Hql.out]
      generalize (qs[ps.length]'(by omega)) = q at *
      obtain ⟨q1, q2, q3⟩ := q
      simp only at hqc hqr1
      clear hqs hqd hqr hqm hql
      have cx : ∀ n, (convert 22 9 (.slice q1 m.length q3)).run Try.prog (w10.drewN n) = .ok (.string (str m)) (w10.drewN n) := fun n => convStr _ _ _ _ _ rfl (hqr1.drewN n)
      have cy : ∀ n, (convert 22 9 (.slice ma m.length mc)).run Try.prog (w10.drewN n) = .ok (.string (str m)) (w10.drewN n) := fun n => convStr _ _ _ _ _ rfl (hm10.drewN n)
      have hbe := beqStrT (rfl : m = m)
      go_upto_region 22 with fail
      go_quiet (fail)
      go_wp2_with fail
      go_ret
      exact ⟨rfl, hx010.comp (Ext.drewN no _ _)⟩
end Go.Proofs.Ytbmkmbankflbpaa
