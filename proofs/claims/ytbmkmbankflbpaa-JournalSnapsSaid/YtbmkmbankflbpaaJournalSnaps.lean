/- The walk of the law JournalSnaps. -/
import Derived.Test.YtbmkmbankflbpaaJoM
import Derived.Deep.CutBlock
namespace Go.Proofs.Ytbmkmbankflbpaa
open Go.RowKit Go.Esc
set_option linter.unusedVariables false
set_option linter.unusedSimpArgs false

set_option maxRecDepth 100000 in
set_option maxHeartbeats 8000000 in
theorem snaps_walk (w : World) (la : Option Addr) (ps : List Part) (lc : Nat) (every : Int)
    (hld : Rd w la (ps.map Part.v)) (hlg : ∀ p ∈ ps, p.good w) (hll : ps.length ≤ lc) (hlc : lc ≤ maxLen) (hev : I64ok every) :
    Calls Try.prog 5 #[.slice la ps.length lc, .int .i64 every] w fun e w' => e = .returned (.bool true) ∧ Ext no w w' := by
  unfold maxLen at hlc
  have Hlg := Lib.hid hlg
  have Hev := Lib.hid hev
  clear hlg hev
  go_enter Try.func5, Try.ntmps5
  go_wp2_with fail
  refine (known_any w).mono ?_
  rintro e w1 ⟨rfl, hx1⟩
  by_cases h1 : 20 < ps.length
  · have d1 : decide ((20 : Int) < ps.length) = true := decT (by omega)
    go_wp2_with fail
    go_ret
    exact ⟨rfl, hx1⟩
  have d1 : decide ((20 : Int) < ps.length) = false := decF (by omega)
  go_wp2_with fail
  refine (within_any every 5 w1 (by omega) (by omega) Hev.out).mono ?_
  rintro e w2 ⟨rfl, rfl⟩
  obtain ⟨ev, hevn⟩ : ∃ ev : Nat, every % 5 = ev := ⟨(every % 5).toNat, by omega⟩
  rw [hevn]
  have hev5 : ev < 5 := by omega
  clear hevn
  go_wp2_with fail
  refine (newdisk_any w1 100000 (by omega) (by omega) (fun _ => False)).mono ?_
  rintro e w2 ⟨g, rfl, hD2, hg, hx2⟩
  have hgw : w.heap.size ≤ g := Nat.le_trans hx1.size hg
  have hx12 := hx1.comp hx2
  go_wp2_with fail
  refine (open_any w2 g _ _ hD2 (fun _ h => h.elim) (DS.new_ok 100000 (by omega))).mono ?_
  rintro e w3 ⟨J, sa, sc, ea, ec, rfl, _, _, hx3, hend⟩
  rw [new_opens] at hend ⊢
  simp only at hend ⊢
  rcases hend with ⟨h0, _⟩ | ⟨_, j, rfl, hj1, hj2, hJ, hD3⟩
  · exact absurd rfl h0
  have hx03 := ext_new hx12 hgw hx3
  have hjw : w.heap.size ≤ j := Nat.le_trans hx12.size hj1
  have hgj : g ≠ j := by have := hD2.lt; omega
  have hW0 := Well.new 100000
  clear hx1 hx2 hx3 hx12 hD2 hj1 d1
  go_wp2_with fail
  go_loopw [11, 12, 13, 14, 15, 16, 17] (fun s11 s12 s13 _ _ _ _ wr => ∃ (k : Nat) (s : DS) (p sn F : List UInt8) (L : List (List UInt8)) (M : Nat → Prop), k ≤ ps.length ∧ s13 = .int .i64 k ∧ s11 = .string (str p) ∧ s12 = .int .i64 L.length ∧ L.length ≤ k ∧ (∀ b ∈ L, b.length ≤ 200) ∧ F = L.flatMap frame ∧ Well s F sn 100000 (3 * k) ∧ said sn = p ∧ (sn = [] ∨ (one sn).2 = 0) ∧ sn.length ≤ 208 ∧ Dk wr g s M ∧ Blk wr j (jcells g L.length) ∧ M j ∧ (∀ i, M i → i < wr.heap.size) ∧ Ext no w wr) (fun _ _ s13 _ _ _ _ _ => ps.length - (intOf s13).toNat)
  case atStart => exact ⟨0, DS.new 100000, [], [], [], [], _, Nat.zero_le _, rfl, rfl, rfl, by simp, by simp, by simp, hW0, rfl, .inl rfl, by simp, hD3, hJ, .inr rfl, fun i hi => by rcases hi with hi | hi; exact hi.elim; omega, hx03⟩
  case round =>
    clear hD3 hJ hx03 hW0 hj2
    obtain ⟨k, s, p, sn, F, L, M, hk, rfl, rfl, rfl, hLk, hall, hF, hW, hsaid, hone, hsn, hD, hJ, hMj, hM, hx⟩ := hrel
    have Hall := Lib.hid hall
    have HF := Lib.hid hF
    have Hsaid := Lib.hid hsaid
    have Hone := Lib.hid hone
    have hflb : F.length ≤ 4160 := by
      have := flat_len hall
      rw [← hF] at this
      have := Nat.mul_le_mul_left 208 (show L.length ≤ 20 by omega)
      omega
    clear hall hF hsaid hone
    have hjlt := hJ.lt (by simp [jcells])
    have hokS := hW.ok (by omega) (by omega) (by omega)
    by_cases hlt : k < ps.length
    rotate_left
    · have e14 : decide ((k : Int) < ps.length) = false := decF (by omega)
      go_wp2_with fail
      go_ret
      exact ⟨rfl, hx⟩
    have e14 : decide ((k : Int) < ps.length) = true := decT (by omega)
    obtain ⟨lad, rfl, hladw⟩ := hld.ne (by simp; omega)
    have hcell := hx.keeps (hld.cell k (by simpa using hlt)) (fun h => h)
    rw [List.getElem_map, Part.v] at hcell
    obtain ⟨q1, q2, q3⟩ := Hlg.out ps[k] (by simp)
    have hq0 := Lib.hid q1
    have hq1 := q1.ext hx (fun _ _ h => h)
    clear q1
    generalize ps[k] = q at *
    by_cases h200 : 200 < q.l.length
    · have d200 : decide ((200 : Int) < q.l.length) = true := decT (by omega)
      go_wp2_with fail
      go_ret
      exact ⟨rfl, hx⟩
    have d200 : decide ((200 : Int) < q.l.length) = false := decF (by omega)
    have hdn := hW.done
    have hadb : (lad.add k).block = lad.block := add_block _ _
    go_upto_if 54 with fail
    go_cut [11, 12] (fun s11 s12 wx => ∃ (s2 : DS) (p2 sn2 F2 : List UInt8) (L2 : List (List UInt8)), s11 = .string (str p2) ∧ s12 = .int .i64 L2.length ∧ L2.length ≤ k + 1 ∧ (∀ b ∈ L2, b.length ≤ 200) ∧ F2 = L2.flatMap frame ∧ Well s2 F2 sn2 100000 (3 * k + 2) ∧ said sn2 = p2 ∧ (sn2 = [] ∨ (one sn2).2 = 0) ∧ sn2.length ≤ 208 ∧ Dk wx g s2 M ∧ Blk wx j (jcells g L2.length) ∧ (∀ i, M i → i < wx.heap.size) ∧ Ext no w wx)
    case first =>
      cases hc : ((k : Int) % ((1 : Int) + ev) == ((1 : Int) + ev) - 1) with
      | true =>
        obtain ⟨hs1, hs2⟩ := hW.jsnap q.l (by omega)
        have Hs1 := Lib.hid hs1
        have Hsf := Lib.hid (said_frame q.l (by omega))
        have Hof := Lib.hid (show (one (frame q.l)).2 = 0 by rw [one_frame q.l (by omega)])
        have Hfl := Lib.hid (frame_length q.l)
        go_wp2_with fail
        refine (jsnap_any wr g j L.length s M hD hJ hgj.symm hMj hM hokS q.a q.c q.l hq1 (by omega)).mono ?_
        rintro e w4 ⟨rfl, hD4, hJ4, hx4⟩
        rw [Hs1.out, tally_ok] at hJ4
        rw [Hs1.out]
        have hx04 : Ext no w w4 := hx.trans hx4 (fun i hi h => by rcases h with h | h <;> omega)
        have hcell4 := hx4.keeps hcell (fun h => by rcases h with h | h <;> omega)
        have cx : (convert 22 9 (.slice q.a q.l.length q.c)).run Try.prog w4 = .ok (.string (str q.l)) w4 := convStr _ _ _ _ _ rfl (hq0.out.ext hx04 (fun _ _ h => h))
        generalize (s.jsnap q.l).1 = s4 at *
        clear hcell hD hJ hs1
        go_wp2_with fail
        go_meet
        exact ⟨s4, q.l, frame q.l, [], [], rfl, rfl, by simp, by simp, by simp, hs2.more (by omega), Hsf.out, .inr Hof.out, by rw [Hfl.out]; omega, hD4, hJ4, fun i hi => Nat.lt_of_lt_of_le (hM i hi) hx4.size, hx04⟩
      | false =>
        obtain ⟨hs1, hs2⟩ := hW.jadd q.l (by omega)
        have Hs1 := Lib.hid hs1
        have Hf2 := Lib.hid (show F ++ frame q.l = (L ++ [q.l]).flatMap frame by rw [List.flatMap_append, List.flatMap_singleton, HF.out])
        go_wp2_with fail
        refine (jadd_any wr g j L.length s M hD hJ hgj.symm hMj hM hokS (by omega) (by omega) q.a q.c q.l hq1 (by omega)).mono ?_
        rintro e w4 ⟨rfl, hD4, hJ4, hx4⟩
        rw [Hs1.out, tally_ok] at hJ4
        rw [Hs1.out]
        have hx04 : Ext no w w4 := hx.trans hx4 (fun i hi h => by rcases h with h | h <;> omega)
        generalize (s.jadd q.l).1 = s4 at *
        obtain ⟨F2, hF2⟩ : ∃ F2, F2 = F ++ frame q.l := ⟨_, rfl⟩
        rw [← hF2] at hs2 Hf2
        have Hn := Lib.hid (show (L ++ [q.l]).length = L.length + 1 by simp)
        clear hcell hD hJ hs1 hF2
        go_wp2_with fail
        go_meet
        exact ⟨s4, p, sn, F2, L ++ [q.l], rfl, by rw [Hn.out]; rfl, by rw [Hn.out]; omega, by intro b hb; rcases List.mem_append.1 hb with hb | hb; exact Hall.out b hb; simp at hb; subst hb; omega, Hf2.out, hs2, Hsaid.out, Hone.out, hsn, hD4, by rw [Hn.out]; exact hJ4, fun i hi => Nat.lt_of_lt_of_le (hM i hi) hx4.size, hx04⟩
    case rest =>
      clear hD hJ hM hx hcell hq1 hW hflb hokS hdn HF Hsaid Hone Hall hsn hLk hjlt hq0
      obtain ⟨s2, p2, sn2, F2, L2, rfl, rfl, hL2, hall2, hF2, hW2, hsaid2, hone2, hsn2, hD2, hJ2, hM2, hx2⟩ := hcut
      generalize wc = w4 at *
      obtain ⟨s3, ho3, hW3⟩ := Well.reopens (s := s2) (L := L2) (t := []) (by rw [List.append_nil, ← hF2]; exact hW2) hone2 (fun b hb => Nat.le_trans (hall2 b hb) (by omega)) (by rw [scan_nil])
      rw [hsaid2] at ho3
      have hflb : F2.length ≤ 4368 := by
        have := flat_len hall2
        rw [← hF2] at this
        have := Nat.mul_le_mul_left 208 (show L2.length ≤ 21 by omega)
        omega
      have hok2 := hW2.ok (by omega) (by omega) (by omega)
      rw [← hF2] at hW3
      have Ho3 := Lib.hid ho3
      have Hall := Lib.hid hall2
      have HF := Lib.hid hF2
      have Hsaid := Lib.hid hsaid2
      have Hone := Lib.hid hone2
      clear ho3 hall2 hF2 hsaid2 hone2
      go_wp2_with fail
      refine (open_any w4 g s2 M hD2 hM2 hok2).mono ?_
      rintro e w5 ⟨J, sb, sbc, ra, rc, rfl, hsb, _, hx5, hend⟩
      rw [Ho3.out] at hsb hend ⊢
      simp only at hsb hend ⊢
      rcases hend with ⟨h0, _⟩ | ⟨_, j2, rfl, hj1, hj2, hJ5, hD5⟩
      · exact absurd rfl h0
      have hx05 := ext_new hx2 hgw hx5
      have hJj := hJ2.ext (by simp [jcells]) hx5 hgj.symm
      have cx : (convert 22 9 (.slice sb p2.length sbc)).run Try.prog w5 = .ok (.string (str p2)) w5 := convStr _ _ _ _ _ rfl hsb
      have hbe := beqStrT (rfl : p2 = p2)
      clear hD2 hJ2 hsb
      go_wp2_with fail
      refine (count_any w5 g j L2.length hJj).mono ?_
      rintro e w6 ⟨rfl, rfl⟩
      go_wp2_with fail
      refine (count_any w5 g j2 L2.length hJ5).mono ?_
      rintro e w6 ⟨rfl, rfl⟩
      clear cx hbe
      go_wp2_with fail
      refine ⟨?_, by simp [intOf]; omega⟩
      repeat apply Exists.intro
      refine ⟨?rel, ?eq⟩
      case eq => rfl
      case rel => exact ⟨k + 1, s3, p2, sn2, F2, L2, fun i => M i ∨ i = j2, by omega, by go_num, rfl, rfl, hL2, Hall.out, HF.out, hW3.more (by omega), Hsaid.out, Hone.out, hsn2, hD5, hJj, .inl hMj, fun i hi => by rcases hi with hi | hi; exact Nat.lt_of_lt_of_le (hM2 i hi) hx5.size; omega, hx05⟩
end Go.Proofs.Ytbmkmbankflbpaa
