/- The walk of the law FramesWrite. -/
import Derived.Test.YtfihjjbonahahaaFrO
import Derived.Test.YtfihjjbonahahaaFrP
import Derived.Test.YtfihjjbonahahaaRegionB
namespace Go.Proofs.Ytfihjjbonahahaa
open Go.RowKit Go.Esc
set_option linter.unusedVariables false
set_option linter.unusedSimpArgs false

/-- The five rows of bytes that the law asks of. -/
def Five (w0 : World) (s : Value) (wx : World) : Prop := ∃ (ad : Addr) (qs : List Part), s = .slice (some ad) 5 5 ∧ qs.length = 5 ∧ Rd wx (some ad) (qs.map Part.v) ∧
  (∀ q ∈ qs, Rd wx q.a (bs q.l) ∧ q.l.length ≤ 3009 ∧ q.l.length ≤ q.c ∧ q.c ≤ maxLen) ∧ Ext no w0 wx

theorem five_mk {w5 w8 : World} {B : Nat} {zd : Addr} {F b : List UInt8} {i j c4 yc c14 bc : Nat} {z y0 : UInt8} {ya a14 ba : Option Addr} {o16 : Addr} (hz : Own w5 B (some zd) 1 F.length c4 (bs (F.set i z))) (hyd5 : Rd w5 ya (bs F)) (hbd5 : Rd w5 ba (bs b))
    (hzF : (F.set i z).length = F.length) (hjF : (F.take j).length = j) (hx : Ext no w5 w8) (h14 : Own w8 w5.heap.size a14 1 (F.length + 1) c14 (bs (F ++ [y0])))
    (h16 : Rd w8 (some o16) #[Value.slice ya F.length yc, .slice (some zd) F.length c4, .slice ya j yc, .slice a14 (F.length + 1) c14, .slice ba b.length bc].toList)
    (hbl : b.length ≤ bc) (hbc : bc ≤ maxLen) (hync : F.length ≤ yc) (hycm : yc ≤ maxLen) (hF3 : F.length ≤ 3008) (hb3 : b.length ≤ 3000) : Five w5 (.slice (some o16) 5 5) w8 := by
  refine ⟨o16, [⟨ya, F, yc⟩, ⟨some zd, F.set i z, c4⟩, ⟨ya, F.take j, yc⟩, ⟨a14, F ++ [y0], c14⟩, ⟨ba, b, bc⟩], rfl, rfl, ?_, ?_, hx⟩
  · simp only [List.map_cons, List.map_nil, Part.v, hzF, hjF, List.length_append, List.length_singleton]
    exact h16
  · intro q hq
    simp only [List.mem_cons, List.not_mem_nil, or_false] at hq
    rcases hq with rfl | rfl | rfl | rfl | rfl
    · exact ⟨hyd5.ext hx (fun _ _ h => h), by simp only; omega, hync, hycm⟩
    · exact ⟨hz.rd.ext hx (fun _ _ h => h), by simp only [hzF]; omega, by simp only [hzF]; exact hz.nc, hz.cm⟩
    · exact ⟨by have := (hyd5.ext hx (fun _ _ h => h)).take j; rw [bs_take] at this; exact this, by simp only [List.length_take]; omega, by simp only [List.length_take]; omega, hycm⟩
    · exact ⟨h14.rd, by simp only [List.length_append, List.length_singleton]; omega, by simp only [List.length_append, List.length_singleton]; exact h14.nc, h14.cm⟩
    · exact ⟨hbd5.ext hx (fun _ _ h => h), by simp only; omega, hbl, hbc⟩

set_option maxRecDepth 100000 in
set_option maxHeartbeats 8000000 in
theorem write_walk (w : World) (ba : Option Addr) (b : List UInt8) (bc : Nat) (at0 : Int) (y0 : UInt8) (cut : Int)
    (hbd : Rd w ba (bs b)) (hbl : b.length ≤ bc) (hbc : bc ≤ maxLen) (hat : I64ok at0) (hcut : I64ok cut) :
    Calls Try.prog 7 #[.slice ba b.length bc, .int .i64 at0, B8 y0, .int .i64 cut] w fun e w' => e = .returned (.bool true) ∧ Ext no w w' := by
  have Hat := Lib.hid hat
  have Hcut := Lib.hid hcut
  clear hat hcut
  have hbcm := hbc
  unfold maxLen at hbc
  unfold B8
  have hy0 := y0.toNat_lt
  by_cases h3000 : 3000 < b.length
  · have d1 : decide ((3000 : Int) < b.length) = true := by rw [decide_eq_true_eq]; omega
    go_enter Try.func7, Try.ntmps7
    go_wp2_with fail
    refine (known_any w).mono ?_
    rintro e w1 ⟨rfl, hx1⟩
    go_wp2_with fail
    go_ret
    exact ⟨rfl, hx1⟩
  have d1 : decide ((3000 : Int) < b.length) = false := by rw [decide_eq_false_iff_not]; omega
  go_enter Try.func7, Try.ntmps7
  go_wp2_with fail
  refine (known_any w).mono ?_
  rintro e w1 ⟨rfl, hx1⟩
  go_wp2_with fail
  refine (fframe_any w1 ba bc b (hbd.ext hx1 (fun _ _ h => h)) (by omega)).mono ?_
  rintro e w2 ⟨xa, xc, rfl, hownx, hx2⟩
  have hx02 := hx1.comp hx2
  go_wp2_with fail
  refine (rframe_any w2 ba bc b (hbd.ext hx02 (fun _ _ h => h)) (by omega)).mono ?_
  rintro e w3 ⟨ya, yc, rfl, howny, hx3⟩
  have hx03 := hx02.comp hx3
  have hxd3 := hownx.rd.ext hx3 (fun _ _ h => h)
  have hyd3 := howny.rd
  have hbd3 := hbd.ext hx03 (fun _ _ h => h)
  have hync := howny.nc
  have hycm := howny.cm
  have hfl := frame_length b
  have hF8 : 8 ≤ (frame b).length := by omega
  have hF3 : (frame b).length ≤ 3008 := by omega
  clear hx1 hx2 hx02 hx3 hownx howny hfl
  generalize frame b = F at *
  have cx : (convert 23 9 (.slice xa F.length xc)).run Try.prog w3 = .ok (.string (str F)) w3 := convStr _ _ _ _ _ rfl hxd3
  have cy : (convert 23 9 (.slice ya F.length yc)).run Try.prog w3 = .ok (.string (str F)) w3 := convStr _ _ _ _ _ rfl hyd3
  go_wp2_with fail
  refine (fcrc_any w3 ba bc b hbd3 (by omega)).mono ?_
  rintro e w4 ⟨rfl, rfl⟩
  go_wp2_with fail
  refine (rcrc_any w3 ba bc b hbd3 (by omega)).mono ?_
  rintro e w4 ⟨rfl, rfl⟩
  go_wp2_with (at_builtin; refine wpList_append TBytes rfl rfl rfl (emptied w3 5) rfl (hyd3.alloc _) (by simp) (bs_one _) (by unfold maxLen; omega) (by omega) (by simp) ?_)
  intro a4 c4 w4 happ
  obtain ⟨hown4, hx4⟩ := copied happ
  clear happ cx cy hxd3
  obtain ⟨i, hi⟩ : ∃ i : Nat, at0 % (F.length : Int) = i := ⟨(at0 % (F.length : Int)).toNat, by have := Int.emod_nonneg at0 (show (F.length : Int) ≠ 0 by omega); omega⟩
  have hil : i < F.length := by have := Int.emod_lt_of_pos at0 (show (0 : Int) < F.length by omega); omega
  have Hi := Lib.hid hi
  clear hi
  go_wp2_with fail
  refine (within_any at0 F.length w4 (by omega) (by omega) Hat.out).mono ?_
  rintro e w5 ⟨rfl, rfl⟩
  rw [Hi.out]
  obtain ⟨zd, rfl, _⟩ := hown4.rd.ne (by rw [bs_length]; omega)
  have hcell := hown4.rd.cell i (by simpa using hil)
  rw [show (bs F)[i]'(by simpa using hil) = .int .u8 F[i].toNat from by simp [bs, B8]] at hcell
  have hfr : w4.frozen? (zd.add i) = false := by
    obtain ⟨_, e, _, f⟩ := hown4.can i (by have := hown4.nc; omega)
    cases e; exact f
  have hFi := F[i].toNat_lt
  obtain ⟨z, hz⟩ : ∃ z : UInt8, ((F[i].toNat : Int) + y0.toNat) % 256 = z.toNat := ⟨F[i] + y0, by rw [UInt8.toNat_add]; simp⟩
  generalize F[i] = x at *
  have hset := hown4.set i (by omega) (B8 z)
  rw [bs_set] at hset
  have hxs : Ext no w3 (w4.setCell (zd.add i) (B8 z)) := hx4.trans (Ext.setCell (S := just zd.block) _ _ _ (add_block _ _)) (fun q hq h => by have := (hown4.base _ rfl).1; simp only [Esc.just] at h; omega)
  unfold B8 at hset hxs
  have Hset := Lib.hid (And.intro hset hxs)
  clear hset hxs
  obtain ⟨j, hj⟩ : ∃ j : Nat, cut % ((F.length : Int) + 1) = j := ⟨(cut % ((F.length : Int) + 1)).toNat, by have := Int.emod_nonneg cut (show (F.length : Int) + 1 ≠ 0 by omega); omega⟩
  have hjl : j ≤ F.length := by have := Int.emod_lt_of_pos cut (show (0 : Int) < (F.length : Int) + 1 by omega); omega
  have Hj := Lib.hid hj
  clear hj
  go_upto_region 11 with fail
  generalize w4.setCell (zd.add i) (.int .u8 z.toNat) = w5 at *
  have hyd5 := hyd3.ext Hset.out.2 (fun _ _ h => h)
  have hbd5 := hbd3.ext Hset.out.2 (fun _ _ h => h)
  have Hset5 := Hset
  have HzF := Lib.hid (show (F.set i z).length = F.length by simp)
  have HjF := Lib.hid (show (F.take j).length = j by rw [List.length_take]; omega)
  have hx05 := hx03.comp Hset.out.2
  clear Hset hz hcell hfr hown4 hx4 hx03 hyd3 hbd3
  go_cut [14] (fun s14 wx => Five w5 s14 wx)
  case first =>
    --<A
    refine wp_region_E [] (fun _ => True) (by kernel_rfl) ?_
    have hx20 := Ext.drew no w5
    refine wpE_take 0 (v := ?_) rfl (by kernel_rfl) (by kernel_rfl) (by kernel_rfl) (fun _ _ _ h => h) trivial (by rfl) ?_ ?_
    rotate_left
    · (intro wq; go_simp; try with_reducible rfl)
    simp only [Act.put, List.setIfInBounds_toArray, List.set_cons_zero, List.set_cons_succ]
    refine wpE_take 1 (v := ?_) rfl (by kernel_rfl) (by kernel_rfl) (by kernel_rfl) (fun _ _ _ h => h) trivial (by rfl) ?_ ?_
    rotate_left
    · (intro wq; go_simp; try with_reducible rfl)
    simp only [Act.put, List.setIfInBounds_toArray, List.set_cons_zero, List.set_cons_succ]
    refine wpE_take 2 (v := ?_) rfl (by kernel_rfl) (by kernel_rfl) (by kernel_rfl) (fun _ _ _ h => h) trivial (by rfl) ?_ ?_
    rotate_left
    · (intro wq; go_simp; try with_reducible rfl)
    simp only [Act.put, List.setIfInBounds_toArray, List.set_cons_zero, List.set_cons_succ]
    refine wpE_take 3 (v := ?_) rfl (by kernel_rfl) (by kernel_rfl) (by kernel_rfl) (fun _ _ _ h => h) trivial (by rfl) ?_ ?_
    rotate_left
    · (intro wq; go_simp; try with_reducible rfl)
    simp only [Act.put, List.setIfInBounds_toArray, List.set_cons_zero, List.set_cons_succ]
    refine wpE_take 4 (v := ?_) rfl (by kernel_rfl) (by kernel_rfl) (by kernel_rfl) (fun _ _ _ h => h) trivial (by rfl) ?_ ?_
    rotate_left
    · (intro wq; go_simp; try with_reducible rfl)
    simp only [Act.put, List.setIfInBounds_toArray, List.set_cons_zero, List.set_cons_succ]
    refine wpE_take 5 (v := ?_) rfl (by kernel_rfl) (by kernel_rfl) (by kernel_rfl) (fun _ _ _ h => h) trivial (by rfl) ?_ ?_
    rotate_left
    · (intro wq; go_simp; try with_reducible rfl)
    simp only [Act.put, List.setIfInBounds_toArray, List.set_cons_zero, List.set_cons_succ]
    refine wpE_take 6 (v := .int .i64 ((F.length : Int) + 1)) rfl (by kernel_rfl) (by kernel_rfl) (by kernel_rfl) (fun _ _ _ h => h) trivial (by rfl) (by intro wq; go_simp; rw [IntKind.wrap_i64]; omega) ?_
    simp only [Act.put, List.setIfInBounds_toArray, List.set_cons_zero, List.set_cons_succ]
    refine wpE_take 10 (v := ?_) rfl (by kernel_rfl) (by kernel_rfl) (by kernel_rfl) (fun _ _ _ h => h) trivial (by rfl) ?_ ?_
    rotate_left
    · (intro wq; go_simp; try with_reducible rfl)
    simp only [Act.put, List.setIfInBounds_toArray, List.set_cons_zero, List.set_cons_succ]
    refine wpE_take 12 (v := ?_) rfl (by kernel_rfl) (by kernel_rfl) (by kernel_rfl) (fun _ _ _ h => h) trivial (by rfl) ?_ ?_
    rotate_left
    · (intro wq; go_simp; try with_reducible rfl)
    simp only [Act.put, List.setIfInBounds_toArray, List.set_cons_zero, List.set_cons_succ]
    refine wpE_take 15 (v := ?_) rfl (by kernel_rfl) (by kernel_rfl) (by kernel_rfl) (fun _ _ _ h => h) trivial (by rfl) ?_ ?_
    rotate_left
    · (intro wq; go_simp; try with_reducible rfl)
    simp only [Act.put, List.setIfInBounds_toArray, List.set_cons_zero, List.set_cons_succ]
    refine wpE_execs [7, 9, 13] (by kernel_rfl) (by simp) ?_
    intro j hj
    simp only [List.mem_cons, List.not_mem_nil, or_false] at hj
    rcases hj with rfl | rfl | rfl
    · refine ⟨_, rfl, by rfl, ?_⟩
      intro K hK
      go_simp
      refine (within_any cut ((F.length : Int) + 1) _ (by omega) (by omega) Hcut.out).mono ?_
      rintro e W0 ⟨rfl, rfl⟩
      rw [Hj.out]
      refine hK _ _ (fun _ => True) (.inr (fun _ _ => trivial)) trivial ?_
      clear hK K
      try simp only [Act.put, List.setIfInBounds_toArray, List.set_cons_zero, List.set_cons_succ]
      refine wpE_take 8 (v := .slice ya j yc) rfl (by kernel_rfl) (by kernel_rfl) (by kernel_rfl) (fun _ _ _ h => h) trivial (by rfl) (by intro wq; exact yields_cut_h TBytes rfl rfl rfl j rfl (by omega)) ?_
      simp only [Act.put, List.setIfInBounds_toArray, List.set_cons_zero, List.set_cons_succ]
      refine wpE_execs [9, 13] (by kernel_rfl) (by simp) ?_
      intro j hj
      simp only [List.mem_cons, List.not_mem_nil, or_false] at hj
      rcases hj with rfl | rfl
      · refine ⟨_, rfl, by rfl, ?_⟩
        intro K hK
        refine op_build0 (e := 5) rfl rfl w5.heap.size (hx20.size) (by intro wq; go_simp) ?_
        intro z9 W1 hz1 hy1 zb1 zb2
        refine hK _ _ (fun _ => True) (.inr (fun _ _ => trivial)) trivial ?_
        clear hK K
        try simp only [Act.put, List.setIfInBounds_toArray, List.set_cons_zero, List.set_cons_succ]
        have hx21 := hx20.comp hy1
        refine wpE_execs [11, 13] (by kernel_rfl) (by simp) ?_
        intro j hj
        simp only [List.mem_cons, List.not_mem_nil, or_false] at hj
        rcases hj with rfl | rfl
        · refine ⟨_, rfl, by rfl, ?_⟩
          intro K hK
          refine op_append TBytes rfl rfl hz1 rfl (hyd5.ext hx21 (fun _ _ h => h)) (by simp) (bs_one _) (by unfold maxLen; omega) (by omega) (hx21.size) ?_
          intro a11 c11 W2 happ
          rw [Nat.zero_add]
          refine hK _ _ (fun _ => True) (.inr (fun _ _ => trivial)) trivial ?_
          clear hK K
          try simp only [Act.put, List.setIfInBounds_toArray, List.set_cons_zero, List.set_cons_succ]
          have own2 := happ.own
          rw [Nat.zero_add, List.nil_append] at own2
          have hx22 : Ext no w5 W2 := Ext.ofBelow (hx21.belowAll.trans (hz1.below happ.ext hx21.size)) (Nat.le_refl _)
          clear happ
          refine wpE_exec 13 rfl (by kernel_rfl) (by rfl) ?_
          intro K hK
          refine op_build (e := 5) rfl #[.int .u8 y0.toNat] (by intro wq; go_simp) ?_
          intro o13 W3 ho3 hy3 ob1 ob2
          refine hK _ _ (fun _ => True) (.inr (fun _ _ => trivial)) trivial ?_
          clear hK K
          try simp only [Act.put, List.setIfInBounds_toArray, List.set_cons_zero, List.set_cons_succ]
          have hx23 := hx22.comp hy3
          have own3 := own2.ext hy3 (fun _ _ h => h)
          refine wpE_exec 14 rfl (by kernel_rfl) (by rfl) ?_
          intro K hK
          refine op_append TBytes rfl rfl own3 rfl ho3 (by simp) (bs_one [y0]) (by unfold maxLen; omega) (by omega) (hx23.size) ?_
          intro a14 c14 W4 happ
          refine hK _ _ (fun _ => True) (.inr (fun _ _ => trivial)) trivial ?_
          clear hK K
          try simp only [Act.put, List.setIfInBounds_toArray, List.set_cons_zero, List.set_cons_succ]
          have hown14 : Own W4 w5.heap.size a14 1 (F.length + 1) c14 (bs (F ++ [y0])) := by have := happ.own; rw [bs_append]; exact this
          have hx24 : Ext no w5 W4 := Ext.ofBelow (hx23.belowAll.trans (own3.below happ.ext hx23.size)) (Nat.le_refl _)
          clear happ
          refine wpE_exec 16 rfl (by kernel_rfl) (by rfl) ?_
          intro K hK
          refine op_build (e := 23) rfl #[.slice ya F.length yc, .slice (some zd) F.length c4, .slice ya j yc, .slice a14 (F.length + 1) c14, .slice ba b.length bc] (by intro wq; go_simp) ?_
          intro o16 W5 ho16 hy16 _ _
          refine hK _ _ (fun _ => True) (.inr (fun _ _ => trivial)) trivial ?_
          clear hK K
          try simp only [Act.put, List.setIfInBounds_toArray, List.set_cons_zero, List.set_cons_succ]
          have hx25 := hx24.comp hy16
          refine wpE_take 17 (v := ?_) rfl (by kernel_rfl) (by kernel_rfl) (by kernel_rfl) (fun _ _ _ h => h) trivial (by rfl) ?_ ?_
          rotate_left
          · (intro wq; go_simp; try with_reducible rfl)
          simp only [Act.put, List.setIfInBounds_toArray, List.set_cons_zero, List.set_cons_succ]
          refine wpE_done (by kernel_rfl) ?_ _
          go_wp2_with fail
          go_meet
          exact five_mk Hset5.out.1 hyd5 hbd5 HzF.out HjF.out hx25 (hown14.ext hy16 (fun _ _ h => h)) ho16 hbl hbcm hync hycm (by omega) (by omega)
        · refine ⟨_, rfl, by rfl, ?_⟩
          intro K hK
          refine op_build (e := 5) rfl #[.int .u8 y0.toNat] (by intro wq; go_simp) ?_
          intro o13 W2 ho2 hy2 ob1 ob2
          refine hK _ _ (fun _ => True) (.inr (fun _ _ => trivial)) trivial ?_
          clear hK K
          try simp only [Act.put, List.setIfInBounds_toArray, List.set_cons_zero, List.set_cons_succ]
          have hx22 := hx21.comp hy2
          have hne : z9.block ≠ o13.block := by have := (hz1.base _ rfl).2.1; omega
          have hz2 := hz1.ext hy2 (fun _ _ h => h)
          refine wpE_exec 11 rfl (by kernel_rfl) (by rfl) ?_
          intro K hK
          refine op_append TBytes rfl rfl hz2 rfl (hyd5.ext hx22 (fun _ _ h => h)) (by simp) (bs_one _) (by unfold maxLen; omega) (by omega) (hx22.size) ?_
          intro a11 c11 W3 happ
          rw [Nat.zero_add]
          refine hK _ _ (fun _ => True) (.inr (fun _ _ => trivial)) trivial ?_
          clear hK K
          try simp only [Act.put, List.setIfInBounds_toArray, List.set_cons_zero, List.set_cons_succ]
          have own3 := happ.own
          rw [Nat.zero_add, List.nil_append] at own3
          have hx23 : Ext no w5 W3 := Ext.ofBelow (hx22.belowAll.trans (hz2.below happ.ext hx22.size)) (Nat.le_refl _)
          have ho3 := ho2.ext happ.ext (fun ad h => by cases h; rintro ⟨_, e, hb⟩; cases e; exact hne hb)
          clear happ
          refine wpE_exec 14 rfl (by kernel_rfl) (by rfl) ?_
          intro K hK
          refine op_append TBytes rfl rfl own3 rfl ho3 (by simp) (bs_one [y0]) (by unfold maxLen; omega) (by omega) (hx23.size) ?_
          intro a14 c14 W4 happ
          refine hK _ _ (fun _ => True) (.inr (fun _ _ => trivial)) trivial ?_
          clear hK K
          try simp only [Act.put, List.setIfInBounds_toArray, List.set_cons_zero, List.set_cons_succ]
          have hown14 : Own W4 w5.heap.size a14 1 (F.length + 1) c14 (bs (F ++ [y0])) := by have := happ.own; rw [bs_append]; exact this
          have hx24 : Ext no w5 W4 := Ext.ofBelow (hx23.belowAll.trans (own3.below happ.ext hx23.size)) (Nat.le_refl _)
          clear happ
          refine wpE_exec 16 rfl (by kernel_rfl) (by rfl) ?_
          intro K hK
          refine op_build (e := 23) rfl #[.slice ya F.length yc, .slice (some zd) F.length c4, .slice ya j yc, .slice a14 (F.length + 1) c14, .slice ba b.length bc] (by intro wq; go_simp) ?_
          intro o16 W5 ho16 hy16 _ _
          refine hK _ _ (fun _ => True) (.inr (fun _ _ => trivial)) trivial ?_
          clear hK K
          try simp only [Act.put, List.setIfInBounds_toArray, List.set_cons_zero, List.set_cons_succ]
          have hx25 := hx24.comp hy16
          refine wpE_take 17 (v := ?_) rfl (by kernel_rfl) (by kernel_rfl) (by kernel_rfl) (fun _ _ _ h => h) trivial (by rfl) ?_ ?_
          rotate_left
          · (intro wq; go_simp; try with_reducible rfl)
          simp only [Act.put, List.setIfInBounds_toArray, List.set_cons_zero, List.set_cons_succ]
          refine wpE_done (by kernel_rfl) ?_ _
          go_wp2_with fail
          go_meet
          exact five_mk Hset5.out.1 hyd5 hbd5 HzF.out HjF.out hx25 (hown14.ext hy16 (fun _ _ h => h)) ho16 hbl hbcm hync hycm (by omega) (by omega)
      · refine ⟨_, rfl, by rfl, ?_⟩
        intro K hK
        refine op_build (e := 5) rfl #[.int .u8 y0.toNat] (by intro wq; go_simp) ?_
        intro o13 W1 ho1 hy1 ob1 ob2
        refine hK _ _ (fun _ => True) (.inr (fun _ _ => trivial)) trivial ?_
        clear hK K
        try simp only [Act.put, List.setIfInBounds_toArray, List.set_cons_zero, List.set_cons_succ]
        have hx21 := hx20.comp hy1
        refine wpE_exec 9 rfl (by kernel_rfl) (by rfl) ?_
        intro K hK
        refine op_build0 (e := 5) rfl rfl w5.heap.size (hx21.size) (by intro wq; go_simp) ?_
        intro z9 W2 hz2 hy2 zb1 zb2
        refine hK _ _ (fun _ => True) (.inr (fun _ _ => trivial)) trivial ?_
        clear hK K
        try simp only [Act.put, List.setIfInBounds_toArray, List.set_cons_zero, List.set_cons_succ]
        have hx22 := hx21.comp hy2
        have hne : z9.block ≠ o13.block := by have := ho1.ne (by simp); obtain ⟨_, e1, e2⟩ := this; cases e1; omega
        have ho2 := ho1.ext hy2 (fun _ _ h => h)
        refine wpE_exec 11 rfl (by kernel_rfl) (by rfl) ?_
        intro K hK
        refine op_append TBytes rfl rfl hz2 rfl (hyd5.ext hx22 (fun _ _ h => h)) (by simp) (bs_one _) (by unfold maxLen; omega) (by omega) (hx22.size) ?_
        intro a11 c11 W3 happ
        rw [Nat.zero_add]
        refine hK _ _ (fun _ => True) (.inr (fun _ _ => trivial)) trivial ?_
        clear hK K
        try simp only [Act.put, List.setIfInBounds_toArray, List.set_cons_zero, List.set_cons_succ]
        have own3 := happ.own
        rw [Nat.zero_add, List.nil_append] at own3
        have hx23 : Ext no w5 W3 := Ext.ofBelow (hx22.belowAll.trans (hz2.below happ.ext hx22.size)) (Nat.le_refl _)
        have ho3 := ho2.ext happ.ext (fun ad h => by cases h; rintro ⟨_, e, hb⟩; cases e; exact hne hb)
        clear happ
        refine wpE_exec 14 rfl (by kernel_rfl) (by rfl) ?_
        intro K hK
        refine op_append TBytes rfl rfl own3 rfl ho3 (by simp) (bs_one [y0]) (by unfold maxLen; omega) (by omega) (hx23.size) ?_
        intro a14 c14 W4 happ
        refine hK _ _ (fun _ => True) (.inr (fun _ _ => trivial)) trivial ?_
        clear hK K
        try simp only [Act.put, List.setIfInBounds_toArray, List.set_cons_zero, List.set_cons_succ]
        have hown14 : Own W4 w5.heap.size a14 1 (F.length + 1) c14 (bs (F ++ [y0])) := by have := happ.own; rw [bs_append]; exact this
        have hx24 : Ext no w5 W4 := Ext.ofBelow (hx23.belowAll.trans (own3.below happ.ext hx23.size)) (Nat.le_refl _)
        clear happ
        refine wpE_exec 16 rfl (by kernel_rfl) (by rfl) ?_
        intro K hK
        refine op_build (e := 23) rfl #[.slice ya F.length yc, .slice (some zd) F.length c4, .slice ya j yc, .slice a14 (F.length + 1) c14, .slice ba b.length bc] (by intro wq; go_simp) ?_
        intro o16 W5 ho16 hy16 _ _
        refine hK _ _ (fun _ => True) (.inr (fun _ _ => trivial)) trivial ?_
        clear hK K
        try simp only [Act.put, List.setIfInBounds_toArray, List.set_cons_zero, List.set_cons_succ]
        have hx25 := hx24.comp hy16
        refine wpE_take 17 (v := ?_) rfl (by kernel_rfl) (by kernel_rfl) (by kernel_rfl) (fun _ _ _ h => h) trivial (by rfl) ?_ ?_
        rotate_left
        · (intro wq; go_simp; try with_reducible rfl)
        simp only [Act.put, List.setIfInBounds_toArray, List.set_cons_zero, List.set_cons_succ]
        refine wpE_done (by kernel_rfl) ?_ _
        go_wp2_with fail
        go_meet
        exact five_mk Hset5.out.1 hyd5 hbd5 HzF.out HjF.out hx25 (hown14.ext hy16 (fun _ _ h => h)) ho16 hbl hbcm hync hycm (by omega) (by omega)
    · refine ⟨_, rfl, by rfl, ?_⟩
      intro K hK
      refine op_build0 (e := 5) rfl rfl w5.heap.size (hx20.size) (by intro wq; go_simp) ?_
      intro z9 W0 hz0 hy0 zb1 zb2
      refine hK _ _ (fun _ => True) (.inr (fun _ _ => trivial)) trivial ?_
      clear hK K
      try simp only [Act.put, List.setIfInBounds_toArray, List.set_cons_zero, List.set_cons_succ]
      have hx20 := hx20.comp hy0
      refine wpE_execs [7, 13] (by kernel_rfl) (by simp) ?_
      intro j hj
      simp only [List.mem_cons, List.not_mem_nil, or_false] at hj
      rcases hj with rfl | rfl
      · refine ⟨_, rfl, by rfl, ?_⟩
        intro K hK
        go_simp
        refine (within_any cut ((F.length : Int) + 1) _ (by omega) (by omega) Hcut.out).mono ?_
        rintro e W1 ⟨rfl, rfl⟩
        rw [Hj.out]
        refine hK _ _ (fun _ => True) (.inr (fun _ _ => trivial)) trivial ?_
        clear hK K
        try simp only [Act.put, List.setIfInBounds_toArray, List.set_cons_zero, List.set_cons_succ]
        refine wpE_take 8 (v := .slice ya j yc) rfl (by kernel_rfl) (by kernel_rfl) (by kernel_rfl) (fun _ _ _ h => h) trivial (by rfl) (by intro wq; exact yields_cut_h TBytes rfl rfl rfl j rfl (by omega)) ?_
        simp only [Act.put, List.setIfInBounds_toArray, List.set_cons_zero, List.set_cons_succ]
        refine wpE_execs [11, 13] (by kernel_rfl) (by simp) ?_
        intro j hj
        simp only [List.mem_cons, List.not_mem_nil, or_false] at hj
        rcases hj with rfl | rfl
        · refine ⟨_, rfl, by rfl, ?_⟩
          intro K hK
          refine op_append TBytes rfl rfl hz0 rfl (hyd5.ext hx20 (fun _ _ h => h)) (by simp) (bs_one _) (by unfold maxLen; omega) (by omega) (hx20.size) ?_
          intro a11 c11 W2 happ
          rw [Nat.zero_add]
          refine hK _ _ (fun _ => True) (.inr (fun _ _ => trivial)) trivial ?_
          clear hK K
          try simp only [Act.put, List.setIfInBounds_toArray, List.set_cons_zero, List.set_cons_succ]
          have own2 := happ.own
          rw [Nat.zero_add, List.nil_append] at own2
          have hx22 : Ext no w5 W2 := Ext.ofBelow (hx20.belowAll.trans (hz0.below happ.ext hx20.size)) (Nat.le_refl _)
          clear happ
          refine wpE_exec 13 rfl (by kernel_rfl) (by rfl) ?_
          intro K hK
          refine op_build (e := 5) rfl #[.int .u8 y0.toNat] (by intro wq; go_simp) ?_
          intro o13 W3 ho3 hy3 ob1 ob2
          refine hK _ _ (fun _ => True) (.inr (fun _ _ => trivial)) trivial ?_
          clear hK K
          try simp only [Act.put, List.setIfInBounds_toArray, List.set_cons_zero, List.set_cons_succ]
          have hx23 := hx22.comp hy3
          have own3 := own2.ext hy3 (fun _ _ h => h)
          refine wpE_exec 14 rfl (by kernel_rfl) (by rfl) ?_
          intro K hK
          refine op_append TBytes rfl rfl own3 rfl ho3 (by simp) (bs_one [y0]) (by unfold maxLen; omega) (by omega) (hx23.size) ?_
          intro a14 c14 W4 happ
          refine hK _ _ (fun _ => True) (.inr (fun _ _ => trivial)) trivial ?_
          clear hK K
          try simp only [Act.put, List.setIfInBounds_toArray, List.set_cons_zero, List.set_cons_succ]
          have hown14 : Own W4 w5.heap.size a14 1 (F.length + 1) c14 (bs (F ++ [y0])) := by have := happ.own; rw [bs_append]; exact this
          have hx24 : Ext no w5 W4 := Ext.ofBelow (hx23.belowAll.trans (own3.below happ.ext hx23.size)) (Nat.le_refl _)
          clear happ
          refine wpE_exec 16 rfl (by kernel_rfl) (by rfl) ?_
          intro K hK
          refine op_build (e := 23) rfl #[.slice ya F.length yc, .slice (some zd) F.length c4, .slice ya j yc, .slice a14 (F.length + 1) c14, .slice ba b.length bc] (by intro wq; go_simp) ?_
          intro o16 W5 ho16 hy16 _ _
          refine hK _ _ (fun _ => True) (.inr (fun _ _ => trivial)) trivial ?_
          clear hK K
          try simp only [Act.put, List.setIfInBounds_toArray, List.set_cons_zero, List.set_cons_succ]
          have hx25 := hx24.comp hy16
          refine wpE_take 17 (v := ?_) rfl (by kernel_rfl) (by kernel_rfl) (by kernel_rfl) (fun _ _ _ h => h) trivial (by rfl) ?_ ?_
          rotate_left
          · (intro wq; go_simp; try with_reducible rfl)
          simp only [Act.put, List.setIfInBounds_toArray, List.set_cons_zero, List.set_cons_succ]
          refine wpE_done (by kernel_rfl) ?_ _
          go_wp2_with fail
          go_meet
          exact five_mk Hset5.out.1 hyd5 hbd5 HzF.out HjF.out hx25 (hown14.ext hy16 (fun _ _ h => h)) ho16 hbl hbcm hync hycm (by omega) (by omega)
        · refine ⟨_, rfl, by rfl, ?_⟩
          intro K hK
          refine op_build (e := 5) rfl #[.int .u8 y0.toNat] (by intro wq; go_simp) ?_
          intro o13 W2 ho2 hy2 ob1 ob2
          refine hK _ _ (fun _ => True) (.inr (fun _ _ => trivial)) trivial ?_
          clear hK K
          try simp only [Act.put, List.setIfInBounds_toArray, List.set_cons_zero, List.set_cons_succ]
          have hx22 := hx20.comp hy2
          have hne : z9.block ≠ o13.block := by have := (hz0.base _ rfl).2.1; omega
          have hz2 := hz0.ext hy2 (fun _ _ h => h)
          refine wpE_exec 11 rfl (by kernel_rfl) (by rfl) ?_
          intro K hK
          refine op_append TBytes rfl rfl hz2 rfl (hyd5.ext hx22 (fun _ _ h => h)) (by simp) (bs_one _) (by unfold maxLen; omega) (by omega) (hx22.size) ?_
          intro a11 c11 W3 happ
          rw [Nat.zero_add]
          refine hK _ _ (fun _ => True) (.inr (fun _ _ => trivial)) trivial ?_
          clear hK K
          try simp only [Act.put, List.setIfInBounds_toArray, List.set_cons_zero, List.set_cons_succ]
          have own3 := happ.own
          rw [Nat.zero_add, List.nil_append] at own3
          have hx23 : Ext no w5 W3 := Ext.ofBelow (hx22.belowAll.trans (hz2.below happ.ext hx22.size)) (Nat.le_refl _)
          have ho3 := ho2.ext happ.ext (fun ad h => by cases h; rintro ⟨_, e, hb⟩; cases e; exact hne hb)
          clear happ
          refine wpE_exec 14 rfl (by kernel_rfl) (by rfl) ?_
          intro K hK
          refine op_append TBytes rfl rfl own3 rfl ho3 (by simp) (bs_one [y0]) (by unfold maxLen; omega) (by omega) (hx23.size) ?_
          intro a14 c14 W4 happ
          refine hK _ _ (fun _ => True) (.inr (fun _ _ => trivial)) trivial ?_
          clear hK K
          try simp only [Act.put, List.setIfInBounds_toArray, List.set_cons_zero, List.set_cons_succ]
          have hown14 : Own W4 w5.heap.size a14 1 (F.length + 1) c14 (bs (F ++ [y0])) := by have := happ.own; rw [bs_append]; exact this
          have hx24 : Ext no w5 W4 := Ext.ofBelow (hx23.belowAll.trans (own3.below happ.ext hx23.size)) (Nat.le_refl _)
          clear happ
          refine wpE_exec 16 rfl (by kernel_rfl) (by rfl) ?_
          intro K hK
          refine op_build (e := 23) rfl #[.slice ya F.length yc, .slice (some zd) F.length c4, .slice ya j yc, .slice a14 (F.length + 1) c14, .slice ba b.length bc] (by intro wq; go_simp) ?_
          intro o16 W5 ho16 hy16 _ _
          refine hK _ _ (fun _ => True) (.inr (fun _ _ => trivial)) trivial ?_
          clear hK K
          try simp only [Act.put, List.setIfInBounds_toArray, List.set_cons_zero, List.set_cons_succ]
          have hx25 := hx24.comp hy16
          refine wpE_take 17 (v := ?_) rfl (by kernel_rfl) (by kernel_rfl) (by kernel_rfl) (fun _ _ _ h => h) trivial (by rfl) ?_ ?_
          rotate_left
          · (intro wq; go_simp; try with_reducible rfl)
          simp only [Act.put, List.setIfInBounds_toArray, List.set_cons_zero, List.set_cons_succ]
          refine wpE_done (by kernel_rfl) ?_ _
          go_wp2_with fail
          go_meet
          exact five_mk Hset5.out.1 hyd5 hbd5 HzF.out HjF.out hx25 (hown14.ext hy16 (fun _ _ h => h)) ho16 hbl hbcm hync hycm (by omega) (by omega)
      · refine ⟨_, rfl, by rfl, ?_⟩
        intro K hK
        refine op_build (e := 5) rfl #[.int .u8 y0.toNat] (by intro wq; go_simp) ?_
        intro o13 W1 ho1 hy1 ob1 ob2
        refine hK _ _ (fun _ => True) (.inr (fun _ _ => trivial)) trivial ?_
        clear hK K
        try simp only [Act.put, List.setIfInBounds_toArray, List.set_cons_zero, List.set_cons_succ]
        have hx21 := hx20.comp hy1
        have hne : z9.block ≠ o13.block := by have := (hz0.base _ rfl).2.1; omega
        have hz1 := hz0.ext hy1 (fun _ _ h => h)
        refine wpE_exec 7 rfl (by kernel_rfl) (by rfl) ?_
        intro K hK
        go_simp
        refine (within_any cut ((F.length : Int) + 1) _ (by omega) (by omega) Hcut.out).mono ?_
        rintro e W2 ⟨rfl, rfl⟩
        rw [Hj.out]
        refine hK _ _ (fun _ => True) (.inr (fun _ _ => trivial)) trivial ?_
        clear hK K
        try simp only [Act.put, List.setIfInBounds_toArray, List.set_cons_zero, List.set_cons_succ]
        refine wpE_take 8 (v := .slice ya j yc) rfl (by kernel_rfl) (by kernel_rfl) (by kernel_rfl) (fun _ _ _ h => h) trivial (by rfl) (by intro wq; exact yields_cut_h TBytes rfl rfl rfl j rfl (by omega)) ?_
        simp only [Act.put, List.setIfInBounds_toArray, List.set_cons_zero, List.set_cons_succ]
        refine wpE_exec 11 rfl (by kernel_rfl) (by rfl) ?_
        intro K hK
        refine op_append TBytes rfl rfl hz1 rfl (hyd5.ext hx21 (fun _ _ h => h)) (by simp) (bs_one _) (by unfold maxLen; omega) (by omega) (hx21.size) ?_
        intro a11 c11 W3 happ
        rw [Nat.zero_add]
        refine hK _ _ (fun _ => True) (.inr (fun _ _ => trivial)) trivial ?_
        clear hK K
        try simp only [Act.put, List.setIfInBounds_toArray, List.set_cons_zero, List.set_cons_succ]
        have own3 := happ.own
        rw [Nat.zero_add, List.nil_append] at own3
        have hx23 : Ext no w5 W3 := Ext.ofBelow (hx21.belowAll.trans (hz1.below happ.ext hx21.size)) (Nat.le_refl _)
        have ho3 := ho1.ext happ.ext (fun ad h => by cases h; rintro ⟨_, e, hb⟩; cases e; exact hne hb)
        clear happ
        refine wpE_exec 14 rfl (by kernel_rfl) (by rfl) ?_
        intro K hK
        refine op_append TBytes rfl rfl own3 rfl ho3 (by simp) (bs_one [y0]) (by unfold maxLen; omega) (by omega) (hx23.size) ?_
        intro a14 c14 W4 happ
        refine hK _ _ (fun _ => True) (.inr (fun _ _ => trivial)) trivial ?_
        clear hK K
        try simp only [Act.put, List.setIfInBounds_toArray, List.set_cons_zero, List.set_cons_succ]
        have hown14 : Own W4 w5.heap.size a14 1 (F.length + 1) c14 (bs (F ++ [y0])) := by have := happ.own; rw [bs_append]; exact this
        have hx24 : Ext no w5 W4 := Ext.ofBelow (hx23.belowAll.trans (own3.below happ.ext hx23.size)) (Nat.le_refl _)
        clear happ
        refine wpE_exec 16 rfl (by kernel_rfl) (by rfl) ?_
        intro K hK
        refine op_build (e := 23) rfl #[.slice ya F.length yc, .slice (some zd) F.length c4, .slice ya j yc, .slice a14 (F.length + 1) c14, .slice ba b.length bc] (by intro wq; go_simp) ?_
        intro o16 W5 ho16 hy16 _ _
        refine hK _ _ (fun _ => True) (.inr (fun _ _ => trivial)) trivial ?_
        clear hK K
        try simp only [Act.put, List.setIfInBounds_toArray, List.set_cons_zero, List.set_cons_succ]
        have hx25 := hx24.comp hy16
        refine wpE_take 17 (v := ?_) rfl (by kernel_rfl) (by kernel_rfl) (by kernel_rfl) (fun _ _ _ h => h) trivial (by rfl) ?_ ?_
        rotate_left
        · (intro wq; go_simp; try with_reducible rfl)
        simp only [Act.put, List.setIfInBounds_toArray, List.set_cons_zero, List.set_cons_succ]
        refine wpE_done (by kernel_rfl) ?_ _
        go_wp2_with fail
        go_meet
        exact five_mk Hset5.out.1 hyd5 hbd5 HzF.out HjF.out hx25 (hown14.ext hy16 (fun _ _ h => h)) ho16 hbl hbcm hync hycm (by omega) (by omega)
    · refine ⟨_, rfl, by rfl, ?_⟩
      intro K hK
      refine op_build (e := 5) rfl #[.int .u8 y0.toNat] (by intro wq; go_simp) ?_
      intro o13 W0 ho0 hy0 ob1 ob2
      refine hK _ _ (fun _ => True) (.inr (fun _ _ => trivial)) trivial ?_
      clear hK K
      try simp only [Act.put, List.setIfInBounds_toArray, List.set_cons_zero, List.set_cons_succ]
      have hx20 := hx20.comp hy0
      refine wpE_execs [7, 9] (by kernel_rfl) (by simp) ?_
      intro j hj
      simp only [List.mem_cons, List.not_mem_nil, or_false] at hj
      rcases hj with rfl | rfl
      · refine ⟨_, rfl, by rfl, ?_⟩
        intro K hK
        go_simp
        refine (within_any cut ((F.length : Int) + 1) _ (by omega) (by omega) Hcut.out).mono ?_
        rintro e W1 ⟨rfl, rfl⟩
        rw [Hj.out]
        refine hK _ _ (fun _ => True) (.inr (fun _ _ => trivial)) trivial ?_
        clear hK K
        try simp only [Act.put, List.setIfInBounds_toArray, List.set_cons_zero, List.set_cons_succ]
        refine wpE_take 8 (v := .slice ya j yc) rfl (by kernel_rfl) (by kernel_rfl) (by kernel_rfl) (fun _ _ _ h => h) trivial (by rfl) (by intro wq; exact yields_cut_h TBytes rfl rfl rfl j rfl (by omega)) ?_
        simp only [Act.put, List.setIfInBounds_toArray, List.set_cons_zero, List.set_cons_succ]
        refine wpE_exec 9 rfl (by kernel_rfl) (by rfl) ?_
        intro K hK
        refine op_build0 (e := 5) rfl rfl w5.heap.size (hx20.size) (by intro wq; go_simp) ?_
        intro z9 W2 hz2 hy2 zb1 zb2
        refine hK _ _ (fun _ => True) (.inr (fun _ _ => trivial)) trivial ?_
        clear hK K
        try simp only [Act.put, List.setIfInBounds_toArray, List.set_cons_zero, List.set_cons_succ]
        have hx22 := hx20.comp hy2
        have hne : z9.block ≠ o13.block := by have := ho0.ne (by simp); obtain ⟨_, e1, e2⟩ := this; cases e1; omega
        have ho2 := ho0.ext hy2 (fun _ _ h => h)
        refine wpE_exec 11 rfl (by kernel_rfl) (by rfl) ?_
        intro K hK
        refine op_append TBytes rfl rfl hz2 rfl (hyd5.ext hx22 (fun _ _ h => h)) (by simp) (bs_one _) (by unfold maxLen; omega) (by omega) (hx22.size) ?_
        intro a11 c11 W3 happ
        rw [Nat.zero_add]
        refine hK _ _ (fun _ => True) (.inr (fun _ _ => trivial)) trivial ?_
        clear hK K
        try simp only [Act.put, List.setIfInBounds_toArray, List.set_cons_zero, List.set_cons_succ]
        have own3 := happ.own
        rw [Nat.zero_add, List.nil_append] at own3
        have hx23 : Ext no w5 W3 := Ext.ofBelow (hx22.belowAll.trans (hz2.below happ.ext hx22.size)) (Nat.le_refl _)
        have ho3 := ho2.ext happ.ext (fun ad h => by cases h; rintro ⟨_, e, hb⟩; cases e; exact hne hb)
        clear happ
        refine wpE_exec 14 rfl (by kernel_rfl) (by rfl) ?_
        intro K hK
        refine op_append TBytes rfl rfl own3 rfl ho3 (by simp) (bs_one [y0]) (by unfold maxLen; omega) (by omega) (hx23.size) ?_
        intro a14 c14 W4 happ
        refine hK _ _ (fun _ => True) (.inr (fun _ _ => trivial)) trivial ?_
        clear hK K
        try simp only [Act.put, List.setIfInBounds_toArray, List.set_cons_zero, List.set_cons_succ]
        have hown14 : Own W4 w5.heap.size a14 1 (F.length + 1) c14 (bs (F ++ [y0])) := by have := happ.own; rw [bs_append]; exact this
        have hx24 : Ext no w5 W4 := Ext.ofBelow (hx23.belowAll.trans (own3.below happ.ext hx23.size)) (Nat.le_refl _)
        clear happ
        refine wpE_exec 16 rfl (by kernel_rfl) (by rfl) ?_
        intro K hK
        refine op_build (e := 23) rfl #[.slice ya F.length yc, .slice (some zd) F.length c4, .slice ya j yc, .slice a14 (F.length + 1) c14, .slice ba b.length bc] (by intro wq; go_simp) ?_
        intro o16 W5 ho16 hy16 _ _
        refine hK _ _ (fun _ => True) (.inr (fun _ _ => trivial)) trivial ?_
        clear hK K
        try simp only [Act.put, List.setIfInBounds_toArray, List.set_cons_zero, List.set_cons_succ]
        have hx25 := hx24.comp hy16
        refine wpE_take 17 (v := ?_) rfl (by kernel_rfl) (by kernel_rfl) (by kernel_rfl) (fun _ _ _ h => h) trivial (by rfl) ?_ ?_
        rotate_left
        · (intro wq; go_simp; try with_reducible rfl)
        simp only [Act.put, List.setIfInBounds_toArray, List.set_cons_zero, List.set_cons_succ]
        refine wpE_done (by kernel_rfl) ?_ _
        go_wp2_with fail
        go_meet
        exact five_mk Hset5.out.1 hyd5 hbd5 HzF.out HjF.out hx25 (hown14.ext hy16 (fun _ _ h => h)) ho16 hbl hbcm hync hycm (by omega) (by omega)
      · refine ⟨_, rfl, by rfl, ?_⟩
        intro K hK
        refine op_build0 (e := 5) rfl rfl w5.heap.size (hx20.size) (by intro wq; go_simp) ?_
        intro z9 W1 hz1 hy1 zb1 zb2
        refine hK _ _ (fun _ => True) (.inr (fun _ _ => trivial)) trivial ?_
        clear hK K
        try simp only [Act.put, List.setIfInBounds_toArray, List.set_cons_zero, List.set_cons_succ]
        have hx21 := hx20.comp hy1
        have hne : z9.block ≠ o13.block := by have := ho0.ne (by simp); obtain ⟨_, e1, e2⟩ := this; cases e1; omega
        have ho1 := ho0.ext hy1 (fun _ _ h => h)
        refine wpE_exec 7 rfl (by kernel_rfl) (by rfl) ?_
        intro K hK
        go_simp
        refine (within_any cut ((F.length : Int) + 1) _ (by omega) (by omega) Hcut.out).mono ?_
        rintro e W2 ⟨rfl, rfl⟩
        rw [Hj.out]
        refine hK _ _ (fun _ => True) (.inr (fun _ _ => trivial)) trivial ?_
        clear hK K
        try simp only [Act.put, List.setIfInBounds_toArray, List.set_cons_zero, List.set_cons_succ]
        refine wpE_take 8 (v := .slice ya j yc) rfl (by kernel_rfl) (by kernel_rfl) (by kernel_rfl) (fun _ _ _ h => h) trivial (by rfl) (by intro wq; exact yields_cut_h TBytes rfl rfl rfl j rfl (by omega)) ?_
        simp only [Act.put, List.setIfInBounds_toArray, List.set_cons_zero, List.set_cons_succ]
        refine wpE_exec 11 rfl (by kernel_rfl) (by rfl) ?_
        intro K hK
        refine op_append TBytes rfl rfl hz1 rfl (hyd5.ext hx21 (fun _ _ h => h)) (by simp) (bs_one _) (by unfold maxLen; omega) (by omega) (hx21.size) ?_
        intro a11 c11 W3 happ
        rw [Nat.zero_add]
        refine hK _ _ (fun _ => True) (.inr (fun _ _ => trivial)) trivial ?_
        clear hK K
        try simp only [Act.put, List.setIfInBounds_toArray, List.set_cons_zero, List.set_cons_succ]
        have own3 := happ.own
        rw [Nat.zero_add, List.nil_append] at own3
        have hx23 : Ext no w5 W3 := Ext.ofBelow (hx21.belowAll.trans (hz1.below happ.ext hx21.size)) (Nat.le_refl _)
        have ho3 := ho1.ext happ.ext (fun ad h => by cases h; rintro ⟨_, e, hb⟩; cases e; exact hne hb)
        clear happ
        refine wpE_exec 14 rfl (by kernel_rfl) (by rfl) ?_
        intro K hK
        refine op_append TBytes rfl rfl own3 rfl ho3 (by simp) (bs_one [y0]) (by unfold maxLen; omega) (by omega) (hx23.size) ?_
        intro a14 c14 W4 happ
        refine hK _ _ (fun _ => True) (.inr (fun _ _ => trivial)) trivial ?_
        clear hK K
        try simp only [Act.put, List.setIfInBounds_toArray, List.set_cons_zero, List.set_cons_succ]
        have hown14 : Own W4 w5.heap.size a14 1 (F.length + 1) c14 (bs (F ++ [y0])) := by have := happ.own; rw [bs_append]; exact this
        have hx24 : Ext no w5 W4 := Ext.ofBelow (hx23.belowAll.trans (own3.below happ.ext hx23.size)) (Nat.le_refl _)
        clear happ
        refine wpE_exec 16 rfl (by kernel_rfl) (by rfl) ?_
        intro K hK
        refine op_build (e := 23) rfl #[.slice ya F.length yc, .slice (some zd) F.length c4, .slice ya j yc, .slice a14 (F.length + 1) c14, .slice ba b.length bc] (by intro wq; go_simp) ?_
        intro o16 W5 ho16 hy16 _ _
        refine hK _ _ (fun _ => True) (.inr (fun _ _ => trivial)) trivial ?_
        clear hK K
        try simp only [Act.put, List.setIfInBounds_toArray, List.set_cons_zero, List.set_cons_succ]
        have hx25 := hx24.comp hy16
        refine wpE_take 17 (v := ?_) rfl (by kernel_rfl) (by kernel_rfl) (by kernel_rfl) (fun _ _ _ h => h) trivial (by rfl) ?_ ?_
        rotate_left
        · (intro wq; go_simp; try with_reducible rfl)
        simp only [Act.put, List.setIfInBounds_toArray, List.set_cons_zero, List.set_cons_succ]
        refine wpE_done (by kernel_rfl) ?_ _
        go_wp2_with fail
        go_meet
        exact five_mk Hset5.out.1 hyd5 hbd5 HzF.out HjF.out hx25 (hown14.ext hy16 (fun _ _ h => h)) ho16 hbl hbcm hync hycm (by omega) (by omega)
    -->A
  case rest =>
    obtain ⟨sad, qs, rfl, hql, hqd, hq, hx6⟩ := hcut
    have Hq := Lib.hid hq
    have Hql := Lib.hid hql
    clear hq hql hyd5 hbd5
    go_wp2_with fail
    go_loopw [15] (fun s15 wr => ∃ j : Nat, j ≤ 5 ∧ s15 = .int .i64 j ∧ Ext no wc wr) (fun s15 _ => 5 - (intOf s15).toNat)
    case atStart => exact ⟨0, by omega, rfl, Ext.refl _ _⟩
    case round =>
      obtain ⟨j, hj, rfl, hxr⟩ := hrel
      by_cases hlt : j < 5
      · have hjq : j < qs.length := by rw [Hql.out]; exact hlt
        have hcell := hxr.keeps (hqd.cell j (by simpa using hjq)) (fun h => h)
        rw [List.getElem_map, Part.v] at hcell
        obtain ⟨q1, q2, q3, q4⟩ := Hq.out qs[j] (by simp)
        have hq1 := q1.ext hxr (fun _ _ h => h)
        clear q1
        generalize qs[j] = q at *
        go_wp2_with fail
        refine (fone_any wr q.a q.c q.l hq1 (by omega) q3).mono ?_
        rintro e w6 ⟨b6, d6, rfl, hL6, hx6'⟩
        have hcell6 := hx6'.keeps hcell (fun h => h)
        go_wp2_with fail
        refine (rone_any w6 q.a q.c q.l (hq1.ext hx6' (fun _ _ h => h)) (by omega) q3).mono ?_
        rintro e w7 ⟨b7, d7, rfl, hL7, _, hx7⟩
        have c6 : (convert 23 9 (.slice b6 (one q.l).1.length d6)).run Try.prog w7 = .ok (.string (str (one q.l).1)) w7 := convStr _ _ _ _ _ rfl (hL6.ext hx7 (fun _ _ h => h))
        have c7 : (convert 23 9 (.slice b7 (one q.l).1.length d7)).run Try.prog w7 = .ok (.string (str (one q.l).1)) w7 := convStr _ _ _ _ _ rfl hL7
        have hxe := (hxr.comp hx6').comp hx7
        clear hxr hx6' hx7 hcell hcell6
        go_wp2_with fail
        go_roundw
        case rel => exact ⟨j + 1, by omega, by go_num, hxe⟩
        case measure => simp [intOf]; omega
      · go_wp2_with fail
        go_ret
        exact ⟨rfl, (hx05.comp hx6).comp hxr⟩
end Go.Proofs.Ytfihjjbonahahaa
