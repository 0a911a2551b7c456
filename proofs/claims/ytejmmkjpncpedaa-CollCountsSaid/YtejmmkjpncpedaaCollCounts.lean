/- The walk of CollCounts. -/
import Derived.Test.YtejmmkjpncpedaaCoL
namespace Go.Proofs.Ytejmmkjpncpedaa
open Go.RowKit Go.Esc
set_option linter.unusedVariables false
set_option linter.unusedSimpArgs false

theorem tdiv2_ok (n : Int) (h : I64ok n) : I64ok (n.tdiv 2) := by
  unfold I64ok at *
  have h1 := @Int.tdiv_eq_ediv n 2
  have h2 : Int.sign 2 = 1 := rfl
  rw [h2] at h1
  split at h1 <;> omega

set_option maxRecDepth 100000 in
set_option maxHeartbeats 8000000 in
theorem ccounts_walk (w : World) (a : Option Addr) (ns : List Int) (c : Nat) (hr : Rd w a (is ns)) (hok : ∀ n ∈ ns, I64ok n) (hlc : ns.length ≤ c) (hcm : c ≤ maxLen) :
    Calls Try.prog 3 #[.slice a ns.length c] w fun e w' => e = .returned (.bool true) ∧ Ext no w w' := by
  unfold maxLen at hcm
  go_enter Try.func3, Try.ntmps3
  go_wp2_with fail
  refine (known_any w).mono ?_
  rintro e w0 ⟨rfl, hx0⟩
  go_upto_region 5 with fail
  have hC0_ := Blk.at w0 #[.slice none 0 0, .slice none 0 0, .slice none 0 0, .slice none 0 0, .slice none 0 0, .slice none 0 0] 31 w0.heap.size rfl
  have hxa := Ext.alloc no w0 (.cells #[.slice none 0 0, .slice none 0 0, .slice none 0 0, .slice none 0 0, .slice none 0 0, .slice none 0 0] 31)
  have hS0 := Blk.at (w0.alloc (.cells #[.slice none 0 0, .slice none 0 0, .slice none 0 0, .slice none 0 0, .slice none 0 0, .slice none 0 0] 31)) #[.int .i64 0, .int .i64 0] 32 (w0.heap.size + 1) (by simp)
  have hxb := Ext.alloc no (w0.alloc (.cells #[.slice none 0 0, .slice none 0 0, .slice none 0 0, .slice none 0 0, .slice none 0 0, .slice none 0 0] 31)) (.cells #[.int .i64 0, .int .i64 0] 32)
  have hC0 := hC0_.ext (by simp) hxb (fun h => h)
  have hx1 := (hx0.comp hxa).comp hxb
  have hz0 := hx0.size
  clear hC0_ hxa hxb hx0
  generalize (w0.alloc (.cells #[.slice none 0 0, .slice none 0 0, .slice none 0 0, .slice none 0 0, .slice none 0 0, .slice none 0 0] 31)).alloc (.cells #[.int .i64 0, .int .i64 0] 32) = w1 at *
  have hz1 := hS0.lt (by simp)
  obtain ⟨g, hg⟩ : ∃ g, g = w0.heap.size := ⟨_, rfl⟩
  rw [← hg] at hC0 hS0 hz1 hz0 ⊢
  clear hg w0
  obtain ⟨B, hB⟩ : ∃ B, B = g + 1 + 1 := ⟨_, rfl⟩
  go_wp2_with fail
  go_loopw [5] (fun s5 wr => ∃ (i : Nat) (C : CollR) (k : Six) (s0 s1 : Int), s5 = .int .i64 i ∧ i ≤ 30 ∧ i ≤ ns.length ∧ Counts i C s0 s1 ∧ Mine C wr B k ∧ Blk wr g [.slice k.v C.v.length k.vc, .slice k.r C.regs.length k.rc, .slice k.e C.elems.length k.ec, .slice k.g C.gone.length k.gc, .slice k.s C.sums.length k.sc, .slice k.b C.binds.length k.bc] ∧ Blk wr (g + 1) [.int .i64 s0, .int .i64 s1] ∧ Ext no w wr ∧ B ≤ wr.heap.size) (fun s5 _ => 30 - (intOf s5).toNat)
  case atStart => exact ⟨0, CollR.nil, six0, 0, 0, rfl, by omega, by omega, counts_nil, nil_mine _ _, hC0, hS0, hx1, by omega⟩
  case round =>
    obtain ⟨i, C, k, s0, s1, rfl, hi30, hil, hcn, hm, hC, hS, hx, hz⟩ := hrel
    by_cases hin : i < ns.length ∧ i < 30
    · have d1 : decide (i < ns.length) = true := decT hin.1
      have d2 : decide ((i : Int) < 30) = true := decT (by omega)
      obtain ⟨q, hq⟩ : ∃ q, ns[i]? = some q := ⟨_, List.getElem?_eq_getElem hin.1⟩
      have hqok := hok q (List.mem_of_getElem? hq)
      have hq2 := tdiv2_ok q hqok
      obtain ⟨ad, rfl, _⟩ := hr.ne (by simp; omega)
      have hkc : wr.cell? (ad.add i) = some (.int .i64 q) := hx.keeps (hr.get (j := i) (v := .int .i64 q) (by simp [is, I64, hq])) (fun h => h)
      have hi1 := hin.1
      have hi2 := hin.2
      clear hin hq
      have w2q : Go.IntKind.i64.wrap (q.tdiv 2) = q.tdiv 2 := by unfold I64ok at hq2; rw [IntKind.wrap_i64]; omega
      go_upto_region 8 with fail
      refine wp_region_F [3, 8] (looks [(3, fun z => Ext no wr z), (8, fun z => Ext no wr z)]) (by kernel_rfl) ?_
      have hT0 : ∀ k, looks [(3, fun z => Ext no wr z), (8, fun z => Ext no wr z)] k (wr.drew) := looks_all ⟨Ext.drew no wr, Ext.drew no wr, trivial⟩
      refine wpF_take 0 (v := ?_) rfl (by kernel_rfl) (by kernel_rfl) (by kernel_rfl) (fun _ _ _ h => h) hT0 (by rfl) ?_ ?_
      rotate_left
      · (intro wq; go_simp; try with_reducible rfl)
      simp only [Act.put, List.setIfInBounds_toArray, List.set_cons_zero, List.set_cons_succ]
      refine wpF_take 1 (v := ?_) rfl (by kernel_rfl) (by kernel_rfl) (by kernel_rfl) (fun _ _ _ h => h) hT0 (by rfl) ?_ ?_
      rotate_left
      · (intro wq; go_simp; try with_reducible rfl)
      simp only [Act.put, List.setIfInBounds_toArray, List.set_cons_zero, List.set_cons_succ]
      refine wpF_take 2 (v := .pointer (some (ad.add i))) rfl (by kernel_rfl) (by kernel_rfl) (by kernel_rfl) (fun _ _ _ h => h) hT0 (by rfl) (by intro wq; go_simp) ?_
      simp only [Act.put, List.setIfInBounds_toArray, List.set_cons_zero, List.set_cons_succ]
      refine wpF_look 3 (v := .int .i64 q) rfl rfl (by kernel_rfl) (by kernel_rfl) (by kernel_rfl) (by kernel_rfl) (fun _ _ _ h => h) hT0 (by rfl) (fun w hS => by have hS : Ext no wr w := hS; have q0 := hS.keeps hkc (fun h => h); go_simp) ?_
      simp only [Act.put, List.setIfInBounds_toArray, List.set_cons_zero, List.set_cons_succ]
      refine wpF_call 4 (v := .int .i64 (q % 2)) 6 #[.int .i64 q, .int .i64 2] rfl (by kernel_rfl) (by kernel_rfl) (by kernel_rfl) (fun _ _ _ h => h) hT0 (by rfl) (by intro wq; go_simp; try with_reducible rfl) (fun wz => cowithin_any q 2 wz (by omega) (by omega) hqok) ?_
      simp only [Act.put, List.setIfInBounds_toArray, List.set_cons_zero, List.set_cons_succ]
      refine wpF_take 5 (v := ?_) rfl (by kernel_rfl) (by kernel_rfl) (by kernel_rfl) (fun _ _ _ h => h) hT0 (by rfl) ?_ ?_
      rotate_left
      · (intro wq; go_simp; try with_reducible rfl)
      simp only [Act.put, List.setIfInBounds_toArray, List.set_cons_zero, List.set_cons_succ]
      refine wpF_take 6 (v := ?_) rfl (by kernel_rfl) (by kernel_rfl) (by kernel_rfl) (fun _ _ _ h => h) hT0 (by rfl) ?_ ?_
      rotate_left
      · (intro wq; go_simp; try with_reducible rfl)
      simp only [Act.put, List.setIfInBounds_toArray, List.set_cons_zero, List.set_cons_succ]
      refine wpF_take 7 (v := .pointer (some (ad.add i))) rfl (by kernel_rfl) (by kernel_rfl) (by kernel_rfl) (fun _ _ _ h => h) hT0 (by rfl) (by intro wq; go_simp) ?_
      simp only [Act.put, List.setIfInBounds_toArray, List.set_cons_zero, List.set_cons_succ]
      refine wpF_look 8 (v := .int .i64 q) rfl rfl (by kernel_rfl) (by kernel_rfl) (by kernel_rfl) (by kernel_rfl) (fun _ _ _ h => h) hT0 (by rfl) (fun w hS => by have hS : Ext no wr w := hS; have q0 := hS.keeps hkc (fun h => h); go_simp) ?_
      simp only [Act.put, List.setIfInBounds_toArray, List.set_cons_zero, List.set_cons_succ]
      refine wpF_take 9 (v := .int .i64 (q.tdiv 2)) rfl (by kernel_rfl) (by kernel_rfl) (by kernel_rfl) (fun _ _ _ h => h) hT0 (by rfl) (by intro wq; go_simp; first | done | rfl | (rw [w2q])) ?_
      simp only [Act.put, List.setIfInBounds_toArray, List.set_cons_zero, List.set_cons_succ]
      refine wpF_call 10 (v := .int .i64 (q.tdiv 2 % 15)) 6 #[.int .i64 (q.tdiv 2), .int .i64 15] rfl (by kernel_rfl) (by kernel_rfl) (by kernel_rfl) (fun _ _ _ h => h) hT0 (by rfl) (by intro wq; go_simp; try with_reducible rfl) (fun wz => cowithin_any (q.tdiv 2) 15 wz (by omega) (by omega) hq2) ?_
      simp only [Act.put, List.setIfInBounds_toArray, List.set_cons_zero, List.set_cons_succ]
      refine wpF_take 11 (v := .int .i64 (q.tdiv 2 % 15 - 7)) rfl (by kernel_rfl) (by kernel_rfl) (by kernel_rfl) (fun _ _ _ h => h) hT0 (by rfl) (by intro wq; go_simp; first | done | (rw [IntKind.wrap_i64]; omega)) ?_
      simp only [Act.put, List.setIfInBounds_toArray, List.set_cons_zero, List.set_cons_succ]
      refine wpF_take 12 (v := ?_) rfl (by kernel_rfl) (by kernel_rfl) (by kernel_rfl) (fun _ _ _ h => h) hT0 (by rfl) ?_ ?_
      rotate_left
      · (intro wq; go_simp; try with_reducible rfl)
      simp only [Act.put, List.setIfInBounds_toArray, List.set_cons_zero, List.set_cons_succ]
      refine wpF_take 13 (v := ?_) rfl (by kernel_rfl) (by kernel_rfl) (by kernel_rfl) (fun _ _ _ h => h) hT0 (by rfl) ?_ ?_
      rotate_left
      · (intro wq; go_simp; try with_reducible rfl)
      simp only [Act.put, List.setIfInBounds_toArray, List.set_cons_zero, List.set_cons_succ]
      refine wpF_done (by kernel_rfl) ?_ _
      have hxd := Ext.drew no wr
      have hmd := hm.no hxd
      have hCd := hC.ext (by simp) hxd (fun h => h)
      have hSd := hS.ext (by simp) hxd (fun h => h)
      have hx2 := hx.comp hxd
      have hz2 := hxd.size
      clear hm hC hS hx hxd hkc
      generalize wr.drew = w2 at *
      obtain ⟨kk, hkk⟩ : ∃ kk : Nat, q % 2 = kk := ⟨(q % 2).toNat, by omega⟩
      have hk2 : kk < 2 := by omega
      rw [hkk]
      generalize hm : q.tdiv 2 % 15 - 7 = m at *
      have hm7 : -7 ≤ m ∧ m ≤ 7 := by omega
      clear hm hkk w2q hq2 hqok
      obtain ⟨n, hn⟩ : ∃ n, n = if m = 0 then 7 else m := ⟨_, rfl⟩
      have hn7 : n ≠ 0 ∧ -7 ≤ n ∧ n ≤ 7 := by rw [hn]; split <;> omega
      have Hn := Lib.hid hn
      clear hn
      go_upto_if 36 with fail
      go_cut [7] (fun s7 wx => s7 = .int .i64 n ∧ wx = w2)
      case first =>
        by_cases h0 : m = 0
        · have t0 : (m == 0) = true := by rw [beq_iff_eq]; exact h0
          have Hn' := Lib.hid (show n = 7 by rw [Hn.out, if_pos h0])
          clear h0 Hn
          go_wp2_with fail
          go_meet
          exact ⟨by rw [Hn'.out], rfl⟩
        · have t0 : (m == 0) = false := by rw [beq_eq_false_iff_ne]; exact h0
          have Hn' := Lib.hid (show n = m by rw [Hn.out, if_neg h0])
          clear h0 Hn
          go_wp2_with fail
          go_meet
          exact ⟨by rw [Hn'.out], rfl⟩
      case rest =>
        obtain ⟨rfl, rfl⟩ := hcut
        obtain ⟨dd, hdd⟩ : ∃ dd : Int, dd = (i % 6 : Nat) := ⟨_, rfl⟩
        obtain ⟨sq, hsq⟩ : ∃ sq : Int, sq = (i / 6 : Nat) := ⟨_, rfl⟩
        obtain ⟨key, hkey⟩ : ∃ key : List UInt8, key = if kk = 0 then [112] else [113] := ⟨_, rfl⟩
        have hstep := hcn.step (by omega) kk hk2 n hn7.1 hn7.2.1 hn7.2.2 dd (1 + sq) hdd (by rw [hsq])
        rw [← hkey] at hstep
        obtain ⟨herr, hcn2⟩ := hstep
        have htm : (i : Int).tmod 6 = dd := by rw [hdd, Int.tmod_eq_emod_of_nonneg (by omega)]; omega
        have htd : (i : Int).tdiv 6 = sq := by rw [hsq, Int.tdiv_eq_ediv_of_nonneg (by omega)]; omega
        have hsq2 : 0 ≤ sq ∧ sq ≤ 5 := by omega
        have Hkl := Lib.hid (show ([.string { data := #[112] }, .string { data := #[113] }] : List Value)[kk]? = some (.string (str key)) by rw [hkey]; rcases (show kk = 0 ∨ kk = 1 by omega) with rfl | rfl <;> rfl)
        have hkl : key.length ≤ maxLen := by rw [hkey]; split <;> decide
        have Herr := Lib.hid herr
        have Hcn := Lib.hid hcn2
        obtain ⟨C2, hC2⟩ : ∃ C2, C2 = applyC C (countOp dd 1 (1 + sq) key n) := ⟨_, rfl⟩
        rw [← hC2] at hcn2
        have HC2 := Lib.hid hC2.symm
        clear herr hkey hC2 hdd hsq Hcn
        have hsm := hcn.sm.mono (show 8 * i ≤ 1099511627000 by omega)
        have c0 := hCd.cell 0 _ rfl
        have c1 := hCd.cell 1 _ rfl
        have c2 := hCd.cell 2 _ rfl
        have c3 := hCd.cell 3 _ rfl
        have c4 := hCd.cell 4 _ rfl
        have c5 := hCd.cell 5 _ rfl
        go_upto_region 11 with fail
        go_cut [8, 9] (fun s8 s9 wx => ∃ (xb : Nat) (k2 : Six), s8 = .pointer (some ⟨xb, 0, none⟩) ∧ s9 = .int .i64 0 ∧ Mine C2 wx B k2 ∧ Blk wx xb [.slice k2.v C2.v.length k2.vc, .slice k2.r C2.regs.length k2.rc, .slice k2.e C2.elems.length k2.ec, .slice k2.g C2.gone.length k2.gc, .slice k2.s C2.sums.length k2.sc, .slice k2.b C2.binds.length k2.bc] ∧ Ext no wc wx)
        case first =>
          refine wp_region_F [0, 10] (looks [(0, fun z => Ext no wc z), (10, fun z => True)]) (by kernel_rfl) ?_
          have hxd0 := Ext.drew no wc
          generalize wc.drew = wd at *
          have hT0 : ∀ k, looks [(0, fun z => Ext no wc z), (10, fun z => True)] k (wd) := looks_all ⟨hxd0, trivial, trivial⟩
          refine wpF_look 0 (v := .agg #[.slice k.v C.v.length k.vc, .slice k.r C.regs.length k.rc, .slice k.e C.elems.length k.ec, .slice k.g C.gone.length k.gc, .slice k.s C.sums.length k.sc, .slice k.b C.binds.length k.bc]) rfl rfl (by kernel_rfl) (by kernel_rfl) (by kernel_rfl) (by kernel_rfl) (fun _ _ _ h => h) hT0 (by rfl) (fun w hS => by have hS : Ext no wc w := hS; have q0 := hS.keeps c0 (fun h => h); have q1 := hS.keeps c1 (fun h => h); have q2 := hS.keeps c2 (fun h => h); have q3 := hS.keeps c3 (fun h => h); have q4 := hS.keeps c4 (fun h => h); have q5 := hS.keeps c5 (fun h => h); go_simp) ?_
          simp only [Act.put, List.setIfInBounds_toArray, List.set_cons_zero, List.set_cons_succ]
          refine wpF_take 1 (v := ?_) rfl (by kernel_rfl) (by kernel_rfl) (by kernel_rfl) (fun _ _ _ h => h) hT0 (by rfl) ?_ ?_
          rotate_left
          · (intro wq; go_simp; try with_reducible rfl)
          simp only [Act.put, List.setIfInBounds_toArray, List.set_cons_zero, List.set_cons_succ]
          refine wpF_take 2 (v := .int .i64 dd) rfl (by kernel_rfl) (by kernel_rfl) (by kernel_rfl) (fun _ _ _ h => h) hT0 (by rfl) (by intro wq; go_simp; first | done | rfl | rw [htm]) ?_
          simp only [Act.put, List.setIfInBounds_toArray, List.set_cons_zero, List.set_cons_succ]
          refine wpF_take 3 (v := ?_) rfl (by kernel_rfl) (by kernel_rfl) (by kernel_rfl) (fun _ _ _ h => h) hT0 (by rfl) ?_ ?_
          rotate_left
          · (intro wq; go_simp; try with_reducible rfl)
          simp only [Act.put, List.setIfInBounds_toArray, List.set_cons_zero, List.set_cons_succ]
          refine wpF_take 4 (v := .int .i64 sq) rfl (by kernel_rfl) (by kernel_rfl) (by kernel_rfl) (fun _ _ _ h => h) hT0 (by rfl) (by intro wq; go_simp; first | done | rfl | rw [htd] | (rw [IntKind.wrap_i64]; omega)) ?_
          simp only [Act.put, List.setIfInBounds_toArray, List.set_cons_zero, List.set_cons_succ]
          refine wpF_take 5 (v := .int .i64 (1 + sq)) rfl (by kernel_rfl) (by kernel_rfl) (by kernel_rfl) (fun _ _ _ h => h) hT0 (by rfl) (by intro wq; go_simp; first | done | (rw [IntKind.wrap_i64]; omega)) ?_
          simp only [Act.put, List.setIfInBounds_toArray, List.set_cons_zero, List.set_cons_succ]
          refine wpF_take 6 (v := ?_) rfl (by kernel_rfl) (by kernel_rfl) (by kernel_rfl) (fun _ _ _ h => h) hT0 (by rfl) ?_ ?_
          rotate_left
          · (intro wq; go_simp; try with_reducible rfl)
          simp only [Act.put, List.setIfInBounds_toArray, List.set_cons_zero, List.set_cons_succ]
          refine wpF_take 8 (v := ?_) rfl (by kernel_rfl) (by kernel_rfl) (by kernel_rfl) (fun _ _ _ h => h) hT0 (by rfl) ?_ ?_
          rotate_left
          · (intro wq; go_simp; try with_reducible rfl)
          simp only [Act.put, List.setIfInBounds_toArray, List.set_cons_zero, List.set_cons_succ]
          refine wpF_take 11 (v := ?_) rfl (by kernel_rfl) (by kernel_rfl) (by kernel_rfl) (fun _ _ _ h => h) hT0 (by rfl) ?_ ?_
          rotate_left
          · (intro wq; go_simp; try with_reducible rfl)
          simp only [Act.put, List.setIfInBounds_toArray, List.set_cons_zero, List.set_cons_succ]
          refine wpF_execs [7, 17] (by kernel_rfl) (by simp) ?_
          intro j hj
          simp only [List.mem_cons, List.not_mem_nil, or_false] at hj
          rcases hj with rfl | rfl
          · refine ⟨_, rfl, by rfl, ?_⟩
            intro K hK
            go_simp
            have hK0 := Blk.at (wd) #[.string { data := #[112] }, .string { data := #[113] }] 9 (wd.heap.size) rfl
            have hxK := Ext.alloc no (wd) (.cells #[.string { data := #[112] }, .string { data := #[113] }] 9)
            obtain ⟨sb, hsbe⟩ : ∃ sb, sb = wd.heap.size := ⟨_, rfl⟩
            rw [← hsbe] at hK0 ⊢
            generalize (wd).alloc (.cells #[.string { data := #[112] }, .string { data := #[113] }] 9) = wA at *
            clear hsbe
            have hsk : wA.cell? ⟨sb, kk, none⟩ = some (.string (str key)) := hK0.cell kk _ Hkl.out
            have hzK := hxK.size
            have hT1 : ∀ k, looks [(0, fun z => Ext no wc z), (10, fun z => Ext no wA z)] k (wA) := looks_all ⟨(hxd0).comp hxK, Ext.refl _ _, trivial⟩
            refine hK _ _ (looks [(0, fun z => Ext no wc z), (10, fun z => Ext no wA z)]) ⟨.inr (.inr (fun x h => h)), .inl (by kernel_rfl), trivial⟩ hT1 ?_
            clear hK K
            try simp only [Act.put, List.setIfInBounds_toArray, List.set_cons_zero, List.set_cons_succ]
            refine wpF_take 9 (v := .pointer (some ⟨sb, kk, none⟩)) rfl (by kernel_rfl) (by kernel_rfl) (by kernel_rfl) (fun _ _ _ h => h) hT1 (by rfl) (by intro wq; go_simp; first | done | (intro hh; exfalso; omega)) ?_
            simp only [Act.put, List.setIfInBounds_toArray, List.set_cons_zero, List.set_cons_succ]
            refine wpF_look 10 (v := .string (str key)) rfl rfl (by kernel_rfl) (by kernel_rfl) (by kernel_rfl) (by kernel_rfl) (fun _ _ _ h => h) hT1 (by rfl) (fun w hS => by have hS : Ext no wA w := hS; have q := hS.keeps hsk (fun h => h); go_simp) ?_
            simp only [Act.put, List.setIfInBounds_toArray, List.set_cons_zero, List.set_cons_succ]
            refine wpF_take 12 (v := ?_) rfl (by kernel_rfl) (by kernel_rfl) (by kernel_rfl) (fun _ _ _ h => h) hT1 (by rfl) ?_ ?_
            rotate_left
            · (intro wq; go_simp; try with_reducible rfl)
            simp only [Act.put, List.setIfInBounds_toArray, List.set_cons_zero, List.set_cons_succ]
            refine wpF_execs [13, 17] (by kernel_rfl) (by simp) ?_
            intro j hj
            simp only [List.mem_cons, List.not_mem_nil, or_false] at hj
            rcases hj with rfl | rfl
            · refine ⟨_, rfl, by rfl, ?_⟩
              intro K hK
              go_simp
              refine (apply_any (wA) C k (countOp dd 1 (1 + sq) key n) none 0 (hmd.isIn.ext ((hxd0).comp hxK)) hsm hcn.fine.ok (Rd.nil _ _) (Nat.zero_le _) hkl (Nat.zero_le _)).mono ?_
              rintro e wB ⟨k2, rfl, hmB, hxB⟩
              rw [HC2.out] at hmB ⊢
              rw [Herr.out]
              unfold CollR.val
              have hzB := hxB.size
              have hzW := (show Ext no wc (wA) from (hxd0).comp hxK).size
              have hT2 : ∀ k, looks [(0, fun z => Ext no wc z), (10, fun z => Ext no wA z)] k (wB) := looks_all ⟨((hxd0).comp hxK).comp hxB, (Ext.refl _ _).comp hxB, trivial⟩
              refine hK _ _ (looks [(0, fun z => Ext no wc z), (10, fun z => Ext no wA z)]) ⟨.inr (.inl (by kernel_rfl)), .inr (.inl (by kernel_rfl)), trivial⟩ hT2 ?_
              clear hK K
              try simp only [Act.put, List.setIfInBounds_toArray, List.set_cons_zero, List.set_cons_succ]
              refine wpF_take 14 (v := ?_) rfl (by kernel_rfl) (by kernel_rfl) (by kernel_rfl) (fun _ _ _ h => h) hT2 (by rfl) ?_ ?_
              rotate_left
              · (intro wq; go_simp; try with_reducible rfl)
              simp only [Act.put, List.setIfInBounds_toArray, List.set_cons_zero, List.set_cons_succ]
              refine wpF_take 15 (v := ?_) rfl (by kernel_rfl) (by kernel_rfl) (by kernel_rfl) (fun _ _ _ h => h) hT2 (by rfl) ?_ ?_
              rotate_left
              · (intro wq; go_simp; try with_reducible rfl)
              simp only [Act.put, List.setIfInBounds_toArray, List.set_cons_zero, List.set_cons_succ]
              refine wpF_take 16 (v := ?_) rfl (by kernel_rfl) (by kernel_rfl) (by kernel_rfl) (fun _ _ _ h => h) hT2 (by rfl) ?_ ?_
              rotate_left
              · (intro wq; go_simp; try with_reducible rfl)
              simp only [Act.put, List.setIfInBounds_toArray, List.set_cons_zero, List.set_cons_succ]
              refine wpF_exec 17 rfl (by kernel_rfl) (by rfl) ?_
              intro K hK
              go_simp
              have hXb := Blk.at (wB) #[.slice none 0 0, .slice none 0 0, .slice none 0 0, .slice none 0 0, .slice none 0 0, .slice none 0 0] 31 (wB.heap.size) rfl
              have hxX := Ext.alloc no (wB) (.cells #[.slice none 0 0, .slice none 0 0, .slice none 0 0, .slice none 0 0, .slice none 0 0, .slice none 0 0] 31)
              obtain ⟨xb, hxbe⟩ : ∃ xb, xb = wB.heap.size := ⟨_, rfl⟩
              have hxL : wB.heap.size ≤ xb := by omega
              have hxU : xb ≤ wB.heap.size := by omega
              have hxW : wc.heap.size ≤ xb := by have := (show Ext no wc (wB) from ((hxd0).comp hxK).comp hxB).size; have e : (wB).heap.size = wB.heap.size := rfl; omega
              rw [← hxbe] at hXb ⊢
              generalize (wB).alloc (.cells #[.slice none 0 0, .slice none 0 0, .slice none 0 0, .slice none 0 0, .slice none 0 0, .slice none 0 0] 31) = wX at *
              clear hxbe
              have hzX := hXb.lt (by simp)
              have hT3 : ∀ k, looks [(0, fun z => Ext no wc z), (10, fun z => Ext no wA z)] k (wX) := looks_all ⟨(((hxd0).comp hxK).comp hxB).comp hxX, ((Ext.refl _ _).comp hxB).comp hxX, trivial⟩
              refine hK _ _ (looks [(0, fun z => Ext no wc z), (10, fun z => Ext no wA z)]) ⟨.inr (.inr (fun x h => h)), .inr (.inr (fun x h => h)), trivial⟩ hT3 ?_
              clear hK K
              try simp only [Act.put, List.setIfInBounds_toArray, List.set_cons_zero, List.set_cons_succ]
              refine wpF_exec 18 rfl (by kernel_rfl) (by rfl) ?_
              intro K hK
              have z0 := hXb.cell 0 _ rfl
              have z1 := hXb.cell 1 _ rfl
              have z2 := hXb.cell 2 _ rfl
              have z3 := hXb.cell 3 _ rfl
              have z4 := hXb.cell 4 _ rfl
              have z5 := hXb.cell 5 _ rfl
              have f0 := hXb.fr 0
              have f1 := hXb.fr 1
              have f2 := hXb.fr 2
              have f3 := hXb.fr 3
              have f4 := hXb.fr 4
              have f5 := hXb.fr 5
              go_simp
              have hbE := ((((((hXb.set 0 (.slice k2.v C2.v.length k2.vc) (by simp)).set 1 (.slice k2.r C2.regs.length k2.rc) (by simp)).set 2 (.slice k2.e C2.elems.length k2.ec) (by simp)).set 3 (.slice k2.g C2.gone.length k2.gc) (by simp)).set 4 (.slice k2.s C2.sums.length k2.sc) (by simp)).set 5 (.slice k2.b C2.binds.length k2.bc) (by simp))
              have hxE := (((((Ext.setCell (S := just xb) (wX) ⟨xb, 0, none⟩ (.slice k2.v C2.v.length k2.vc) rfl).comp (Ext.setCell _ ⟨xb, 1, none⟩ (.slice k2.r C2.regs.length k2.rc) rfl)).comp (Ext.setCell _ ⟨xb, 2, none⟩ (.slice k2.e C2.elems.length k2.ec) rfl)).comp (Ext.setCell _ ⟨xb, 3, none⟩ (.slice k2.g C2.gone.length k2.gc) rfl)).comp (Ext.setCell _ ⟨xb, 4, none⟩ (.slice k2.s C2.sums.length k2.sc) rfl)).comp (Ext.setCell _ ⟨xb, 5, none⟩ (.slice k2.b C2.binds.length k2.bc) rfl)
              clear z0 f0 z1 f1 z2 f2 z3 f3 z4 f4 z5 f5
              generalize ((((((wX).setCell ⟨xb, 0, none⟩ (.slice k2.v C2.v.length k2.vc)).setCell ⟨xb, 1, none⟩ (.slice k2.r C2.regs.length k2.rc)).setCell ⟨xb, 2, none⟩ (.slice k2.e C2.elems.length k2.ec)).setCell ⟨xb, 3, none⟩ (.slice k2.g C2.gone.length k2.gc)).setCell ⟨xb, 4, none⟩ (.slice k2.s C2.sums.length k2.sc)).setCell ⟨xb, 5, none⟩ (.slice k2.b C2.binds.length k2.bc) = wE at *
              have hmE : Mine C2 wE B k2 := ((hmB.no hxX).ext hxE (fun i ad hi e => by have e : ad.block = xb := e; have := hmB.base i ad hi; omega)).mono (by omega)
              have hxF : Ext no wc wE := ((((hxd0).comp hxK).comp hxB).comp hxX).trans hxE (fun k hk e => by have e : k = xb := e; omega)
              have hT4 : ∀ k, looks [(0, fun z => True), (10, fun z => True)] k (wE) := looks_all ⟨trivial, trivial, trivial⟩
              refine hK _ _ (looks [(0, fun z => True), (10, fun z => True)]) ⟨.inr (.inl (by kernel_rfl)), .inr (.inl (by kernel_rfl)), trivial⟩ hT4 ?_
              clear hK K
              try simp only [Act.put, List.setIfInBounds_toArray, List.set_cons_zero, List.set_cons_succ]
              refine wpF_take 19 (v := ?_) rfl (by kernel_rfl) (by kernel_rfl) (by kernel_rfl) (fun _ _ _ h => h) hT4 (by rfl) ?_ ?_
              rotate_left
              · (intro wq; go_simp; try with_reducible rfl)
              simp only [Act.put, List.setIfInBounds_toArray, List.set_cons_zero, List.set_cons_succ]
              refine wpF_done (by kernel_rfl) ?_ _
              go_wp2_with fail
              go_meet
              exact ⟨xb, k2, rfl, rfl, hmE, hbE, hxF⟩
            · refine ⟨_, rfl, by rfl, ?_⟩
              intro K hK
              go_simp
              have hXb := Blk.at (wA) #[.slice none 0 0, .slice none 0 0, .slice none 0 0, .slice none 0 0, .slice none 0 0, .slice none 0 0] 31 (wA.heap.size) rfl
              have hxX := Ext.alloc no (wA) (.cells #[.slice none 0 0, .slice none 0 0, .slice none 0 0, .slice none 0 0, .slice none 0 0, .slice none 0 0] 31)
              obtain ⟨xb, hxbe⟩ : ∃ xb, xb = wA.heap.size := ⟨_, rfl⟩
              have hxL : wA.heap.size ≤ xb := by omega
              have hxU : xb ≤ wA.heap.size := by omega
              have hxW : wc.heap.size ≤ xb := by have := (show Ext no wc (wA) from (hxd0).comp hxK).size; have e : (wA).heap.size = wA.heap.size := rfl; omega
              rw [← hxbe] at hXb ⊢
              generalize (wA).alloc (.cells #[.slice none 0 0, .slice none 0 0, .slice none 0 0, .slice none 0 0, .slice none 0 0, .slice none 0 0] 31) = wX at *
              clear hxbe
              have hzX := hXb.lt (by simp)
              have hT2 : ∀ k, looks [(0, fun z => Ext no wc z), (10, fun z => Ext no wA z)] k (wX) := looks_all ⟨((hxd0).comp hxK).comp hxX, (Ext.refl _ _).comp hxX, trivial⟩
              refine hK _ _ (looks [(0, fun z => Ext no wc z), (10, fun z => Ext no wA z)]) ⟨.inr (.inr (fun x h => h)), .inr (.inr (fun x h => h)), trivial⟩ hT2 ?_
              clear hK K
              try simp only [Act.put, List.setIfInBounds_toArray, List.set_cons_zero, List.set_cons_succ]
              refine wpF_exec 13 rfl (by kernel_rfl) (by rfl) ?_
              intro K hK
              go_simp
              refine (apply_any (wX) C k (countOp dd 1 (1 + sq) key n) none 0 (hmd.isIn.ext (((hxd0).comp hxK).comp hxX)) hsm hcn.fine.ok (Rd.nil _ _) (Nat.zero_le _) hkl (Nat.zero_le _)).mono ?_
              rintro e wB ⟨k2, rfl, hmB, hxB⟩
              rw [HC2.out] at hmB ⊢
              rw [Herr.out]
              unfold CollR.val
              have hzB := hxB.size
              have hzW := (show Ext no wc (wX) from ((hxd0).comp hxK).comp hxX).size
              have hXc := hXb.ext (by simp) hxB (fun h => h)
              have hT3 : ∀ k, looks [(0, fun z => Ext no wc z), (10, fun z => Ext no wA z)] k (wB) := looks_all ⟨(((hxd0).comp hxK).comp hxX).comp hxB, ((Ext.refl _ _).comp hxX).comp hxB, trivial⟩
              refine hK _ _ (looks [(0, fun z => Ext no wc z), (10, fun z => Ext no wA z)]) ⟨.inr (.inl (by kernel_rfl)), .inr (.inl (by kernel_rfl)), trivial⟩ hT3 ?_
              clear hK K
              try simp only [Act.put, List.setIfInBounds_toArray, List.set_cons_zero, List.set_cons_succ]
              refine wpF_take 14 (v := ?_) rfl (by kernel_rfl) (by kernel_rfl) (by kernel_rfl) (fun _ _ _ h => h) hT3 (by rfl) ?_ ?_
              rotate_left
              · (intro wq; go_simp; try with_reducible rfl)
              simp only [Act.put, List.setIfInBounds_toArray, List.set_cons_zero, List.set_cons_succ]
              refine wpF_take 15 (v := ?_) rfl (by kernel_rfl) (by kernel_rfl) (by kernel_rfl) (fun _ _ _ h => h) hT3 (by rfl) ?_ ?_
              rotate_left
              · (intro wq; go_simp; try with_reducible rfl)
              simp only [Act.put, List.setIfInBounds_toArray, List.set_cons_zero, List.set_cons_succ]
              refine wpF_take 16 (v := ?_) rfl (by kernel_rfl) (by kernel_rfl) (by kernel_rfl) (fun _ _ _ h => h) hT3 (by rfl) ?_ ?_
              rotate_left
              · (intro wq; go_simp; try with_reducible rfl)
              simp only [Act.put, List.setIfInBounds_toArray, List.set_cons_zero, List.set_cons_succ]
              refine wpF_exec 18 rfl (by kernel_rfl) (by rfl) ?_
              intro K hK
              have z0 := hXc.cell 0 _ rfl
              have z1 := hXc.cell 1 _ rfl
              have z2 := hXc.cell 2 _ rfl
              have z3 := hXc.cell 3 _ rfl
              have z4 := hXc.cell 4 _ rfl
              have z5 := hXc.cell 5 _ rfl
              have f0 := hXc.fr 0
              have f1 := hXc.fr 1
              have f2 := hXc.fr 2
              have f3 := hXc.fr 3
              have f4 := hXc.fr 4
              have f5 := hXc.fr 5
              go_simp
              have hbE := ((((((hXc.set 0 (.slice k2.v C2.v.length k2.vc) (by simp)).set 1 (.slice k2.r C2.regs.length k2.rc) (by simp)).set 2 (.slice k2.e C2.elems.length k2.ec) (by simp)).set 3 (.slice k2.g C2.gone.length k2.gc) (by simp)).set 4 (.slice k2.s C2.sums.length k2.sc) (by simp)).set 5 (.slice k2.b C2.binds.length k2.bc) (by simp))
              have hxE := (((((Ext.setCell (S := just xb) (wB) ⟨xb, 0, none⟩ (.slice k2.v C2.v.length k2.vc) rfl).comp (Ext.setCell _ ⟨xb, 1, none⟩ (.slice k2.r C2.regs.length k2.rc) rfl)).comp (Ext.setCell _ ⟨xb, 2, none⟩ (.slice k2.e C2.elems.length k2.ec) rfl)).comp (Ext.setCell _ ⟨xb, 3, none⟩ (.slice k2.g C2.gone.length k2.gc) rfl)).comp (Ext.setCell _ ⟨xb, 4, none⟩ (.slice k2.s C2.sums.length k2.sc) rfl)).comp (Ext.setCell _ ⟨xb, 5, none⟩ (.slice k2.b C2.binds.length k2.bc) rfl)
              clear z0 f0 z1 f1 z2 f2 z3 f3 z4 f4 z5 f5
              generalize ((((((wB).setCell ⟨xb, 0, none⟩ (.slice k2.v C2.v.length k2.vc)).setCell ⟨xb, 1, none⟩ (.slice k2.r C2.regs.length k2.rc)).setCell ⟨xb, 2, none⟩ (.slice k2.e C2.elems.length k2.ec)).setCell ⟨xb, 3, none⟩ (.slice k2.g C2.gone.length k2.gc)).setCell ⟨xb, 4, none⟩ (.slice k2.s C2.sums.length k2.sc)).setCell ⟨xb, 5, none⟩ (.slice k2.b C2.binds.length k2.bc) = wE at *
              have hmE : Mine C2 wE B k2 := (hmB.ext hxE (fun i ad hi e => by have e : ad.block = xb := e; have := hmB.base i ad hi; omega)).mono (by omega)
              have hxF : Ext no wc wE := ((((hxd0).comp hxK).comp hxX).comp hxB).trans hxE (fun k hk e => by have e : k = xb := e; omega)
              have hT4 : ∀ k, looks [(0, fun z => True), (10, fun z => True)] k (wE) := looks_all ⟨trivial, trivial, trivial⟩
              refine hK _ _ (looks [(0, fun z => True), (10, fun z => True)]) ⟨.inr (.inl (by kernel_rfl)), .inr (.inl (by kernel_rfl)), trivial⟩ hT4 ?_
              clear hK K
              try simp only [Act.put, List.setIfInBounds_toArray, List.set_cons_zero, List.set_cons_succ]
              refine wpF_take 19 (v := ?_) rfl (by kernel_rfl) (by kernel_rfl) (by kernel_rfl) (fun _ _ _ h => h) hT4 (by rfl) ?_ ?_
              rotate_left
              · (intro wq; go_simp; try with_reducible rfl)
              simp only [Act.put, List.setIfInBounds_toArray, List.set_cons_zero, List.set_cons_succ]
              refine wpF_done (by kernel_rfl) ?_ _
              go_wp2_with fail
              go_meet
              exact ⟨xb, k2, rfl, rfl, hmE, hbE, hxF⟩
          · refine ⟨_, rfl, by rfl, ?_⟩
            intro K hK
            go_simp
            have hXb := Blk.at (wd) #[.slice none 0 0, .slice none 0 0, .slice none 0 0, .slice none 0 0, .slice none 0 0, .slice none 0 0] 31 (wd.heap.size) rfl
            have hxX := Ext.alloc no (wd) (.cells #[.slice none 0 0, .slice none 0 0, .slice none 0 0, .slice none 0 0, .slice none 0 0, .slice none 0 0] 31)
            obtain ⟨xb, hxbe⟩ : ∃ xb, xb = wd.heap.size := ⟨_, rfl⟩
            have hxL : wd.heap.size ≤ xb := by omega
            have hxU : xb ≤ wd.heap.size := by omega
            have hxW : wc.heap.size ≤ xb := by have := (show Ext no wc (wd) from hxd0).size; have e : (wd).heap.size = wd.heap.size := rfl; omega
            rw [← hxbe] at hXb ⊢
            generalize (wd).alloc (.cells #[.slice none 0 0, .slice none 0 0, .slice none 0 0, .slice none 0 0, .slice none 0 0, .slice none 0 0] 31) = wX at *
            clear hxbe
            have hzX := hXb.lt (by simp)
            have hT1 : ∀ k, looks [(0, fun z => Ext no wc z), (10, fun z => True)] k (wX) := looks_all ⟨(hxd0).comp hxX, trivial, trivial⟩
            refine hK _ _ (looks [(0, fun z => Ext no wc z), (10, fun z => True)]) ⟨.inr (.inr (fun x h => h)), .inl (by kernel_rfl), trivial⟩ hT1 ?_
            clear hK K
            try simp only [Act.put, List.setIfInBounds_toArray, List.set_cons_zero, List.set_cons_succ]
            refine wpF_exec 7 rfl (by kernel_rfl) (by rfl) ?_
            intro K hK
            go_simp
            have hK0 := Blk.at (wX) #[.string { data := #[112] }, .string { data := #[113] }] 9 (wX.heap.size) rfl
            have hxK := Ext.alloc no (wX) (.cells #[.string { data := #[112] }, .string { data := #[113] }] 9)
            have hXk := hXb.ext (by simp) hxK (fun h => h)
            obtain ⟨sb, hsbe⟩ : ∃ sb, sb = wX.heap.size := ⟨_, rfl⟩
            rw [← hsbe] at hK0 ⊢
            generalize (wX).alloc (.cells #[.string { data := #[112] }, .string { data := #[113] }] 9) = wA at *
            clear hsbe
            have hsk : wA.cell? ⟨sb, kk, none⟩ = some (.string (str key)) := hK0.cell kk _ Hkl.out
            have hzK := hxK.size
            have hT2 : ∀ k, looks [(0, fun z => Ext no wc z), (10, fun z => Ext no wA z)] k (wA) := looks_all ⟨((hxd0).comp hxX).comp hxK, Ext.refl _ _, trivial⟩
            refine hK _ _ (looks [(0, fun z => Ext no wc z), (10, fun z => Ext no wA z)]) ⟨.inr (.inr (fun x h => h)), .inl (by kernel_rfl), trivial⟩ hT2 ?_
            clear hK K
            try simp only [Act.put, List.setIfInBounds_toArray, List.set_cons_zero, List.set_cons_succ]
            refine wpF_take 9 (v := .pointer (some ⟨sb, kk, none⟩)) rfl (by kernel_rfl) (by kernel_rfl) (by kernel_rfl) (fun _ _ _ h => h) hT2 (by rfl) (by intro wq; go_simp; first | done | (intro hh; exfalso; omega)) ?_
            simp only [Act.put, List.setIfInBounds_toArray, List.set_cons_zero, List.set_cons_succ]
            refine wpF_look 10 (v := .string (str key)) rfl rfl (by kernel_rfl) (by kernel_rfl) (by kernel_rfl) (by kernel_rfl) (fun _ _ _ h => h) hT2 (by rfl) (fun w hS => by have hS : Ext no wA w := hS; have q := hS.keeps hsk (fun h => h); go_simp) ?_
            simp only [Act.put, List.setIfInBounds_toArray, List.set_cons_zero, List.set_cons_succ]
            refine wpF_take 12 (v := ?_) rfl (by kernel_rfl) (by kernel_rfl) (by kernel_rfl) (fun _ _ _ h => h) hT2 (by rfl) ?_ ?_
            rotate_left
            · (intro wq; go_simp; try with_reducible rfl)
            simp only [Act.put, List.setIfInBounds_toArray, List.set_cons_zero, List.set_cons_succ]
            refine wpF_exec 13 rfl (by kernel_rfl) (by rfl) ?_
            intro K hK
            go_simp
            refine (apply_any (wA) C k (countOp dd 1 (1 + sq) key n) none 0 (hmd.isIn.ext (((hxd0).comp hxX).comp hxK)) hsm hcn.fine.ok (Rd.nil _ _) (Nat.zero_le _) hkl (Nat.zero_le _)).mono ?_
            rintro e wB ⟨k2, rfl, hmB, hxB⟩
            rw [HC2.out] at hmB ⊢
            rw [Herr.out]
            unfold CollR.val
            have hzB := hxB.size
            have hzW := (show Ext no wc (wA) from ((hxd0).comp hxX).comp hxK).size
            have hXc := hXk.ext (by simp) hxB (fun h => h)
            have hT3 : ∀ k, looks [(0, fun z => Ext no wc z), (10, fun z => Ext no wA z)] k (wB) := looks_all ⟨(((hxd0).comp hxX).comp hxK).comp hxB, (Ext.refl _ _).comp hxB, trivial⟩
            refine hK _ _ (looks [(0, fun z => Ext no wc z), (10, fun z => Ext no wA z)]) ⟨.inr (.inl (by kernel_rfl)), .inr (.inl (by kernel_rfl)), trivial⟩ hT3 ?_
            clear hK K
            try simp only [Act.put, List.setIfInBounds_toArray, List.set_cons_zero, List.set_cons_succ]
            refine wpF_take 14 (v := ?_) rfl (by kernel_rfl) (by kernel_rfl) (by kernel_rfl) (fun _ _ _ h => h) hT3 (by rfl) ?_ ?_
            rotate_left
            · (intro wq; go_simp; try with_reducible rfl)
            simp only [Act.put, List.setIfInBounds_toArray, List.set_cons_zero, List.set_cons_succ]
            refine wpF_take 15 (v := ?_) rfl (by kernel_rfl) (by kernel_rfl) (by kernel_rfl) (fun _ _ _ h => h) hT3 (by rfl) ?_ ?_
            rotate_left
            · (intro wq; go_simp; try with_reducible rfl)
            simp only [Act.put, List.setIfInBounds_toArray, List.set_cons_zero, List.set_cons_succ]
            refine wpF_take 16 (v := ?_) rfl (by kernel_rfl) (by kernel_rfl) (by kernel_rfl) (fun _ _ _ h => h) hT3 (by rfl) ?_ ?_
            rotate_left
            · (intro wq; go_simp; try with_reducible rfl)
            simp only [Act.put, List.setIfInBounds_toArray, List.set_cons_zero, List.set_cons_succ]
            refine wpF_exec 18 rfl (by kernel_rfl) (by rfl) ?_
            intro K hK
            have z0 := hXc.cell 0 _ rfl
            have z1 := hXc.cell 1 _ rfl
            have z2 := hXc.cell 2 _ rfl
            have z3 := hXc.cell 3 _ rfl
            have z4 := hXc.cell 4 _ rfl
            have z5 := hXc.cell 5 _ rfl
            have f0 := hXc.fr 0
            have f1 := hXc.fr 1
            have f2 := hXc.fr 2
            have f3 := hXc.fr 3
            have f4 := hXc.fr 4
            have f5 := hXc.fr 5
            go_simp
            have hbE := ((((((hXc.set 0 (.slice k2.v C2.v.length k2.vc) (by simp)).set 1 (.slice k2.r C2.regs.length k2.rc) (by simp)).set 2 (.slice k2.e C2.elems.length k2.ec) (by simp)).set 3 (.slice k2.g C2.gone.length k2.gc) (by simp)).set 4 (.slice k2.s C2.sums.length k2.sc) (by simp)).set 5 (.slice k2.b C2.binds.length k2.bc) (by simp))
            have hxE := (((((Ext.setCell (S := just xb) (wB) ⟨xb, 0, none⟩ (.slice k2.v C2.v.length k2.vc) rfl).comp (Ext.setCell _ ⟨xb, 1, none⟩ (.slice k2.r C2.regs.length k2.rc) rfl)).comp (Ext.setCell _ ⟨xb, 2, none⟩ (.slice k2.e C2.elems.length k2.ec) rfl)).comp (Ext.setCell _ ⟨xb, 3, none⟩ (.slice k2.g C2.gone.length k2.gc) rfl)).comp (Ext.setCell _ ⟨xb, 4, none⟩ (.slice k2.s C2.sums.length k2.sc) rfl)).comp (Ext.setCell _ ⟨xb, 5, none⟩ (.slice k2.b C2.binds.length k2.bc) rfl)
            clear z0 f0 z1 f1 z2 f2 z3 f3 z4 f4 z5 f5
            generalize ((((((wB).setCell ⟨xb, 0, none⟩ (.slice k2.v C2.v.length k2.vc)).setCell ⟨xb, 1, none⟩ (.slice k2.r C2.regs.length k2.rc)).setCell ⟨xb, 2, none⟩ (.slice k2.e C2.elems.length k2.ec)).setCell ⟨xb, 3, none⟩ (.slice k2.g C2.gone.length k2.gc)).setCell ⟨xb, 4, none⟩ (.slice k2.s C2.sums.length k2.sc)).setCell ⟨xb, 5, none⟩ (.slice k2.b C2.binds.length k2.bc) = wE at *
            have hmE : Mine C2 wE B k2 := (hmB.ext hxE (fun i ad hi e => by have e : ad.block = xb := e; have := hmB.base i ad hi; omega)).mono (by omega)
            have hxF : Ext no wc wE := ((((hxd0).comp hxX).comp hxK).comp hxB).trans hxE (fun k hk e => by have e : k = xb := e; omega)
            have hT4 : ∀ k, looks [(0, fun z => True), (10, fun z => True)] k (wE) := looks_all ⟨trivial, trivial, trivial⟩
            refine hK _ _ (looks [(0, fun z => True), (10, fun z => True)]) ⟨.inr (.inl (by kernel_rfl)), .inr (.inl (by kernel_rfl)), trivial⟩ hT4 ?_
            clear hK K
            try simp only [Act.put, List.setIfInBounds_toArray, List.set_cons_zero, List.set_cons_succ]
            refine wpF_take 19 (v := ?_) rfl (by kernel_rfl) (by kernel_rfl) (by kernel_rfl) (fun _ _ _ h => h) hT4 (by rfl) ?_ ?_
            rotate_left
            · (intro wq; go_simp; try with_reducible rfl)
            simp only [Act.put, List.setIfInBounds_toArray, List.set_cons_zero, List.set_cons_succ]
            refine wpF_done (by kernel_rfl) ?_ _
            go_wp2_with fail
            go_meet
            exact ⟨xb, k2, rfl, rfl, hmE, hbE, hxF⟩
        case rest =>
          obtain ⟨xb, k2, rfl, rfl, hm3, hX3, hx3⟩ := hcut
          clear c0 c1 c2 c3 c4 c5
          have hC3 := hCd.ext (by simp) hx3 (fun h => h)
          have hS3 := hSd.ext (by simp) hx3 (fun h => h)
          have hxx3 := hx2.comp hx3
          have hz3 := hx3.size
          have b0 := hcn.b0
          have b1 := hcn.b1
          have Hp := Lib.hid hcn2.p
          have Hq := Lib.hid hcn2.q
          have Hr := Lib.hid hcn2.r
          have hsmS := hcn2.sm.s
          have hord := hcn2.fine.ok.s
          clear hmd hCd hSd hx2 hx3 hcn Herr Hkl hsm htm htd HC2
          have x0 := hX3.cell 0 _ rfl
          have x1 := hX3.cell 1 _ rfl
          have x2 := hX3.cell 2 _ rfl
          have x3 := hX3.cell 3 _ rfl
          have x4 := hX3.cell 4 _ rfl
          have x5 := hX3.cell 5 _ rfl
          have c0 := hC3.cell 0 _ rfl
          have c1 := hC3.cell 1 _ rfl
          have c2 := hC3.cell 2 _ rfl
          have c3 := hC3.cell 3 _ rfl
          have c4 := hC3.cell 4 _ rfl
          have c5 := hC3.cell 5 _ rfl
          have f0 := hC3.fr 0
          have f1 := hC3.fr 1
          have f2 := hC3.fr 2
          have f3 := hC3.fr 3
          have f4 := hC3.fr 4
          have f5 := hC3.fr 5
          go_upto_region 15 with fail
          have hC4 := ((((((hC3.set 0 (.slice k2.v C2.v.length k2.vc) (by simp)).set 1 (.slice k2.r C2.regs.length k2.rc) (by simp)).set 2 (.slice k2.e C2.elems.length k2.ec) (by simp)).set 3 (.slice k2.g C2.gone.length k2.gc) (by simp)).set 4 (.slice k2.s C2.sums.length k2.sc) (by simp)).set 5 (.slice k2.b C2.binds.length k2.bc) (by simp))
          have hxs := (((((Ext.setCell (S := just g) wc ⟨g, 0, none⟩ (.slice k2.v C2.v.length k2.vc) rfl).comp (Ext.setCell _ ⟨g, 1, none⟩ (.slice k2.r C2.regs.length k2.rc) rfl)).comp (Ext.setCell _ ⟨g, 2, none⟩ (.slice k2.e C2.elems.length k2.ec) rfl)).comp (Ext.setCell _ ⟨g, 3, none⟩ (.slice k2.g C2.gone.length k2.gc) rfl)).comp (Ext.setCell _ ⟨g, 4, none⟩ (.slice k2.s C2.sums.length k2.sc) rfl)).comp (Ext.setCell _ ⟨g, 5, none⟩ (.slice k2.b C2.binds.length k2.bc) rfl)
          have hS4 := hS3.ext (by simp) hxs (fun e => by have e : g + 1 = g := e; omega)
          have hm4 := hm3.ext hxs (fun i ad hi e => by have e : ad.block = g := e; have := hm3.base i ad hi; omega)
          have hx4 := hxx3.trans hxs (fun k hk e => by have e : k = g := e; omega)
          have hz4 := hxs.size
          clear hxs hC3 hS3 hm3 hX3 hxx3 x0 c0 f0 x1 c1 f1 x2 c2 f2 x3 c3 f3 x4 c4 f4 x5 c5 f5
          generalize (((((wc.setCell ⟨g, 0, none⟩ (.slice k2.v C2.v.length k2.vc)).setCell ⟨g, 1, none⟩ (.slice k2.r C2.regs.length k2.rc)).setCell ⟨g, 2, none⟩ (.slice k2.e C2.elems.length k2.ec)).setCell ⟨g, 3, none⟩ (.slice k2.g C2.gone.length k2.gc)).setCell ⟨g, 4, none⟩ (.slice k2.s C2.sums.length k2.sc)).setCell ⟨g, 5, none⟩ (.slice k2.b C2.binds.length k2.bc) = w4 at *
          rcases (show kk = 0 ∨ kk = 1 by omega) with rfl | rfl
          · rw [if_pos rfl] at hcn2 Hp
            rw [if_pos rfl] at hcn2 Hq
            have y0 := hS4.cell 0 _ rfl
            have y1 := hS4.cell 1 _ rfl
            have fy0 := hS4.fr 0
            have fy1 := hS4.fr 1
            go_upto_region 16 with fail
            have hS5 := hS4.set 0 (.int .i64 (s0 + n)) (by simp)
            have hxs : Ext (just (g + 1)) w4 (w4.setCell ⟨g + 1, 0, none⟩ (.int .i64 (s0 + n))) := Ext.setCell _ _ _ rfl
            have hC5 := hC4.ext (by simp) hxs (fun e => by have e : g = g + 1 := e; omega)
            have hm5 := hm4.ext hxs (fun i ad hi e => by have e : ad.block = g + 1 := e; have := hm4.base i ad hi; omega)
            have hx5 := hx4.trans hxs (fun k hk e => by have e : k = g + 1 := e; omega)
            have hz5 := hxs.size
            clear y0 y1 fy0 fy1 hxs hS4 hC4 hm4 hx4
            generalize w4.setCell ⟨g + 1, 0, none⟩ (.int .i64 (s0 + n)) = w5 at *
            have c0 := hC5.cell 0 _ rfl
            have c1 := hC5.cell 1 _ rfl
            have c2 := hC5.cell 2 _ rfl
            have c3 := hC5.cell 3 _ rfl
            have c4 := hC5.cell 4 _ rfl
            have c5 := hC5.cell 5 _ rfl
            have y0 : w5.cell? ⟨g + 1, 0, none⟩ = some (.int .i64 (s0 + n)) := hS5.cell 0 _ rfl
            have y1 : w5.cell? ⟨g + 1, 1, none⟩ = some (.int .i64 s1) := hS5.cell 1 _ rfl
            refine wp_region_F [0, 3, 6, 9, 13] (looks [(0, fun z => Ext no w5 z), (3, fun z => Ext no w5 z), (6, fun z => Ext no w5 z), (9, fun z => Ext no w5 z), (13, fun z => Ext no w5 z)]) (by kernel_rfl) ?_
            have hxd5 := Ext.drew no w5
            generalize w5.drew = wd5 at *
            have hT0 : ∀ k, looks [(0, fun z => Ext no w5 z), (3, fun z => Ext no w5 z), (6, fun z => Ext no w5 z), (9, fun z => Ext no w5 z), (13, fun z => Ext no w5 z)] k (wd5) := looks_all ⟨hxd5, hxd5, hxd5, hxd5, hxd5, trivial⟩
            refine wpF_look 0 (v := .agg #[.slice k2.v C2.v.length k2.vc, .slice k2.r C2.regs.length k2.rc, .slice k2.e C2.elems.length k2.ec, .slice k2.g C2.gone.length k2.gc, .slice k2.s C2.sums.length k2.sc, .slice k2.b C2.binds.length k2.bc]) rfl rfl (by kernel_rfl) (by kernel_rfl) (by kernel_rfl) (by kernel_rfl) (fun _ _ _ h => h) hT0 (by rfl) (fun w hS => by have hS : Ext no w5 w := hS; have q0 := hS.keeps c0 (fun h => h); have q1 := hS.keeps c1 (fun h => h); have q2 := hS.keeps c2 (fun h => h); have q3 := hS.keeps c3 (fun h => h); have q4 := hS.keeps c4 (fun h => h); have q5 := hS.keeps c5 (fun h => h); go_simp) ?_
            simp only [Act.put, List.setIfInBounds_toArray, List.set_cons_zero, List.set_cons_succ]
            refine wpF_take 2 (v := ?_) rfl (by kernel_rfl) (by kernel_rfl) (by kernel_rfl) (fun _ _ _ h => h) hT0 (by rfl) ?_ ?_
            rotate_left
            · (intro wq; go_simp; try with_reducible rfl)
            simp only [Act.put, List.setIfInBounds_toArray, List.set_cons_zero, List.set_cons_succ]
            refine wpF_look 3 (v := .int .i64 (s0 + n)) rfl rfl (by kernel_rfl) (by kernel_rfl) (by kernel_rfl) (by kernel_rfl) (fun _ _ _ h => h) hT0 (by rfl) (fun w hS => by have hS : Ext no w5 w := hS; have q0 := hS.keeps y0 (fun h => h); go_simp) ?_
            simp only [Act.put, List.setIfInBounds_toArray, List.set_cons_zero, List.set_cons_succ]
            refine wpF_exec 1 rfl (by kernel_rfl) (by rfl) ?_
            intro K hK
            go_simp
            refine (cnt_any (wd5) C2 k2 [112] (hm5.s.rd.ext (hxd5) (fun _ _ h => h)) (by omega) hord).mono ?_
            rintro e wn1 ⟨rfl, hxn1⟩
            rw [Hp.out]
            have hT1 : ∀ k, looks [(0, fun z => Ext no w5 z), (3, fun z => Ext no w5 z), (6, fun z => Ext no w5 z), (9, fun z => Ext no w5 z), (13, fun z => Ext no w5 z)] k (wn1) := looks_all ⟨(hxd5).comp hxn1, (hxd5).comp hxn1, (hxd5).comp hxn1, (hxd5).comp hxn1, (hxd5).comp hxn1, trivial⟩
            refine hK _ _ (looks [(0, fun z => Ext no w5 z), (3, fun z => Ext no w5 z), (6, fun z => Ext no w5 z), (9, fun z => Ext no w5 z), (13, fun z => Ext no w5 z)]) ⟨.inr (.inl (by kernel_rfl)), .inr (.inr (fun x h => h)), .inl (by kernel_rfl), .inl (by kernel_rfl), .inl (by kernel_rfl), trivial⟩ hT1 ?_
            clear hK K
            try simp only [Act.put, List.setIfInBounds_toArray, List.set_cons_zero, List.set_cons_succ]
            refine wpF_take 4 (v := .bool false) rfl (by kernel_rfl) (by kernel_rfl) (by kernel_rfl) (fun _ _ _ h => h) hT1 (by rfl) (by intro wq; go_simp; first | done | rfl | simp) ?_
            simp only [Act.put, List.setIfInBounds_toArray, List.set_cons_zero, List.set_cons_succ]
            refine wpF_take 5 (v := ?_) rfl (by kernel_rfl) (by kernel_rfl) (by kernel_rfl) (fun _ _ _ h => h) hT1 (by rfl) ?_ ?_
            rotate_left
            · (intro wq; go_simp; try with_reducible rfl)
            simp only [Act.put, List.setIfInBounds_toArray, List.set_cons_zero, List.set_cons_succ]
            refine wpF_look 6 (v := .agg #[.slice k2.v C2.v.length k2.vc, .slice k2.r C2.regs.length k2.rc, .slice k2.e C2.elems.length k2.ec, .slice k2.g C2.gone.length k2.gc, .slice k2.s C2.sums.length k2.sc, .slice k2.b C2.binds.length k2.bc]) rfl rfl (by kernel_rfl) (by kernel_rfl) (by kernel_rfl) (by kernel_rfl) (fun _ _ _ h => h) hT1 (by rfl) (fun w hS => by have hS : Ext no w5 w := hS; have q0 := hS.keeps c0 (fun h => h); have q1 := hS.keeps c1 (fun h => h); have q2 := hS.keeps c2 (fun h => h); have q3 := hS.keeps c3 (fun h => h); have q4 := hS.keeps c4 (fun h => h); have q5 := hS.keeps c5 (fun h => h); go_simp) ?_
            simp only [Act.put, List.setIfInBounds_toArray, List.set_cons_zero, List.set_cons_succ]
            refine wpF_take 8 (v := ?_) rfl (by kernel_rfl) (by kernel_rfl) (by kernel_rfl) (fun _ _ _ h => h) hT1 (by rfl) ?_ ?_
            rotate_left
            · (intro wq; go_simp; try with_reducible rfl)
            simp only [Act.put, List.setIfInBounds_toArray, List.set_cons_zero, List.set_cons_succ]
            refine wpF_look 9 (v := .int .i64 s1) rfl rfl (by kernel_rfl) (by kernel_rfl) (by kernel_rfl) (by kernel_rfl) (fun _ _ _ h => h) hT1 (by rfl) (fun w hS => by have hS : Ext no w5 w := hS; have q0 := hS.keeps y1 (fun h => h); go_simp) ?_
            simp only [Act.put, List.setIfInBounds_toArray, List.set_cons_zero, List.set_cons_succ]
            refine wpF_exec 7 rfl (by kernel_rfl) (by rfl) ?_
            intro K hK
            go_simp
            refine (cnt_any (wn1) C2 k2 [113] (hm5.s.rd.ext ((hxd5).comp hxn1) (fun _ _ h => h)) (by omega) hord).mono ?_
            rintro e wn7 ⟨rfl, hxn7⟩
            rw [Hq.out]
            have hT2 : ∀ k, looks [(0, fun z => Ext no w5 z), (3, fun z => Ext no w5 z), (6, fun z => Ext no w5 z), (9, fun z => Ext no w5 z), (13, fun z => Ext no w5 z)] k (wn7) := looks_all ⟨((hxd5).comp hxn1).comp hxn7, ((hxd5).comp hxn1).comp hxn7, ((hxd5).comp hxn1).comp hxn7, ((hxd5).comp hxn1).comp hxn7, ((hxd5).comp hxn1).comp hxn7, trivial⟩
            refine hK _ _ (looks [(0, fun z => Ext no w5 z), (3, fun z => Ext no w5 z), (6, fun z => Ext no w5 z), (9, fun z => Ext no w5 z), (13, fun z => Ext no w5 z)]) ⟨.inr (.inl (by kernel_rfl)), .inr (.inl (by kernel_rfl)), .inr (.inl (by kernel_rfl)), .inr (.inr (fun x h => h)), .inl (by kernel_rfl), trivial⟩ hT2 ?_
            clear hK K
            try simp only [Act.put, List.setIfInBounds_toArray, List.set_cons_zero, List.set_cons_succ]
            refine wpF_take 10 (v := .bool false) rfl (by kernel_rfl) (by kernel_rfl) (by kernel_rfl) (fun _ _ _ h => h) hT2 (by rfl) (by intro wq; go_simp; first | done | rfl | simp) ?_
            simp only [Act.put, List.setIfInBounds_toArray, List.set_cons_zero, List.set_cons_succ]
            refine wpF_take 11 (v := ?_) rfl (by kernel_rfl) (by kernel_rfl) (by kernel_rfl) (fun _ _ _ h => h) hT2 (by rfl) ?_ ?_
            rotate_left
            · (intro wq; go_simp; try with_reducible rfl)
            simp only [Act.put, List.setIfInBounds_toArray, List.set_cons_zero, List.set_cons_succ]
            refine wpF_take 12 (v := ?_) rfl (by kernel_rfl) (by kernel_rfl) (by kernel_rfl) (fun _ _ _ h => h) hT2 (by rfl) ?_ ?_
            rotate_left
            · (intro wq; go_simp; try with_reducible rfl)
            simp only [Act.put, List.setIfInBounds_toArray, List.set_cons_zero, List.set_cons_succ]
            refine wpF_look 13 (v := .agg #[.slice k2.v C2.v.length k2.vc, .slice k2.r C2.regs.length k2.rc, .slice k2.e C2.elems.length k2.ec, .slice k2.g C2.gone.length k2.gc, .slice k2.s C2.sums.length k2.sc, .slice k2.b C2.binds.length k2.bc]) rfl rfl (by kernel_rfl) (by kernel_rfl) (by kernel_rfl) (by kernel_rfl) (fun _ _ _ h => h) hT2 (by rfl) (fun w hS => by have hS : Ext no w5 w := hS; have q0 := hS.keeps c0 (fun h => h); have q1 := hS.keeps c1 (fun h => h); have q2 := hS.keeps c2 (fun h => h); have q3 := hS.keeps c3 (fun h => h); have q4 := hS.keeps c4 (fun h => h); have q5 := hS.keeps c5 (fun h => h); go_simp) ?_
            simp only [Act.put, List.setIfInBounds_toArray, List.set_cons_zero, List.set_cons_succ]
            refine wpF_exec 14 rfl (by kernel_rfl) (by rfl) ?_
            intro K hK
            go_simp
            refine (cnt_any (wn7) C2 k2 [114] (hm5.s.rd.ext (((hxd5).comp hxn1).comp hxn7) (fun _ _ h => h)) (by omega) hord).mono ?_
            rintro e wn14 ⟨rfl, hxn14⟩
            rw [Hr.out]
            have hT3 : ∀ k, looks [(0, fun z => Ext no w5 z), (3, fun z => Ext no w5 z), (6, fun z => Ext no w5 z), (9, fun z => Ext no w5 z), (13, fun z => Ext no w5 z)] k (wn14) := looks_all ⟨(((hxd5).comp hxn1).comp hxn7).comp hxn14, (((hxd5).comp hxn1).comp hxn7).comp hxn14, (((hxd5).comp hxn1).comp hxn7).comp hxn14, (((hxd5).comp hxn1).comp hxn7).comp hxn14, (((hxd5).comp hxn1).comp hxn7).comp hxn14, trivial⟩
            refine hK _ _ (looks [(0, fun z => Ext no w5 z), (3, fun z => Ext no w5 z), (6, fun z => Ext no w5 z), (9, fun z => Ext no w5 z), (13, fun z => Ext no w5 z)]) ⟨.inr (.inl (by kernel_rfl)), .inr (.inl (by kernel_rfl)), .inr (.inl (by kernel_rfl)), .inr (.inl (by kernel_rfl)), .inr (.inl (by kernel_rfl)), trivial⟩ hT3 ?_
            clear hK K
            try simp only [Act.put, List.setIfInBounds_toArray, List.set_cons_zero, List.set_cons_succ]
            refine wpF_take 15 (v := .bool false) rfl (by kernel_rfl) (by kernel_rfl) (by kernel_rfl) (fun _ _ _ h => h) hT3 (by rfl) (by intro wq; go_simp; first | done | rfl | simp) ?_
            simp only [Act.put, List.setIfInBounds_toArray, List.set_cons_zero, List.set_cons_succ]
            refine wpF_take 16 (v := ?_) rfl (by kernel_rfl) (by kernel_rfl) (by kernel_rfl) (fun _ _ _ h => h) hT3 (by rfl) ?_ ?_
            rotate_left
            · (intro wq; go_simp; try with_reducible rfl)
            simp only [Act.put, List.setIfInBounds_toArray, List.set_cons_zero, List.set_cons_succ]
            refine wpF_done (by kernel_rfl) ?_ _
            have hxn := (((hxd5).comp hxn1).comp hxn7).comp hxn14
            have hzn := hxn.size
            go_wp2_with fail
            go_roundw
            case rel => exact ⟨i + 1, C2, k2, (s0 + n), s1, by go_num, by omega, by omega, hcn2, hm5.no hxn, hC5.ext (by simp) hxn (fun h => h), hS5.ext (by simp) hxn (fun h => h), hx5.comp hxn, by omega⟩
            case measure => simp [intOf]; omega
          · rw [if_neg (by omega)] at hcn2 Hp
            rw [if_neg (by omega)] at hcn2 Hq
            have y0 := hS4.cell 0 _ rfl
            have y1 := hS4.cell 1 _ rfl
            have fy0 := hS4.fr 0
            have fy1 := hS4.fr 1
            go_upto_region 16 with fail
            have hS5 := hS4.set 1 (.int .i64 (s1 + n)) (by simp)
            have hxs : Ext (just (g + 1)) w4 (w4.setCell ⟨g + 1, 1, none⟩ (.int .i64 (s1 + n))) := Ext.setCell _ _ _ rfl
            have hC5 := hC4.ext (by simp) hxs (fun e => by have e : g = g + 1 := e; omega)
            have hm5 := hm4.ext hxs (fun i ad hi e => by have e : ad.block = g + 1 := e; have := hm4.base i ad hi; omega)
            have hx5 := hx4.trans hxs (fun k hk e => by have e : k = g + 1 := e; omega)
            have hz5 := hxs.size
            clear y0 y1 fy0 fy1 hxs hS4 hC4 hm4 hx4
            generalize w4.setCell ⟨g + 1, 1, none⟩ (.int .i64 (s1 + n)) = w5 at *
            have c0 := hC5.cell 0 _ rfl
            have c1 := hC5.cell 1 _ rfl
            have c2 := hC5.cell 2 _ rfl
            have c3 := hC5.cell 3 _ rfl
            have c4 := hC5.cell 4 _ rfl
            have c5 := hC5.cell 5 _ rfl
            have y0 : w5.cell? ⟨g + 1, 0, none⟩ = some (.int .i64 s0) := hS5.cell 0 _ rfl
            have y1 : w5.cell? ⟨g + 1, 1, none⟩ = some (.int .i64 (s1 + n)) := hS5.cell 1 _ rfl
            refine wp_region_F [0, 3, 6, 9, 13] (looks [(0, fun z => Ext no w5 z), (3, fun z => Ext no w5 z), (6, fun z => Ext no w5 z), (9, fun z => Ext no w5 z), (13, fun z => Ext no w5 z)]) (by kernel_rfl) ?_
            have hxd5 := Ext.drew no w5
            generalize w5.drew = wd5 at *
            have hT0 : ∀ k, looks [(0, fun z => Ext no w5 z), (3, fun z => Ext no w5 z), (6, fun z => Ext no w5 z), (9, fun z => Ext no w5 z), (13, fun z => Ext no w5 z)] k (wd5) := looks_all ⟨hxd5, hxd5, hxd5, hxd5, hxd5, trivial⟩
            refine wpF_look 0 (v := .agg #[.slice k2.v C2.v.length k2.vc, .slice k2.r C2.regs.length k2.rc, .slice k2.e C2.elems.length k2.ec, .slice k2.g C2.gone.length k2.gc, .slice k2.s C2.sums.length k2.sc, .slice k2.b C2.binds.length k2.bc]) rfl rfl (by kernel_rfl) (by kernel_rfl) (by kernel_rfl) (by kernel_rfl) (fun _ _ _ h => h) hT0 (by rfl) (fun w hS => by have hS : Ext no w5 w := hS; have q0 := hS.keeps c0 (fun h => h); have q1 := hS.keeps c1 (fun h => h); have q2 := hS.keeps c2 (fun h => h); have q3 := hS.keeps c3 (fun h => h); have q4 := hS.keeps c4 (fun h => h); have q5 := hS.keeps c5 (fun h => h); go_simp) ?_
            simp only [Act.put, List.setIfInBounds_toArray, List.set_cons_zero, List.set_cons_succ]
            refine wpF_take 2 (v := ?_) rfl (by kernel_rfl) (by kernel_rfl) (by kernel_rfl) (fun _ _ _ h => h) hT0 (by rfl) ?_ ?_
            rotate_left
            · (intro wq; go_simp; try with_reducible rfl)
            simp only [Act.put, List.setIfInBounds_toArray, List.set_cons_zero, List.set_cons_succ]
            refine wpF_look 3 (v := .int .i64 s0) rfl rfl (by kernel_rfl) (by kernel_rfl) (by kernel_rfl) (by kernel_rfl) (fun _ _ _ h => h) hT0 (by rfl) (fun w hS => by have hS : Ext no w5 w := hS; have q0 := hS.keeps y0 (fun h => h); go_simp) ?_
            simp only [Act.put, List.setIfInBounds_toArray, List.set_cons_zero, List.set_cons_succ]
            refine wpF_exec 1 rfl (by kernel_rfl) (by rfl) ?_
            intro K hK
            go_simp
            refine (cnt_any (wd5) C2 k2 [112] (hm5.s.rd.ext (hxd5) (fun _ _ h => h)) (by omega) hord).mono ?_
            rintro e wn1 ⟨rfl, hxn1⟩
            rw [Hp.out]
            have hT1 : ∀ k, looks [(0, fun z => Ext no w5 z), (3, fun z => Ext no w5 z), (6, fun z => Ext no w5 z), (9, fun z => Ext no w5 z), (13, fun z => Ext no w5 z)] k (wn1) := looks_all ⟨(hxd5).comp hxn1, (hxd5).comp hxn1, (hxd5).comp hxn1, (hxd5).comp hxn1, (hxd5).comp hxn1, trivial⟩
            refine hK _ _ (looks [(0, fun z => Ext no w5 z), (3, fun z => Ext no w5 z), (6, fun z => Ext no w5 z), (9, fun z => Ext no w5 z), (13, fun z => Ext no w5 z)]) ⟨.inr (.inl (by kernel_rfl)), .inr (.inr (fun x h => h)), .inl (by kernel_rfl), .inl (by kernel_rfl), .inl (by kernel_rfl), trivial⟩ hT1 ?_
            clear hK K
            try simp only [Act.put, List.setIfInBounds_toArray, List.set_cons_zero, List.set_cons_succ]
            refine wpF_take 4 (v := .bool false) rfl (by kernel_rfl) (by kernel_rfl) (by kernel_rfl) (fun _ _ _ h => h) hT1 (by rfl) (by intro wq; go_simp; first | done | rfl | simp) ?_
            simp only [Act.put, List.setIfInBounds_toArray, List.set_cons_zero, List.set_cons_succ]
            refine wpF_take 5 (v := ?_) rfl (by kernel_rfl) (by kernel_rfl) (by kernel_rfl) (fun _ _ _ h => h) hT1 (by rfl) ?_ ?_
            rotate_left
            · (intro wq; go_simp; try with_reducible rfl)
            simp only [Act.put, List.setIfInBounds_toArray, List.set_cons_zero, List.set_cons_succ]
            refine wpF_look 6 (v := .agg #[.slice k2.v C2.v.length k2.vc, .slice k2.r C2.regs.length k2.rc, .slice k2.e C2.elems.length k2.ec, .slice k2.g C2.gone.length k2.gc, .slice k2.s C2.sums.length k2.sc, .slice k2.b C2.binds.length k2.bc]) rfl rfl (by kernel_rfl) (by kernel_rfl) (by kernel_rfl) (by kernel_rfl) (fun _ _ _ h => h) hT1 (by rfl) (fun w hS => by have hS : Ext no w5 w := hS; have q0 := hS.keeps c0 (fun h => h); have q1 := hS.keeps c1 (fun h => h); have q2 := hS.keeps c2 (fun h => h); have q3 := hS.keeps c3 (fun h => h); have q4 := hS.keeps c4 (fun h => h); have q5 := hS.keeps c5 (fun h => h); go_simp) ?_
            simp only [Act.put, List.setIfInBounds_toArray, List.set_cons_zero, List.set_cons_succ]
            refine wpF_take 8 (v := ?_) rfl (by kernel_rfl) (by kernel_rfl) (by kernel_rfl) (fun _ _ _ h => h) hT1 (by rfl) ?_ ?_
            rotate_left
            · (intro wq; go_simp; try with_reducible rfl)
            simp only [Act.put, List.setIfInBounds_toArray, List.set_cons_zero, List.set_cons_succ]
            refine wpF_look 9 (v := .int .i64 (s1 + n)) rfl rfl (by kernel_rfl) (by kernel_rfl) (by kernel_rfl) (by kernel_rfl) (fun _ _ _ h => h) hT1 (by rfl) (fun w hS => by have hS : Ext no w5 w := hS; have q0 := hS.keeps y1 (fun h => h); go_simp) ?_
            simp only [Act.put, List.setIfInBounds_toArray, List.set_cons_zero, List.set_cons_succ]
            refine wpF_exec 7 rfl (by kernel_rfl) (by rfl) ?_
            intro K hK
            go_simp
            refine (cnt_any (wn1) C2 k2 [113] (hm5.s.rd.ext ((hxd5).comp hxn1) (fun _ _ h => h)) (by omega) hord).mono ?_
            rintro e wn7 ⟨rfl, hxn7⟩
            rw [Hq.out]
            have hT2 : ∀ k, looks [(0, fun z => Ext no w5 z), (3, fun z => Ext no w5 z), (6, fun z => Ext no w5 z), (9, fun z => Ext no w5 z), (13, fun z => Ext no w5 z)] k (wn7) := looks_all ⟨((hxd5).comp hxn1).comp hxn7, ((hxd5).comp hxn1).comp hxn7, ((hxd5).comp hxn1).comp hxn7, ((hxd5).comp hxn1).comp hxn7, ((hxd5).comp hxn1).comp hxn7, trivial⟩
            refine hK _ _ (looks [(0, fun z => Ext no w5 z), (3, fun z => Ext no w5 z), (6, fun z => Ext no w5 z), (9, fun z => Ext no w5 z), (13, fun z => Ext no w5 z)]) ⟨.inr (.inl (by kernel_rfl)), .inr (.inl (by kernel_rfl)), .inr (.inl (by kernel_rfl)), .inr (.inr (fun x h => h)), .inl (by kernel_rfl), trivial⟩ hT2 ?_
            clear hK K
            try simp only [Act.put, List.setIfInBounds_toArray, List.set_cons_zero, List.set_cons_succ]
            refine wpF_take 10 (v := .bool false) rfl (by kernel_rfl) (by kernel_rfl) (by kernel_rfl) (fun _ _ _ h => h) hT2 (by rfl) (by intro wq; go_simp; first | done | rfl | simp) ?_
            simp only [Act.put, List.setIfInBounds_toArray, List.set_cons_zero, List.set_cons_succ]
            refine wpF_take 11 (v := ?_) rfl (by kernel_rfl) (by kernel_rfl) (by kernel_rfl) (fun _ _ _ h => h) hT2 (by rfl) ?_ ?_
            rotate_left
            · (intro wq; go_simp; try with_reducible rfl)
            simp only [Act.put, List.setIfInBounds_toArray, List.set_cons_zero, List.set_cons_succ]
            refine wpF_take 12 (v := ?_) rfl (by kernel_rfl) (by kernel_rfl) (by kernel_rfl) (fun _ _ _ h => h) hT2 (by rfl) ?_ ?_
            rotate_left
            · (intro wq; go_simp; try with_reducible rfl)
            simp only [Act.put, List.setIfInBounds_toArray, List.set_cons_zero, List.set_cons_succ]
            refine wpF_look 13 (v := .agg #[.slice k2.v C2.v.length k2.vc, .slice k2.r C2.regs.length k2.rc, .slice k2.e C2.elems.length k2.ec, .slice k2.g C2.gone.length k2.gc, .slice k2.s C2.sums.length k2.sc, .slice k2.b C2.binds.length k2.bc]) rfl rfl (by kernel_rfl) (by kernel_rfl) (by kernel_rfl) (by kernel_rfl) (fun _ _ _ h => h) hT2 (by rfl) (fun w hS => by have hS : Ext no w5 w := hS; have q0 := hS.keeps c0 (fun h => h); have q1 := hS.keeps c1 (fun h => h); have q2 := hS.keeps c2 (fun h => h); have q3 := hS.keeps c3 (fun h => h); have q4 := hS.keeps c4 (fun h => h); have q5 := hS.keeps c5 (fun h => h); go_simp) ?_
            simp only [Act.put, List.setIfInBounds_toArray, List.set_cons_zero, List.set_cons_succ]
            refine wpF_exec 14 rfl (by kernel_rfl) (by rfl) ?_
            intro K hK
            go_simp
            refine (cnt_any (wn7) C2 k2 [114] (hm5.s.rd.ext (((hxd5).comp hxn1).comp hxn7) (fun _ _ h => h)) (by omega) hord).mono ?_
            rintro e wn14 ⟨rfl, hxn14⟩
            rw [Hr.out]
            have hT3 : ∀ k, looks [(0, fun z => Ext no w5 z), (3, fun z => Ext no w5 z), (6, fun z => Ext no w5 z), (9, fun z => Ext no w5 z), (13, fun z => Ext no w5 z)] k (wn14) := looks_all ⟨(((hxd5).comp hxn1).comp hxn7).comp hxn14, (((hxd5).comp hxn1).comp hxn7).comp hxn14, (((hxd5).comp hxn1).comp hxn7).comp hxn14, (((hxd5).comp hxn1).comp hxn7).comp hxn14, (((hxd5).comp hxn1).comp hxn7).comp hxn14, trivial⟩
            refine hK _ _ (looks [(0, fun z => Ext no w5 z), (3, fun z => Ext no w5 z), (6, fun z => Ext no w5 z), (9, fun z => Ext no w5 z), (13, fun z => Ext no w5 z)]) ⟨.inr (.inl (by kernel_rfl)), .inr (.inl (by kernel_rfl)), .inr (.inl (by kernel_rfl)), .inr (.inl (by kernel_rfl)), .inr (.inl (by kernel_rfl)), trivial⟩ hT3 ?_
            clear hK K
            try simp only [Act.put, List.setIfInBounds_toArray, List.set_cons_zero, List.set_cons_succ]
            refine wpF_take 15 (v := .bool false) rfl (by kernel_rfl) (by kernel_rfl) (by kernel_rfl) (fun _ _ _ h => h) hT3 (by rfl) (by intro wq; go_simp; first | done | rfl | simp) ?_
            simp only [Act.put, List.setIfInBounds_toArray, List.set_cons_zero, List.set_cons_succ]
            refine wpF_take 16 (v := ?_) rfl (by kernel_rfl) (by kernel_rfl) (by kernel_rfl) (fun _ _ _ h => h) hT3 (by rfl) ?_ ?_
            rotate_left
            · (intro wq; go_simp; try with_reducible rfl)
            simp only [Act.put, List.setIfInBounds_toArray, List.set_cons_zero, List.set_cons_succ]
            refine wpF_done (by kernel_rfl) ?_ _
            have hxn := (((hxd5).comp hxn1).comp hxn7).comp hxn14
            have hzn := hxn.size
            go_wp2_with fail
            go_roundw
            case rel => exact ⟨i + 1, C2, k2, s0, (s1 + n), by go_num, by omega, by omega, hcn2, hm5.no hxn, hC5.ext (by simp) hxn (fun h => h), hS5.ext (by simp) hxn (fun h => h), hx5.comp hxn, by omega⟩
            case measure => simp [intOf]; omega
    · have Hdone : i = ns.length ∨ i = 30 := by omega
      have htwo := hcn.two
      have t2 : decide ((C.sums.length : Int) ≤ 2) = true := decT (by omega)
      have t2' : decide (C.sums.length ≤ 2) = true := decT htwo
      have c4 := hC.cell 4 _ rfl
      clear hin
      by_cases h1 : i < ns.length
      · have d1 : decide (i < ns.length) = true := decT h1
        have d2 : decide ((i : Int) < 30) = false := decF (by omega)
        have h30 : ¬ i < 30 := by omega
        clear Hdone
        go_wp2_with fail
        go_ret
        exact ⟨rfl, hx⟩
      · have d1 : decide (i < ns.length) = false := decF h1
        clear Hdone
        go_wp2_with fail
        go_ret
        exact ⟨rfl, hx⟩
end Go.Proofs.Ytejmmkjpncpedaa
