/- The walk of the law FramesTurned. -/
import Derived.Test.YtfihjjbonahahaaFrO
import Derived.Test.YtfihjjbonahahaaFrP
import Derived.Test.YtfihjjbonahahaaRegionB
namespace Go.Proofs.Ytfihjjbonahahaa
open Go.RowKit Go.Esc
set_option linter.unusedVariables false

theorem fone_at3 (w : World) (a : Option Addr) (m c : Nat) (l : List UInt8) (hm : m = l.length) (hrd : Rd w a (bs l)) (hl : l.length ≤ 1099511627776) (hlc : l.length ≤ c) :
    Calls Try.prog 28 #[.slice a m c] w fun e w' => ∃ a' c', e = .returned (.tuple #[.slice a' (one l).1.length c', .int .i64 (one l).2]) ∧ Rd w' a' (bs (one l).1) ∧ Ext no w w' := by
  subst hm; exact fone_any w a c l hrd hl hlc
theorem fscan_at3 (w : World) (a : Option Addr) (m c : Nat) (l : List UInt8) (hm : m = l.length) (hrd : Rd w a (bs l)) (hl : l.length ≤ 1099511627776) (hlc : l.length ≤ c) (hcm : c ≤ maxLen) :
    Calls Try.prog 19 #[.slice a m c] w (ScanEnd w l) := by
  subst hm; exact fscan_any w a c l hrd hl hlc hcm
theorem flat_frames_le3 : ∀ L : List (List UInt8), (∀ l ∈ L, l.length ≤ 300) → (L.flatMap frame).length ≤ L.length * 308
  | [], _ => by simp
  | l :: L, h => by
    have h1 := h l (by simp)
    have h2 := flat_frames_le3 L (fun x hx => h x (by simp [hx]))
    rw [List.flatMap_cons, List.length_append, frame_length, List.length_cons, Nat.succ_mul]
    omega

theorem tdivn_ok (a : Int) (d : Nat) (h : I64ok a) (hd : 0 < d) : I64ok (a.tdiv (d : Int)) := by
  unfold I64ok at *
  have h1 := Int.natAbs_tdiv a d
  have h2 := Nat.div_le_self a.natAbs (d : Int).natAbs
  have h3 : (a.tdiv d).natAbs ≤ a.natAbs := by rw [h1]; exact h2
  by_cases h0 : 0 ≤ a
  · omega
  · have h4 := @Int.tdiv_eq_ediv a d
    have h5 : Int.sign (d : Int) = 1 := Int.sign_eq_one_of_pos (by omega)
    have h6 : a / (d : Int) < 0 := Int.ediv_neg_of_neg_of_pos (by omega) (by omega)
    rw [h5] at h4
    split at h4 <;> omega
/-- Where the k-th frame begins. -/
def startOf (L : List (List UInt8)) (k : Nat) : Nat := ((L.take k).flatMap frame).length
theorem startOf_succ (L : List (List UInt8)) (k : Nat) (h : k < L.length) : startOf L (k + 1) = startOf L k + 8 + L[k].length := by
  unfold startOf
  rw [List.take_succ_eq_append_getElem h, List.flatMap_append, List.flatMap_singleton, List.length_append, frame_length]
  omega
/-- A log one byte of whose hit-th frame is turned, behind its length. -/
theorem turned_log (L : List (List UInt8)) (hL : ∀ l ∈ L, l.length ≤ 300) (hit : Nat) (hh : hit < L.length) (j : Nat) (hj : j < 4 + L[hit].length) (x : UInt8) (hx : (L.flatMap frame)[startOf L hit + 4 + j]? ≠ some x) :
    scan ((L.flatMap frame).set (startOf L hit + 4 + j) x) = (L.take hit, startOf L hit) ∧ one ((((L.flatMap frame).set (startOf L hit + 4 + j) x).drop (startOf L hit)).take (8 + L[hit].length)) = ([], 10) ∧ startOf L hit + 8 + L[hit].length ≤ (L.flatMap frame).length := by
  have hl := hL L[hit] (by simp)
  have hfl := frame_length L[hit]
  have e : L.flatMap frame = (L.take hit).flatMap frame ++ (frame L[hit] ++ (L.drop (hit + 1)).flatMap frame) := by
    conv => lhs; rw [← List.take_append_drop hit L, List.drop_eq_getElem_cons hh]
    rw [List.flatMap_append, List.flatMap_cons]
  have hs : ((L.take hit).flatMap frame).length = startOf L hit := rfl
  have hx' : (frame L[hit])[4 + j]? ≠ some x := by
    intro h; apply hx
    rw [e, List.getElem?_append_right (by omega), hs, show startOf L hit + 4 + j - startOf L hit = 4 + j from by omega, List.getElem?_append_left (by omega)]
    exact h
  have e2 : (L.flatMap frame).set (startOf L hit + 4 + j) x = (L.take hit).flatMap frame ++ ((frame L[hit]).set (4 + j) x ++ (L.drop (hit + 1)).flatMap frame) := by
    rw [e, List.set_append_right _ _ (by omega), hs, show startOf L hit + 4 + j - startOf L hit = 4 + j from by omega, List.set_append_left _ _ (by omega)]
  refine ⟨?_, ?_, ?_⟩
  · rw [e2, scan_frames _ _ (fun b hb => by have := hL b (List.mem_of_mem_take hb); omega), scan_none (turned_at L[hit] _ (by omega) j hj x hx')]
    simp [hs]
  · rw [e2, List.drop_left' hs, List.take_left' (by rw [List.length_set]; omega)]
    exact turned_one L[hit] (by omega) j hj x hx'
  · rw [e]; simp only [List.length_append, hs]; omega

set_option maxRecDepth 100000 in
set_option maxHeartbeats 4000000 in
theorem turned_walk (w : World) (la : Option Addr) (ps : List Part) (lc : Nat) (at0 bit0 : Int)
    (hld : Rd w la (ps.map Part.v)) (hlg : ∀ p ∈ ps, p.good w) (hll : ps.length ≤ lc) (hlc : lc ≤ maxLen) (hat : I64ok at0) (hbit : I64ok bit0) :
    Calls Try.prog 5 #[.slice la ps.length lc, .int .i64 at0, .int .i64 bit0] w fun e w' => e = .returned (.bool true) ∧ Ext no w w' := by
  have Hlg := Lib.hid hlg
  have Hat := Lib.hid hat
  have Hbit := Lib.hid hbit
  clear hlg hat hbit
  have hlc' := hlc
  unfold maxLen at hlc'
  by_cases h0 : ps.length = 0
  · have d0 : ((ps.length : Int) == 0) = true := by rw [beq_iff_eq]; omega
    clear h0
    go_enter Try.func5, Try.ntmps5
    go_wp2_with fail
    refine (known_any w).mono ?_
    rintro e w1 ⟨rfl, hx1⟩
    go_wp2_with fail
    go_ret
    exact ⟨rfl, hx1⟩
  have d0 : ((ps.length : Int) == 0) = false := by rw [beq_eq_false_iff_ne]; omega
  have hps0 : 0 < ps.length := by omega
  clear h0
  go_enter Try.func5, Try.ntmps5
  go_wp2_with fail
  refine (known_any w).mono ?_
  rintro e w1 ⟨rfl, hx1⟩
  go_wp2_with fail
  refine (few_any w1 la lc ps (hld.ext hx1 (fun _ _ h => h)) hll hlc).mono ?_
  rintro e w2 ⟨rfl, rfl⟩
  by_cases hf : fewB (ps.map Part.l) = true
  rotate_left
  · have hf' : fewB (ps.map Part.l) = false := by simpa using hf
    rw [hf']
    clear hf hf'
    go_wp2_with fail
    go_ret
    exact ⟨rfl, hx1⟩
  rw [hf]
  obtain ⟨hf1, hf2⟩ := fewB_of hf
  have Hf1 := Lib.hid (show ∀ p ∈ ps, p.l.length ≤ 300 from fun p hp => hf1 _ (List.mem_map.2 ⟨p, hp, rfl⟩))
  have h10 : ps.length ≤ 10 := by simpa using hf2
  have hMl := flat_frames_le3 _ hf1
  rw [List.length_map] at hMl
  have Hf1' := Lib.hid hf1
  clear hf hf1 hf2
  obtain ⟨hit, hhit⟩ : ∃ k : Nat, at0 % (ps.length : Int) = k := ⟨(at0 % (ps.length : Int)).toNat, by have := Int.emod_nonneg at0 (show (ps.length : Int) ≠ 0 by omega); omega⟩
  have hhl : hit < ps.length := by have := Int.emod_lt_of_pos at0 (show (0 : Int) < ps.length by omega); omega
  have Hhit := Lib.hid hhit
  clear hhit
  go_wp2_with fail
  refine (within_any at0 ps.length w1 (by omega) (by omega) Hat.out).mono ?_
  rintro e w2 ⟨rfl, rfl⟩
  rw [Hhit.out]
  go_wp2_with fail
  refine (log_any w1 la lc ps (hld.ext hx1 (fun _ _ h => h)) (fun p hp => ((Hlg.out p hp).1).ext hx1 (fun _ _ h => h)) h10 Hf1.out).mono ?_
  rintro e w2 ⟨a2, c2, rfl, hown2, hx2⟩
  have hx02 := hx1.comp hx2
  have hown := hown2.mono hx1.size
  have hM : ((ps.map Part.l).flatMap frame).length ≤ 3080 := by omega
  obtain ⟨L, hL⟩ : ∃ L, L = ps.map Part.l := ⟨_, rfl⟩
  have hLl : L.length = ps.length := by rw [hL]; simp
  have hhL : hit < L.length := by omega
  rw [← hL] at hM hown Hf1' ⊢
  have Hturn := Lib.hid (turned_log L Hf1'.out hit hhL)
  have Hss := Lib.hid (startOf_succ L)
  have Hstep := Lib.hid (show ∀ k (h : k < ps.length), startOf L (k + 1) = startOf L k + 8 + ps[k].l.length from fun k h => by
    rw [Hss.out k (by omega)]; simp only [hL, List.getElem_map])
  have hpl : L[hit].length = ps[hit].l.length := by simp only [hL, List.getElem_map]
  have Hpl := Lib.hid hpl
  have HL := Lib.hid hL
  have HLl := Lib.hid hLl
  have Hsle := Lib.hid (show ∀ k, k ≤ 10 → startOf L k ≤ 3080 from fun k hk => by
    unfold startOf
    have := flat_frames_le3 (L.take k) (fun l hl => Hf1'.out l (List.mem_of_mem_take hl))
    rw [List.length_take] at this
    omega)
  clear hx1 hx2 hown2 hMl hL hLl hpl
  generalize L.flatMap frame = M at *
  go_wp2_with fail
  go_loopw [9, 10] (fun s9 s10 wr => ∃ k : Nat, k ≤ hit ∧ s10 = .int .i64 k ∧ s9 = .int .i64 (startOf L k) ∧ wr = w2) (fun _ s10 _ => hit - (intOf s10).toNat)
  case atStart => exact ⟨0, Nat.zero_le _, rfl, by simp [startOf], rfl⟩
  case round =>
    obtain ⟨k, hk, rfl, rfl, rfl⟩ := hrel
    by_cases hlt : k < hit
    · have hkp : k < ps.length := by omega
      obtain ⟨ad, rfl, _⟩ := hld.ne (by simp; omega)
      have hcell := hx02.keeps (hld.cell k (by simpa using hkp)) (fun h => h)
      rw [List.getElem_map, Part.v] at hcell
      have hp3 := Hf1.out ps[k] (by simp)
      have hsk := Hsle.out k (by omega)
      have Hst := Lib.hid (Hstep.out k hkp)
      generalize ps[k] = p at *
      go_wp2_with fail
      go_roundw
      case rel => exact ⟨k + 1, by omega, by go_num, by rw [Hst.out]; go_num, trivial⟩
      case measure => simp [intOf]; omega
    · obtain rfl : k = hit := by omega
      obtain ⟨ad, rfl, _⟩ := hld.ne (by simp; omega)
      have hcell := hx02.keeps (hld.cell k (by simpa using hhl)) (fun h => h)
      rw [List.getElem_map, Part.v] at hcell
      have hp3 := Hf1.out ps[k] (by simp)
      have hsk := Hsle.out k (by omega)
      have hpl := Hpl.out
      have hT := Hturn.out
      rw [hpl] at hT
      have hcw := hld.cell k (by simpa using hhl)
      rw [List.getElem_map, Part.v] at hcw
      have HT := Lib.hid hT
      clear hpl hT
      generalize ps[k] = p at *
      obtain ⟨j, hj⟩ : ∃ j : Nat, at0.tdiv (ps.length : Int) % (4 + (p.l.length : Int)) = j := ⟨(at0.tdiv (ps.length : Int) % (4 + (p.l.length : Int))).toNat, by have := Int.emod_nonneg (at0.tdiv (ps.length : Int)) (show (4 + (p.l.length : Int)) ≠ 0 by omega); omega⟩
      have hjl : j < 4 + p.l.length := by have := Int.emod_lt_of_pos (at0.tdiv (ps.length : Int)) (show (0 : Int) < 4 + (p.l.length : Int) by omega); omega
      have Hj := Lib.hid hj
      have Hq := Lib.hid (tdivn_ok at0 ps.length Hat.out (by omega))
      have hw : wrap64 (at0.tdiv (ps.length : Int)) = at0.tdiv (ps.length : Int) := by have := Hq.out; unfold wrap64; unfold I64ok at this; omega
      clear hj
      go_wp2_with fail
      refine (within_any (at0.tdiv (ps.length : Int)) (4 + (p.l.length : Int)) wr (by omega) (by omega) Hq.out).mono ?_
      rintro e w3 ⟨rfl, rfl⟩
      rw [Hj.out]
      obtain ⟨t, ht⟩ : ∃ t : Nat, bit0 % 8 = t := ⟨(bit0 % 8).toNat, by omega⟩
      have ht8 : t < 8 := by omega
      have Ht := Lib.hid ht
      clear ht
      have hkM : startOf L k + 4 + j < M.length := by
        by_cases hh : ∃ x : UInt8, M[startOf L k + 4 + j]? ≠ some x
        · obtain ⟨x, hx⟩ := hh
          have := (HT.out j hjl x hx).2.2
          omega
        · exfalso
          have h1 : M[startOf L k + 4 + j]? = some 0 := Classical.byContradiction fun h => hh ⟨0, h⟩
          have h2 : M[startOf L k + 4 + j]? = some 1 := Classical.byContradiction fun h => hh ⟨1, h⟩
          rw [h1] at h2; cases h2
      obtain ⟨bad, rfl, hblt⟩ := hown.rd.ne (by rw [bs_length]; omega)
      have hbc := hown.rd.cell (startOf L k + 4 + j) (by simpa using hkM)
      rw [show (bs M)[startOf L k + 4 + j]'(by simpa using hkM) = .int .u8 M[startOf L k + 4 + j].toNat from by simp [bs, B8]] at hbc
      have hbf : wr.frozen? (bad.add (startOf L k + 4 + j)) = false := by
        obtain ⟨_, e, _, f⟩ := hown.can (startOf L k + 4 + j) (by have := hown.nc; omega)
        cases e; exact f
      have hMx : M[startOf L k + 4 + j]? = some M[startOf L k + 4 + j] := List.getElem?_eq_getElem hkM
      have HMx := Lib.hid hMx
      clear hMx
      generalize M[startOf L k + 4 + j] = x at *
      obtain ⟨i, hi⟩ : ∃ i, i = startOf L k + 4 + j := ⟨_, rfl⟩
      have Hi := Lib.hid hi
      have hii : ((startOf L k : Int) + 4 + (j : Int)) = ((i : Nat) : Int) := by omega
      have hiM : i < M.length := by omega
      rw [← hi] at hbc hbf
      clear hi hkM
      have hb1 := x.toNat_lt
      have hp2 : 2 ^ t < 256 := Nat.pow_lt_pow_right (by decide) ht8
      have hxl : x.toNat ^^^ 2 ^ t < 256 := Nat.xor_lt_two_pow (n := 8) hb1 hp2
      obtain ⟨z, hz⟩ : ∃ z : UInt8, z.toNat = x.toNat ^^^ 2 ^ t := ⟨b8 (x.toNat ^^^ 2 ^ t), b8_toNat _ hxl⟩
      have Hzx := Lib.hid (show z ≠ x from fun h => by
        rw [h] at hz
        have h1 : x.toNat ^^^ 0 = x.toNat ^^^ 2 ^ t := by rw [Nat.xor_zero]; exact hz
        have h2 := xor_cancel' h1
        have : 0 < 2 ^ t := Nat.pow_pos (by decide)
        omega)
      have HP := Lib.hid (show (0 : Int) ≤ 2 ^ t ∧ (2 : Int) ^ t < 256 from by
        have h1 : ((2 ^ t : Nat) : Int) = 2 ^ t := by simp
        exact ⟨Int.le_of_lt (Int.pow_pos (by decide)), by rw [← h1]; omega⟩)
      have Hz := Lib.hid (show bits .xor .u8 (x.toNat : Int) ((2 ^ t : Nat) : Int) = (z.toNat : Int) by rw [u8_xor_nat _ _ hb1 hp2, hz])
      clear hz
      go_upto_region 14 with fail
      --<A
      refine wp_region_E [3] (fun x => x = wr.drew) (by kernel_rfl) ?_
      refine wpE_take 0 (v := ?_) rfl (by kernel_rfl) (by kernel_rfl) (by kernel_rfl) (fun _ _ _ h => h) (rfl : wr.drew = wr.drew) (by rfl) ?_ ?_
      rotate_left
      · (intro wq; go_simp; try with_reducible rfl)
      simp only [Act.put, List.setIfInBounds_toArray, List.set_cons_zero, List.set_cons_succ]
      refine wpE_take 1 (v := ?_) rfl (by kernel_rfl) (by kernel_rfl) (by kernel_rfl) (fun _ _ _ h => h) (rfl : wr.drew = wr.drew) (by rfl) ?_ ?_
      rotate_left
      · (intro wq; go_simp; try with_reducible rfl)
      simp only [Act.put, List.setIfInBounds_toArray, List.set_cons_zero, List.set_cons_succ]
      refine wpE_take 2 (v := ?_) rfl (by kernel_rfl) (by kernel_rfl) (by kernel_rfl) (fun _ _ _ h => h) (rfl : wr.drew = wr.drew) (by rfl) ?_ ?_
      rotate_left
      · (intro wq; go_simp; try with_reducible rfl)
      simp only [Act.put, List.setIfInBounds_toArray, List.set_cons_zero, List.set_cons_succ]
      refine wpE_look 3 (v := .int .u8 x.toNat) rfl rfl (by kernel_rfl) (by kernel_rfl) (by kernel_rfl) (by kernel_rfl) (fun _ _ _ h => h) (rfl : wr.drew = wr.drew) (by rfl) (fun w hS => by subst hS; go_simp) ?_
      simp only [Act.put, List.setIfInBounds_toArray, List.set_cons_zero, List.set_cons_succ]
      refine wpE_take 4 (v := ?_) rfl (by kernel_rfl) (by kernel_rfl) (by kernel_rfl) (fun _ _ _ h => h) (rfl : wr.drew = wr.drew) (by rfl) ?_ ?_
      rotate_left
      · (intro wq; go_simp; try with_reducible rfl)
      simp only [Act.put, List.setIfInBounds_toArray, List.set_cons_zero, List.set_cons_succ]
      refine wpE_exec 5 rfl (by kernel_rfl) (by rfl) ?_
      intro K hK
      go_simp
      refine (within_any bit0 8 wr.drew (by omega) (by omega) Hbit.out).mono ?_
      rintro e w7 ⟨rfl, rfl⟩
      rw [Ht.out]
      have hS1 := (rfl : wr.drew = wr.drew)
      refine hK _ _ (fun x => x = wr.drew) (.inr (fun x h => h)) hS1 ?_
      clear hK K
      refine wpE_take 6 (v := .int .u64 t) rfl (by kernel_rfl) (by kernel_rfl) (by kernel_rfl) (fun _ _ _ h => h) hS1 (by rfl) (by intro wq; go_simp; rw [IntKind.wrap_u64]; omega) ?_
      simp only [Act.put, List.setIfInBounds_toArray, List.set_cons_zero, List.set_cons_succ]
      refine wpE_take 7 (v := .int .u8 (2 ^ t : Nat)) rfl (by kernel_rfl) (by kernel_rfl) (by kernel_rfl) (fun _ _ _ h => h) hS1 (by rfl) (by intro wq; go_simp; rw [IntKind.wrap_u8']; exact Int.emod_eq_of_lt HP.out.1 HP.out.2) ?_
      simp only [Act.put, List.setIfInBounds_toArray, List.set_cons_zero, List.set_cons_succ]
      refine wpE_take 8 (v := .int .u8 z.toNat) rfl (by kernel_rfl) (by kernel_rfl) (by kernel_rfl) (fun _ _ _ h => h) hS1 (by rfl) (by intro wq; go_simp; exact Hz.out) ?_
      simp only [Act.put, List.setIfInBounds_toArray, List.set_cons_zero, List.set_cons_succ]
      refine wpE_take 9 (v := ?_) rfl (by kernel_rfl) (by kernel_rfl) (by kernel_rfl) (fun _ _ _ h => h) hS1 (by rfl) ?_ ?_
      rotate_left
      · (intro wq; go_simp; try with_reducible rfl)
      simp only [Act.put, List.setIfInBounds_toArray, List.set_cons_zero, List.set_cons_succ]
      refine wpE_exec 10 rfl (by kernel_rfl) (by rfl) ?_
      intro K hK
      go_simp
      have hS2 := trivial
      refine hK _ _ (fun x => True) (.inl (by kernel_rfl)) hS2 ?_
      clear hK K
      refine wpE_done (by kernel_rfl) ?_ _
      have hset : Own (wr.setCell (bad.add i) (.int .u8 z.toNat)).drew w.heap.size (some bad) 1 M.length c2 (bs (M.set i z)) := by
        have := (hown.set i (by omega) (B8 z)).drew
        rw [bs_set] at this; exact this
      have hx8 : Ext no w (wr.setCell (bad.add i) (.int .u8 z.toNat)).drew := (hx02.trans (Ext.setCell (S := just bad.block) _ _ _ (add_block _ _)) (fun q hq h => by have := (hown.base bad rfl).1; simp only [Esc.just] at h; omega)).comp (Ext.drew no _)
      have hT := HT.out j hjl z (by rw [HMx.out]; exact fun h => Hzx.out (by cases h; rfl))
      rw [← Hi.out] at hT
      obtain ⟨t1, t2, t3⟩ := hT
      have hMl : (M.set i z).length = M.length := by simp
      go_wp2_with fail
      generalize (wr.setCell (bad.add i) (.int .u8 z.toNat)).drew = w8 at *
      generalize M.set i z = N at *
      have T1 := Lib.hid t1
      have T2 := Lib.hid t2
      have HMl := Lib.hid hMl
      clear t1 t2 hMl hown hx02 hbc hbf
      have hcm := hset.cm
      have hcn := hset.nc
      have hNd := hset.rd
      refine (fscan_at3 w8 (some bad) M.length c2 N HMl.out.symm hNd (by rw [HMl.out]; omega) (by rw [HMl.out]; exact hcn) hcm).mono ?_
      rintro e w9 ⟨xa, xc, rfl, hL9, hx9⟩
      have htl : (L.take k).length = k := by rw [List.length_take, HLl.out]; omega
      have Htl := Lib.hid htl
      clear htl
      rw [T1.out] at hL9 ⊢
      rw [show ((L.take k, startOf L k) : List (List UInt8) × Nat).1.length = k from Htl.out]
      have hx09 := hx8.comp hx9
      have hcell9 := hx09.keeps hcw (fun h => h)
      have hNd9 : Rd w9 (cutAt (some bad) c2 (startOf L k) 1) (bs ((N.drop (startOf L k)).take (8 + p.l.length))) := by
        have := ((hNd.ext hx9 (fun _ _ h => h)).cutB c2 (startOf L k) (by rw [HMl.out]; exact hcn)).take (8 + p.l.length)
        rw [bs_take] at this; exact this
      have cutx : ∀ w, (Instr.sliceAt 23 (.slice (some bad) M.length c2) (some (.int .i64 (startOf L k : Int))) (some (.int .i64 ((startOf L k : Int) + 8 + (p.l.length : Int)))) none).run Try.prog w = .ok (.slice (cutAt (some bad) c2 (startOf L k) 1) (startOf L k + 8 + p.l.length - startOf L k) (c2 - startOf L k)) w := fun w => run_cut_lh TBytes w (some bad) M.length c2 .i64 .i64 (startOf L k) (startOf L k + 8 + p.l.length) (by omega) (by omega)
      rw [show startOf L k + 8 + p.l.length - startOf L k = 8 + p.l.length from by omega] at cutx
      have Hlen := Lib.hid (show 8 + p.l.length = ((N.drop (startOf L k)).take (8 + p.l.length)).length by rw [List.length_take, List.length_drop, HMl.out]; omega)
      go_wp2_with fail
      refine (fone_at3 w9 (cutAt (some bad) c2 (startOf L k) 1) (8 + p.l.length) (c2 - startOf L k) ((N.drop (startOf L k)).take (8 + p.l.length)) Hlen.out hNd9 (by rw [← Hlen.out]; omega) (by rw [← Hlen.out]; omega)).mono ?_
      rintro e w10 ⟨oa, oc, rfl, _, hx10⟩
      rw [T2.out]
      have hx010 := hx09.comp hx10
      have cutl : ∀ w, (Instr.sliceAt 22 (.slice (some ad) ps.length lc) none (some (.int .i64 (k : Int))) none).run Try.prog w = .ok (.slice (some ad) k lc) w := fun w => run_cut_h TRows w (some ad) ps.length lc .i64 k (by omega)
      have hLa : Lists w10 (some ad) (L.take k) := ⟨ps.take k, by rw [HL.out, List.map_take], by rw [List.map_take]; exact (hld.ext hx010 (fun _ _ h => h)).take k, fun q hq => ((Hlg.out q (List.mem_of_mem_take hq)).1).ext hx010 (fun _ _ h => h)⟩
      have hLx := hL9.ext hx10
      clear cutx hNd9 hL9 hx9 hx10
      go_wp2_with fail
      refine (rows_any w10 xa (some ad) xc lc k k (L.take k) (L.take k) Htl.out.symm Htl.out.symm hLx hLa (by rw [Htl.out]; omega) (by rw [Htl.out]; omega)).mono ?_
      rintro e w11 ⟨rfl, hx11⟩
      rw [decide_eq_true rfl]
      go_wp2_with fail
      go_ret
      exact ⟨rfl, hx010.comp hx11⟩
      -->A
end Go.Proofs.Ytfihjjbonahahaa
