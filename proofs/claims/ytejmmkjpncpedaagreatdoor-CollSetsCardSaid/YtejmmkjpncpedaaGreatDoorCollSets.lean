/- The walk of CollSets. -/
import Derived.Test.YtejmmkjpncpedaaGreatDoorMeC
namespace Go.Proofs.YtejmmkjpncpedaaGreatDoor
open Go.RowKit Go.Esc
set_option linter.unusedVariables false
set_option linter.unusedSimpArgs false

theorem pqr_cell : ∀ n, n < 3 → ([.string { data := #[112] }, .string { data := #[113] }, .string { data := #[114] }] : List Value)[n]? = some (.string (str (pqr n))) := by
  intro n hn
  rcases (show n = 0 ∨ n = 1 ∨ n = 2 by omega) with rfl | rfl | rfl <;> rfl
theorem pqr_one (n : Nat) : (pqr n).length = 1 := by
  match n with
  | 0 => rfl
  | 1 => rfl
  | n + 2 => rfl
set_option maxRecDepth 100000 in
set_option maxHeartbeats 8000000 in
theorem csets_walk (w : World) (a : Option Addr) (ns : List Int) (c : Nat) (sn : Int) (hr : Rd w a (is ns)) (hok : ∀ n ∈ ns, I64ok n) (hlc : ns.length ≤ c) (hcm : c ≤ maxLen) (hsn : I64ok sn) :
    Calls Tryz.prog 5 #[.slice a ns.length c, .int .i64 sn] w fun e w' => e = .returned (.bool true) ∧ Ext no w w' := by
  unfold maxLen at hcm
  go_enter Tryz.func5, Tryz.ntmps5
  go_wp2_with fail
  refine (known_any w).mono ?_
  rintro e w0 ⟨rfl, hx0⟩
  go_upto_region 4 with fail
  have hC0 := Blk.at w0 #[.slice none 0 0, .slice none 0 0, .slice none 0 0, .slice none 0 0, .slice none 0 0, .slice none 0 0] 31 w0.heap.size rfl
  have hx1 := hx0.comp (Ext.alloc no w0 (.cells #[.slice none 0 0, .slice none 0 0, .slice none 0 0, .slice none 0 0, .slice none 0 0, .slice none 0 0] 31))
  have hz0 := hx0.size
  clear hx0
  generalize w0.alloc (.cells #[.slice none 0 0, .slice none 0 0, .slice none 0 0, .slice none 0 0, .slice none 0 0, .slice none 0 0] 31) = w1 at *
  have hz1 := hC0.lt (by simp)
  obtain ⟨g, hg⟩ : ∃ g, g = w0.heap.size := ⟨_, rfl⟩
  rw [← hg] at hC0 hz1 hz0 ⊢
  clear hg w0
  obtain ⟨B, hB⟩ : ∃ B, B = g + 1 := ⟨_, rfl⟩
  go_wp2_with fail
  go_loopw [6, 7] (fun s6 s7 wr => ∃ (i : Nat) (C : CollR) (k : Six), s6 = .int .i64 i ∧ s7 = .int .i64 i ∧ i ≤ 20 ∧ i ≤ ns.length ∧ Adds i C ∧ Mine C wr B k ∧ Blk wr g [.slice k.v C.v.length k.vc, .slice k.r C.regs.length k.rc, .slice k.e C.elems.length k.ec, .slice k.g C.gone.length k.gc, .slice k.s C.sums.length k.sc, .slice k.b C.binds.length k.bc] ∧ Ext no w wr ∧ B ≤ wr.heap.size) (fun s6 _ _ => 20 - (intOf s6).toNat)
  case atStart => exact ⟨0, CollR.nil, six0, rfl, rfl, by omega, by omega, adds_nil, nil_mine _ _, hC0, hx1, by omega⟩
  case round =>
    clear hC0 hx1 hz1
    obtain ⟨i, C, k, rfl, rfl, hi20, hil, hcn, hm, hC, hx, hz⟩ := hrel
    by_cases hin : i < ns.length ∧ i < 20
    · have d1 : decide (i < ns.length) = true := decT hin.1
      have d2 : decide ((i : Int) < 20) = true := decT (by omega)
      obtain ⟨q, hq⟩ : ∃ q, ns[i]? = some q := ⟨_, List.getElem?_eq_getElem hin.1⟩
      have hqok := hok q (List.mem_of_getElem? hq)
      obtain ⟨ad, rfl, _⟩ := hr.ne (by simp; omega)
      have hkc : wr.cell? (ad.add i) = some (.int .i64 q) := hx.keeps (hr.get (j := i) (v := .int .i64 q) (by simp [is, I64, hq])) (fun h => h)
      have hi1 := hin.1
      have hi2 := hin.2
      clear hin hq
      obtain ⟨kk, hkk⟩ : ∃ kk : Nat, q % 3 = kk := ⟨(q % 3).toNat, by omega⟩
      have hk3 : kk < 3 := by omega
      have kin := fun wz => cowithin_any q 3 wz (by omega) (by omega) hqok
      rw [hkk] at kin
      clear hkk
      obtain ⟨tx, htx⟩ : ∃ tx, tx = pqr kk := ⟨_, rfl⟩
      have Hkl := Lib.hid (show ([.string { data := #[112] }, .string { data := #[113] }, .string { data := #[114] }] : List Value)[kk]? = some (.string (str tx)) by rw [htx]; exact pqr_cell kk hk3)
      have htok : textOk tx = true := by rw [htx]; exact pqr_ok kk hk3
      have htl : tx.length ≤ 1 := by rw [htx, pqr_one]; omega
      have hstep := hcn.step (by omega) tx htok htl
      have Htok := Lib.hid htok
      clear htx htok
      have hsm := hcn.sm.mono (show 8 * i ≤ 1099511627000 by omega)
      have hokC := hcn.fine.ok
      obtain ⟨m, hmv⟩ : ∃ m : Int, (i : Int) + 1 = m := ⟨_, rfl⟩
      have hop : addOp 0 (i + 1) tx = ⟨⟨0, 1, m⟩, 0, 3, 2, [107], tx, 0, 0, []⟩ := by rw [← hmv]; rfl
      rw [hop] at hstep
      obtain ⟨herr, hcn2⟩ := hstep
      have Herr := Lib.hid herr
      obtain ⟨C2, hC2⟩ : ∃ C2, C2 = applyC C ⟨⟨0, 1, m⟩, 0, 3, 2, [107], tx, 0, 0, []⟩ := ⟨_, rfl⟩
      rw [← hC2] at hcn2
      have HC2 := Lib.hid hC2.symm
      have Hmv := Lib.hid hmv
      clear herr hC2 hop
      have c0 := hC.cell 0 _ rfl
      have c1 := hC.cell 1 _ rfl
      have c2 := hC.cell 2 _ rfl
      have c3 := hC.cell 3 _ rfl
      have c4 := hC.cell 4 _ rfl
      have c5 := hC.cell 5 _ rfl
      go_upto_region 9 with fail
      clear hmv
      refine wp_region_F [0, 7, 10] (looks [(0, fun z => Ext no wr z), (7, fun z => Ext no wr z), (10, fun z => True)]) (by kernel_rfl) ?_
      have hxd0 := Ext.drew no wr
      generalize wr.drew = wd at *
      have hT0 : ∀ k, looks [(0, fun z => Ext no wr z), (7, fun z => Ext no wr z), (10, fun z => True)] k (wd) := looks_all ⟨hxd0, hxd0, trivial, trivial⟩
      refine wpF_look 0 (v := .agg #[.slice k.v C.v.length k.vc, .slice k.r C.regs.length k.rc, .slice k.e C.elems.length k.ec, .slice k.g C.gone.length k.gc, .slice k.s C.sums.length k.sc, .slice k.b C.binds.length k.bc]) rfl rfl (by kernel_rfl) (by kernel_rfl) (by kernel_rfl) (by kernel_rfl) (fun _ _ _ h => h) hT0 (by rfl) (fun w hS => by have hS : Ext no wr w := hS; have q0 := hS.keeps c0 (fun h => h); have q1 := hS.keeps c1 (fun h => h); have q2 := hS.keeps c2 (fun h => h); have q3 := hS.keeps c3 (fun h => h); have q4 := hS.keeps c4 (fun h => h); have q5 := hS.keeps c5 (fun h => h); go_simp) ?_
      simp only [Act.put, List.setIfInBounds_toArray, List.set_cons_zero, List.set_cons_succ]
      refine wpF_take 1 (v := ?_) rfl (by kernel_rfl) (by kernel_rfl) (by kernel_rfl) (fun _ _ _ h => h) hT0 (by rfl) ?_ ?_
      rotate_left
      · (intro wq; go_simp; try with_reducible rfl)
      simp only [Act.put, List.setIfInBounds_toArray, List.set_cons_zero, List.set_cons_succ]
      refine wpF_take 2 (v := ?_) rfl (by kernel_rfl) (by kernel_rfl) (by kernel_rfl) (fun _ _ _ h => h) hT0 (by rfl) ?_ ?_
      rotate_left
      · (intro wq; go_simp; try with_reducible rfl)
      simp only [Act.put, List.setIfInBounds_toArray, List.set_cons_zero, List.set_cons_succ]
      refine wpF_take 4 (v := ?_) rfl (by kernel_rfl) (by kernel_rfl) (by kernel_rfl) (fun _ _ _ h => h) hT0 (by rfl) ?_ ?_
      rotate_left
      · (intro wq; go_simp; try with_reducible rfl)
      simp only [Act.put, List.setIfInBounds_toArray, List.set_cons_zero, List.set_cons_succ]
      refine wpF_take 5 (v := ?_) rfl (by kernel_rfl) (by kernel_rfl) (by kernel_rfl) (fun _ _ _ h => h) hT0 (by rfl) ?_ ?_
      rotate_left
      · (intro wq; go_simp; try with_reducible rfl)
      simp only [Act.put, List.setIfInBounds_toArray, List.set_cons_zero, List.set_cons_succ]
      refine wpF_take 6 (v := .pointer (some (ad.add i))) rfl (by kernel_rfl) (by kernel_rfl) (by kernel_rfl) (fun _ _ _ h => h) hT0 (by rfl) (by intro wq; go_simp) ?_
      simp only [Act.put, List.setIfInBounds_toArray, List.set_cons_zero, List.set_cons_succ]
      refine wpF_look 7 (v := .int .i64 q) rfl rfl (by kernel_rfl) (by kernel_rfl) (by kernel_rfl) (by kernel_rfl) (fun _ _ _ h => h) hT0 (by rfl) (fun w hS => by have hS : Ext no wr w := hS; have q0 := hS.keeps hkc (fun h => h); go_simp) ?_
      simp only [Act.put, List.setIfInBounds_toArray, List.set_cons_zero, List.set_cons_succ]
      refine wpF_call 8 (v := .int .i64 kk) 8 #[.int .i64 q, .int .i64 3] rfl (by kernel_rfl) (by kernel_rfl) (by kernel_rfl) (fun _ _ _ h => h) hT0 (by rfl) (by intro wq; go_simp; try with_reducible rfl) (kin) ?_
      simp only [Act.put, List.setIfInBounds_toArray, List.set_cons_zero, List.set_cons_succ]
      refine wpF_exec 3 rfl (by kernel_rfl) (by rfl) ?_
      intro K hK
      go_simp
      have hK0 := Blk.at (wd) #[.string { data := #[112] }, .string { data := #[113] }, .string { data := #[114] }] 9 (wd.heap.size) rfl
      have hxK := Ext.alloc no (wd) (.cells #[.string { data := #[112] }, .string { data := #[113] }, .string { data := #[114] }] 9)
      obtain ⟨sb, hsbe⟩ : ∃ sb, sb = wd.heap.size := ⟨_, rfl⟩
      rw [← hsbe] at hK0 ⊢
      generalize (wd).alloc (.cells #[.string { data := #[112] }, .string { data := #[113] }, .string { data := #[114] }] 9) = wA at *
      clear hsbe
      have hsk : wA.cell? ⟨sb, kk, none⟩ = some (.string (str tx)) := hK0.cell kk _ Hkl.out
      have hzK := hxK.size
      have hT1 : ∀ k, looks [(0, fun z => Ext no wr z), (7, fun z => Ext no wr z), (10, fun z => Ext no wA z)] k (wA) := looks_all ⟨(hxd0).comp hxK, (hxd0).comp hxK, Ext.refl _ _, trivial⟩
      refine hK _ _ (looks [(0, fun z => Ext no wr z), (7, fun z => Ext no wr z), (10, fun z => Ext no wA z)]) ⟨.inr (.inr (fun x h => h)), .inr (.inr (fun x h => h)), .inl (by kernel_rfl), trivial⟩ hT1 ?_
      clear hK K
      try simp only [Act.put, List.setIfInBounds_toArray, List.set_cons_zero, List.set_cons_succ]
      refine wpF_take 9 (v := .pointer (some ⟨sb, kk, none⟩)) rfl (by kernel_rfl) (by kernel_rfl) (by kernel_rfl) (fun _ _ _ h => h) hT1 (by rfl) (by intro wq; go_simp; first | done | (intro hh; exfalso; omega)) ?_
      simp only [Act.put, List.setIfInBounds_toArray, List.set_cons_zero, List.set_cons_succ]
      refine wpF_look 10 (v := .string (str tx)) rfl rfl (by kernel_rfl) (by kernel_rfl) (by kernel_rfl) (by kernel_rfl) (fun _ _ _ h => h) hT1 (by rfl) (fun w hS => by have hS : Ext no wA w := hS; have q0 := hS.keeps hsk (fun h => h); go_simp) ?_
      simp only [Act.put, List.setIfInBounds_toArray, List.set_cons_zero, List.set_cons_succ]
      refine wpF_take 11 (v := ?_) rfl (by kernel_rfl) (by kernel_rfl) (by kernel_rfl) (fun _ _ _ h => h) hT1 (by rfl) ?_ ?_
      rotate_left
      · (intro wq; go_simp; try with_reducible rfl)
      simp only [Act.put, List.setIfInBounds_toArray, List.set_cons_zero, List.set_cons_succ]
      refine wpF_exec 12 rfl (by kernel_rfl) (by rfl) ?_
      intro K hK
      go_simp
      refine (apply_any (wA) C k ⟨⟨0, 1, m⟩, 0, 3, 2, [107], tx, 0, 0, []⟩ none 0 (hm.isIn.ext ((hxd0).comp hxK)) hsm hokC (Rd.nil _ _) (Nat.zero_le _) (by show 1 ≤ maxLen; decide) (by show tx.length ≤ maxLen; unfold maxLen; omega)).mono ?_
      rintro e wB ⟨k2, rfl, hmB, hxB⟩
      rw [HC2.out] at hmB ⊢
      rw [Herr.out]
      unfold CollR.val
      have hzB := hxB.size
      have hCB := hC.ext (by simp) (((hxd0).comp hxK).comp hxB) (fun h => h)
      have hxW := (show Ext no wr wB from ((hxd0).comp hxK).comp hxB)
      have hzW := hxW.size
      have hzV := (show Ext no wr (wA) from (hxd0).comp hxK).size
      have hT2 : ∀ k, looks [(0, fun z => Ext no wr z), (7, fun z => Ext no wr z), (10, fun z => Ext no wA z)] k (wB) := looks_all ⟨((hxd0).comp hxK).comp hxB, ((hxd0).comp hxK).comp hxB, (Ext.refl _ _).comp hxB, trivial⟩
      refine hK _ _ (looks [(0, fun z => Ext no wr z), (7, fun z => Ext no wr z), (10, fun z => Ext no wA z)]) ⟨.inr (.inl (by kernel_rfl)), .inr (.inl (by kernel_rfl)), .inr (.inl (by kernel_rfl)), trivial⟩ hT2 ?_
      clear hK K
      try simp only [Act.put, List.setIfInBounds_toArray, List.set_cons_zero, List.set_cons_succ]
      refine wpF_take 13 (v := ?_) rfl (by kernel_rfl) (by kernel_rfl) (by kernel_rfl) (fun _ _ _ h => h) hT2 (by rfl) ?_ ?_
      rotate_left
      · (intro wq; go_simp; try with_reducible rfl)
      simp only [Act.put, List.setIfInBounds_toArray, List.set_cons_zero, List.set_cons_succ]
      refine wpF_take 14 (v := ?_) rfl (by kernel_rfl) (by kernel_rfl) (by kernel_rfl) (fun _ _ _ h => h) hT2 (by rfl) ?_ ?_
      rotate_left
      · (intro wq; go_simp; try with_reducible rfl)
      simp only [Act.put, List.setIfInBounds_toArray, List.set_cons_zero, List.set_cons_succ]
      refine wpF_take 15 (v := ?_) rfl (by kernel_rfl) (by kernel_rfl) (by kernel_rfl) (fun _ _ _ h => h) hT2 (by rfl) ?_ ?_
      rotate_left
      · (intro wq; go_simp; try with_reducible rfl)
      simp only [Act.put, List.setIfInBounds_toArray, List.set_cons_zero, List.set_cons_succ]
      refine wpF_exec 16 rfl (by kernel_rfl) (by rfl) ?_
      intro K hK
      have z0 := hCB.cell 0 _ rfl
      have z1 := hCB.cell 1 _ rfl
      have z2 := hCB.cell 2 _ rfl
      have z3 := hCB.cell 3 _ rfl
      have z4 := hCB.cell 4 _ rfl
      have z5 := hCB.cell 5 _ rfl
      have f0 := hCB.fr 0
      have f1 := hCB.fr 1
      have f2 := hCB.fr 2
      have f3 := hCB.fr 3
      have f4 := hCB.fr 4
      have f5 := hCB.fr 5
      go_simp
      have hbE := ((((((hCB.set 0 (.slice k2.v C2.v.length k2.vc) (by simp)).set 1 (.slice k2.r C2.regs.length k2.rc) (by simp)).set 2 (.slice k2.e C2.elems.length k2.ec) (by simp)).set 3 (.slice k2.g C2.gone.length k2.gc) (by simp)).set 4 (.slice k2.s C2.sums.length k2.sc) (by simp)).set 5 (.slice k2.b C2.binds.length k2.bc) (by simp))
      have hxE := (((((Ext.setCell (S := just g) (wB) ⟨g, 0, none⟩ (.slice k2.v C2.v.length k2.vc) rfl).comp (Ext.setCell _ ⟨g, 1, none⟩ (.slice k2.r C2.regs.length k2.rc) rfl)).comp (Ext.setCell _ ⟨g, 2, none⟩ (.slice k2.e C2.elems.length k2.ec) rfl)).comp (Ext.setCell _ ⟨g, 3, none⟩ (.slice k2.g C2.gone.length k2.gc) rfl)).comp (Ext.setCell _ ⟨g, 4, none⟩ (.slice k2.s C2.sums.length k2.sc) rfl)).comp (Ext.setCell _ ⟨g, 5, none⟩ (.slice k2.b C2.binds.length k2.bc) rfl)
      clear z0 f0 z1 f1 z2 f2 z3 f3 z4 f4 z5 f5
      generalize ((((((wB).setCell ⟨g, 0, none⟩ (.slice k2.v C2.v.length k2.vc)).setCell ⟨g, 1, none⟩ (.slice k2.r C2.regs.length k2.rc)).setCell ⟨g, 2, none⟩ (.slice k2.e C2.elems.length k2.ec)).setCell ⟨g, 3, none⟩ (.slice k2.g C2.gone.length k2.gc)).setCell ⟨g, 4, none⟩ (.slice k2.s C2.sums.length k2.sc)).setCell ⟨g, 5, none⟩ (.slice k2.b C2.binds.length k2.bc) = wE at *
      have hmE : Mine C2 wE B k2 := (hmB.ext hxE (fun i ad hi e => by have e : ad.block = g := e; have := hmB.base i ad hi; omega)).mono (by omega)
      have hxF : Ext no w wE := (hx.comp hxW).trans hxE (fun k hk e => by have e : k = g := e; omega)
      have hzE := hxE.size
      have hT3 : ∀ k, looks [(0, fun z => True), (7, fun z => True), (10, fun z => True)] k (wE) := looks_all ⟨trivial, trivial, trivial, trivial⟩
      refine hK _ _ (looks [(0, fun z => True), (7, fun z => True), (10, fun z => True)]) ⟨.inr (.inl (by kernel_rfl)), .inr (.inl (by kernel_rfl)), .inr (.inl (by kernel_rfl)), trivial⟩ hT3 ?_
      clear hK K
      try simp only [Act.put, List.setIfInBounds_toArray, List.set_cons_zero, List.set_cons_succ]
      refine wpF_done (by kernel_rfl) ?_ _
      clear c0 c1 c2 c3 c4 c5 Herr HC2 hsm hokC hm hC hx hmB hxB hCB hxW hxE hsk hK0
      go_wp2_with fail
      go_roundw
      case rel => exact ⟨i + 1, C2, k2, by rw [← Hmv.out]; go_num, by go_num, by omega, by omega, hcn2, hmE, hbE, hxF, by omega⟩
      case measure => have := Hmv.out; simp [intOf]; omega
    · have hdone : i = ns.length ∨ i = 20 := by omega
      clear hin
      go_upto_region 6 with fail
      go_cut [31] (fun s31 wx => s31 = .bool false ∧ wx = wr)
      case first =>
        by_cases h1 : i < ns.length
        · have d1 : decide (i < ns.length) = true := decT h1
          have d2 : decide ((i : Int) < 20) = false := decF (by omega)
          go_wp2_with fail
          go_meet
          exact ⟨rfl, rfl⟩
        · have d1 : decide (i < ns.length) = false := decF h1
          go_wp2_with fail
          go_meet
          exact ⟨rfl, rfl⟩
      case rest =>
      obtain ⟨rfl, rfl⟩ := hcut
      clear hdone hil
      obtain ⟨kk, hkk⟩ : ∃ kk : Nat, sn % 3 = kk := ⟨(sn % 3).toNat, by omega⟩
      have hk3 : kk < 3 := by omega
      have kin := fun wz => cowithin_any sn 3 wz (by omega) (by omega) hsn
      rw [hkk] at kin
      clear hkk
      obtain ⟨tx, htx⟩ : ∃ tx, tx = pqr kk := ⟨_, rfl⟩
      have Hkl := Lib.hid (show ([.string { data := #[112] }, .string { data := #[113] }, .string { data := #[114] }] : List Value)[kk]? = some (.string (str tx)) by rw [htx]; exact pqr_cell kk hk3)
      have htok : textOk tx = true := by rw [htx]; exact pqr_ok kk hk3
      have htl : tx.length ≤ 1 := by rw [htx, pqr_one]; omega
      obtain ⟨D, hD⟩ : ∃ D, D = (dotsL C.elems [107] tx).take 8 := ⟨_, rfl⟩
      obtain ⟨p1, p2, p3, p4, p5, p6, p7, p8⟩ := sets hcn (by omega) tx htok htl D hD
      have hD8 : D.length ≤ 8 := by rw [hD, List.length_take]; omega
      have hfine := hcn.fine
      have hsm0 := hcn.sm
      have hvers := hcn.el
      clear htx htok
      go_upto_region 10 with fail
      go_wp2_with fail
      refine (kin _).mono ?_
      rintro e w1 ⟨rfl, rfl⟩
      have hS0 := Blk.lit wc #[.string { data := #[112] }, .string { data := #[113] }, .string { data := #[114] }] 9
      have hxs := Ext.alloc no wc (.cells #[.string { data := #[112] }, .string { data := #[113] }, .string { data := #[114] }] 9)
      have s0 := hS0.cell kk _ Hkl.out
      have kb1 : (0 : Int) ≤ (kk : Int) := by omega
      have kb2 : (kk : Int) < 3 := by omega
      go_upto_region 11 with fail
      have hC1 := hC.ext (by simp) hxs (fun h => h)
      have hm1 := hm.no hxs
      have hx1 := hx.comp hxs
      have hz1 := hxs.size
      clear s0 hS0 hxs hC hm hx kin Hkl
      generalize wc.alloc (.cells #[.string { data := #[112] }, .string { data := #[113] }, .string { data := #[114] }] 9) = w1 at *
      have c0 := hC1.cell 0 _ rfl
      have c1 := hC1.cell 1 _ rfl
      have c2 := hC1.cell 2 _ rfl
      have c3 := hC1.cell 3 _ rfl
      have c4 := hC1.cell 4 _ rfl
      have c5 := hC1.cell 5 _ rfl
      have hse := hsm0.e
      go_wp2_with fail
      refine (cdots_any w1 C k [107] tx hm1.e.rd (by omega)).mono ?_
      rintro e w2 ⟨da, dc, rfl, hd2, hx12⟩
      have hC2 := hC1.ext (by simp) hx12 (fun h => h)
      have hm2 := hm1.no hx12
      have hx2 := hx1.comp hx12
      have hz2 := hx12.size
      clear c0 c1 c2 c3 c4 c5 hC1 hm1 hx1 hx12
      obtain ⟨all, hall⟩ : ∃ all, all = dotsL C.elems [107] tx := ⟨_, rfl⟩
      rw [← hall] at hd2 hD p7 p8 ⊢
      have hdl : all.length ≤ C.elems.length := by rw [hall]; unfold dotsL; rw [List.length_map]; exact List.length_filter_le _ _
      have hnc := hd2.nc
      have hrD : Rd w2 da (ds D) := by have q := hd2.rd.take (8 * 3); rw [rows_take kDot, ← hD] at q; exact q
      have Hall := Lib.hid hall
      have HD := Lib.hid (show D.length = min all.length 8 by rw [hD, List.length_take, Nat.min_comm])
      clear hall hD
      go_upto_region 12 with fail
      go_cut [9] (fun s9 wx => s9 = .slice da D.length dc ∧ wx = w2)
      case first =>
        have hcd : ∀ w, (Instr.sliceAt 27 (.slice da all.length dc) none (some (.int .i64 (D.length : Int))) none).run Tryz.prog w = .ok (.slice da D.length dc) w := fun w => run_cut_h TDot w _ _ dc .i64 D.length (by have := HD.out; omega)
        by_cases h8 : all.length ≤ 8
        · have e8 : min (all.length : Int) 8 = (D.length : Int) := by have := HD.out; omega
          have e9 : decide ((all.length : Int) ≤ 8) = true := decT (by omega)
          go_wp2_with fail
          go_meet
          exact ⟨rfl, rfl⟩
        · have e8 : min (all.length : Int) 8 = (D.length : Int) := by have := HD.out; omega
          have e9 : decide ((all.length : Int) ≤ 8) = false := decF (by omega)
          go_wp2_with fail
          go_meet
          exact ⟨rfl, rfl⟩
      case rest =>
      obtain ⟨rfl, rfl⟩ := hcut
      clear HD hnc
      rw [show addOp 1 1 tx = ⟨⟨1, 1, 1⟩, 0, 3, 2, [107], tx, 0, 0, []⟩ from rfl] at p1 p2 p4
      rw [show remOp tx D = ⟨⟨2, 1, 1⟩, 0, 3, 3, [107], tx, 0, 0, D⟩ from rfl] at p2 p3 p4 p6 p7 p8
      have hall3 : ∀ x ∈ C.elems, x.text.length ≤ 1099511627776 ∧ I64ok x.ver := fun x hx => by obtain ⟨_, e2, e3, _⟩ := hvers x hx; exact ⟨by omega, by rw [e2]; unfold I64ok; omega⟩
      have hallY : ∀ x ∈ (applyC C ⟨⟨2, 1, 1⟩, 0, 3, 3, [107], tx, 0, 0, D⟩).elems, x.text.length ≤ 1099511627776 ∧ I64ok x.ver := fun x hx => by
        rw [applyC_elems p3, if_neg (by show ¬ (3 : Int) = 2; omega), if_pos (show (⟨⟨2, 1, 1⟩, 0, 3, 3, [107], tx, 0, 0, D⟩ : OpR).kind = 3 from rfl)] at hx
        exact hall3 x ((List.mem_filter.1 hx).1)
      have hsA : (applyC C ⟨⟨1, 1, 1⟩, 0, 3, 2, [107], tx, 0, 0, []⟩).small 1099511627000 := (hsm0.apply _).mono (by omega)
      have hfA := hfine.apply ⟨⟨1, 1, 1⟩, 0, 3, 2, [107], tx, 0, 0, []⟩
      have hsX := (((hsm0.apply ⟨⟨1, 1, 1⟩, 0, 3, 2, [107], tx, 0, 0, []⟩).apply ⟨⟨2, 1, 1⟩, 0, 3, 3, [107], tx, 0, 0, D⟩).mono (show 8 * i + 8 + 8 ≤ 1099511627000 by omega)).e
      have hsY := ((hsm0.apply ⟨⟨2, 1, 1⟩, 0, 3, 3, [107], tx, 0, 0, D⟩).mono (show 8 * i + 8 ≤ 1099511627000 by omega)).e
      have hsC := hsm0.mono (show 8 * i ≤ 1099511627000 by omega)
      obtain ⟨CA, hCA⟩ : ∃ CA, CA = applyC C ⟨⟨1, 1, 1⟩, 0, 3, 2, [107], tx, 0, 0, []⟩ := ⟨_, rfl⟩
      rw [← hCA] at p2 p4 hsA hfA hsX
      obtain ⟨CX, hCX⟩ : ∃ CX, CX = applyC CA ⟨⟨2, 1, 1⟩, 0, 3, 3, [107], tx, 0, 0, D⟩ := ⟨_, rfl⟩
      rw [← hCX] at p4 hsX
      obtain ⟨CY, hCY⟩ : ∃ CY, CY = applyC C ⟨⟨2, 1, 1⟩, 0, 3, 3, [107], tx, 0, 0, D⟩ := ⟨_, rfl⟩
      rw [← hCY] at p6 p7 p8 hallY hsY
      have HCA := Lib.hid hCA.symm
      have HCX := Lib.hid hCX.symm
      have HCY := Lib.hid hCY.symm
      have P1 := Lib.hid p1
      have P2 := Lib.hid p2
      have P3 := Lib.hid p3
      have P7 := Lib.hid p7
      have P8 := Lib.hid p8
      have E5 := Lib.hid (memErr_all p5)
      have E6 := Lib.hid (memErr_all p6)
      clear hCA hCX hCY p1 p2 p3 p5 p6 p7 p8 hvers
      have c0 := hC2.cell 0 _ rfl
      have c1 := hC2.cell 1 _ rfl
      have c2 := hC2.cell 2 _ rfl
      have c3 := hC2.cell 3 _ rfl
      have c4 := hC2.cell 4 _ rfl
      have c5 := hC2.cell 5 _ rfl
      go_wp2_with fail
      refine (members_any wc C k [107] 3 hm2.e.rd (by omega) (by unfold I64ok; omega) hall3).mono ?_
      rintro e w3 ⟨ma, mc, M, rfl, hrM, hokM, _, hlM, hx23⟩
      have HokM := Lib.hid (hokM E5.out)
      rw [E5.out]
      clear hokM hall3
      clear c0 c1 c2 c3 c4 c5
      have hC3 := hC2.ext (by simp) hx23 (fun h => h)
      have hm3 := hm2.no hx23
      have hx3 := hx2.comp hx23
      have hz3 := hx23.size
      have hrD_3 := hrD.ext hx23 (fun _ _ h => h)
      clear hC2 hm2 hx2 hrD hx23
      have c0 := hC3.cell 0 _ rfl
      have c1 := hC3.cell 1 _ rfl
      have c2 := hC3.cell 2 _ rfl
      have c3 := hC3.cell 3 _ rfl
      have c4 := hC3.cell 4 _ rfl
      have c5 := hC3.cell 5 _ rfl
      go_wp2_with fail
      refine (apply_any w3 C k ⟨⟨1, 1, 1⟩, 0, 3, 2, [107], tx, 0, 0, []⟩ none 0 hm3.isIn hsC hfine.ok (Rd.nil _ _) (Nat.zero_le _) (by show 1 ≤ maxLen; decide) (by show tx.length ≤ maxLen; unfold maxLen; omega)).mono ?_
      rintro e wqa ⟨ka, rfl, hmN, hxN⟩
      rw [HCA.out] at hmN ⊢
      rw [P1.out]
      unfold CollR.val
      clear c0 c1 c2 c3 c4 c5
      have hC4 := hC3.ext (by simp) hxN (fun h => h)
      have hm4 := hm3.no hxN
      have hx4 := hx3.comp hxN
      have hz4 := hxN.size
      have hrD_4 := hrD_3.ext hxN (fun _ _ h => h)
      have hrM_4 := hrM.ext hxN (fun _ _ h => h)
      clear hC3 hm3 hx3 hrD_3 hrM hxN
      go_upto_region 15 with fail
      obtain ⟨bka, hb⟩ : ∃ b, b = wqa.heap.size := ⟨_, rfl⟩
      have hBN := Blk.at wqa #[.slice ka.v CA.v.length ka.vc, .slice ka.r CA.regs.length ka.rc, .slice ka.e CA.elems.length ka.ec, .slice ka.g CA.gone.length ka.gc, .slice ka.s CA.sums.length ka.sc, .slice ka.b CA.binds.length ka.bc] 31 bka hb
      have hxN := Ext.alloc no wqa (.cells #[.slice ka.v CA.v.length ka.vc, .slice ka.r CA.regs.length ka.rc, .slice ka.e CA.elems.length ka.ec, .slice ka.g CA.gone.length ka.gc, .slice ka.s CA.sums.length ka.sc, .slice ka.b CA.binds.length ka.bc] 31)
      have hmN2 := hmN.no hxN
      rw [← hb]
      clear hb hmN
      generalize wqa.alloc (.cells #[.slice ka.v CA.v.length ka.vc, .slice ka.r CA.regs.length ka.rc, .slice ka.e CA.elems.length ka.ec, .slice ka.g CA.gone.length ka.gc, .slice ka.s CA.sums.length ka.sc, .slice ka.b CA.binds.length ka.bc] 31) = wra at *
      have hC5 := hC4.ext (by simp) hxN (fun h => h)
      have hm5 := hm4.no hxN
      have hx5 := hx4.comp hxN
      have hz5 := hxN.size
      have hrD_5 := hrD_4.ext hxN (fun _ _ h => h)
      have hrM_5 := hrM_4.ext hxN (fun _ _ h => h)
      clear hC4 hm4 hx4 hrD_4 hrM_4 hxN
      have hBa := hBN
      have hMa := hmN2
      clear hBN hmN2
      have c0 := hBa.cell 0 _ rfl
      have c1 := hBa.cell 1 _ rfl
      have c2 := hBa.cell 2 _ rfl
      have c3 := hBa.cell 3 _ rfl
      have c4 := hBa.cell 4 _ rfl
      have c5 := hBa.cell 5 _ rfl
      go_wp2_with fail
      refine (apply_any wra CA ka ⟨⟨2, 1, 1⟩, 0, 3, 3, [107], tx, 0, 0, D⟩ da dc hMa.isIn hsA hfA.ok hrD_5 (by show D.length ≤ _; omega) (by show 1 ≤ maxLen; decide) (by show tx.length ≤ maxLen; unfold maxLen; omega)).mono ?_
      rintro e wqx ⟨kx, rfl, hmN, hxN⟩
      rw [HCX.out] at hmN ⊢
      rw [P2.out]
      unfold CollR.val
      clear c0 c1 c2 c3 c4 c5
      have hC6 := hC5.ext (by simp) hxN (fun h => h)
      have hm6 := hm5.no hxN
      have hx6 := hx5.comp hxN
      have hz6 := hxN.size
      have hrD_6 := hrD_5.ext hxN (fun _ _ h => h)
      have hrM_6 := hrM_5.ext hxN (fun _ _ h => h)
      have hBa6 := hBa.ext (by simp) hxN (fun h => h)
      have hMa6 := hMa.no hxN
      clear hC5 hm5 hx5 hrD_5 hrM_5 hBa hMa hxN
      go_upto_region 16 with fail
      obtain ⟨bkx, hb⟩ : ∃ b, b = wqx.heap.size := ⟨_, rfl⟩
      have hBN := Blk.at wqx #[.slice kx.v CX.v.length kx.vc, .slice kx.r CX.regs.length kx.rc, .slice kx.e CX.elems.length kx.ec, .slice kx.g CX.gone.length kx.gc, .slice kx.s CX.sums.length kx.sc, .slice kx.b CX.binds.length kx.bc] 31 bkx hb
      have hxN := Ext.alloc no wqx (.cells #[.slice kx.v CX.v.length kx.vc, .slice kx.r CX.regs.length kx.rc, .slice kx.e CX.elems.length kx.ec, .slice kx.g CX.gone.length kx.gc, .slice kx.s CX.sums.length kx.sc, .slice kx.b CX.binds.length kx.bc] 31)
      have hmN2 := hmN.no hxN
      rw [← hb]
      clear hb hmN
      generalize wqx.alloc (.cells #[.slice kx.v CX.v.length kx.vc, .slice kx.r CX.regs.length kx.rc, .slice kx.e CX.elems.length kx.ec, .slice kx.g CX.gone.length kx.gc, .slice kx.s CX.sums.length kx.sc, .slice kx.b CX.binds.length kx.bc] 31) = wrx at *
      have hC7 := hC6.ext (by simp) hxN (fun h => h)
      have hm7 := hm6.no hxN
      have hx7 := hx6.comp hxN
      have hz7 := hxN.size
      have hrD_7 := hrD_6.ext hxN (fun _ _ h => h)
      have hrM_7 := hrM_6.ext hxN (fun _ _ h => h)
      have hBa7 := hBa6.ext (by simp) hxN (fun h => h)
      have hMa7 := hMa6.no hxN
      clear hC6 hm6 hx6 hrD_6 hrM_6 hBa6 hMa6 hxN
      have hBx := hBN
      have hMx := hmN2
      clear hBN hmN2
      have c0 := hC7.cell 0 _ rfl
      have c1 := hC7.cell 1 _ rfl
      have c2 := hC7.cell 2 _ rfl
      have c3 := hC7.cell 3 _ rfl
      have c4 := hC7.cell 4 _ rfl
      have c5 := hC7.cell 5 _ rfl
      go_wp2_with fail
      refine (apply_any wrx C k ⟨⟨2, 1, 1⟩, 0, 3, 3, [107], tx, 0, 0, D⟩ da dc hm7.isIn hsC hfine.ok hrD_7 (by show D.length ≤ _; omega) (by show 1 ≤ maxLen; decide) (by show tx.length ≤ maxLen; unfold maxLen; omega)).mono ?_
      rintro e wqy ⟨ky, rfl, hmN, hxN⟩
      rw [HCY.out] at hmN ⊢
      rw [P3.out]
      unfold CollR.val
      clear c0 c1 c2 c3 c4 c5
      have hC8 := hC7.ext (by simp) hxN (fun h => h)
      have hm8 := hm7.no hxN
      have hx8 := hx7.comp hxN
      have hz8 := hxN.size
      have hrD_8 := hrD_7.ext hxN (fun _ _ h => h)
      have hrM_8 := hrM_7.ext hxN (fun _ _ h => h)
      have hBa8 := hBa7.ext (by simp) hxN (fun h => h)
      have hMa8 := hMa7.no hxN
      have hBx8 := hBx.ext (by simp) hxN (fun h => h)
      have hMx8 := hMx.no hxN
      clear hC7 hm7 hx7 hrD_7 hrM_7 hBa7 hMa7 hBx hMx hxN
      go_upto_region 17 with fail
      obtain ⟨bky, hb⟩ : ∃ b, b = wqy.heap.size := ⟨_, rfl⟩
      have hBN := Blk.at wqy #[.slice ky.v CY.v.length ky.vc, .slice ky.r CY.regs.length ky.rc, .slice ky.e CY.elems.length ky.ec, .slice ky.g CY.gone.length ky.gc, .slice ky.s CY.sums.length ky.sc, .slice ky.b CY.binds.length ky.bc] 31 bky hb
      have hxN := Ext.alloc no wqy (.cells #[.slice ky.v CY.v.length ky.vc, .slice ky.r CY.regs.length ky.rc, .slice ky.e CY.elems.length ky.ec, .slice ky.g CY.gone.length ky.gc, .slice ky.s CY.sums.length ky.sc, .slice ky.b CY.binds.length ky.bc] 31)
      have hmN2 := hmN.no hxN
      rw [← hb]
      clear hb hmN
      generalize wqy.alloc (.cells #[.slice ky.v CY.v.length ky.vc, .slice ky.r CY.regs.length ky.rc, .slice ky.e CY.elems.length ky.ec, .slice ky.g CY.gone.length ky.gc, .slice ky.s CY.sums.length ky.sc, .slice ky.b CY.binds.length ky.bc] 31) = wry at *
      have hC9 := hC8.ext (by simp) hxN (fun h => h)
      have hm9 := hm8.no hxN
      have hx9 := hx8.comp hxN
      have hz9 := hxN.size
      have hrD_9 := hrD_8.ext hxN (fun _ _ h => h)
      have hrM_9 := hrM_8.ext hxN (fun _ _ h => h)
      have hBa9 := hBa8.ext (by simp) hxN (fun h => h)
      have hMa9 := hMa8.no hxN
      have hBx9 := hBx8.ext (by simp) hxN (fun h => h)
      have hMx9 := hMx8.no hxN
      clear hC8 hm8 hx8 hrD_8 hrM_8 hBa8 hMa8 hBx8 hMx8 hxN
      have hBy := hBN
      have hMy := hmN2
      clear hBN hmN2
      have c0 := hBx9.cell 0 _ rfl
      have c1 := hBx9.cell 1 _ rfl
      have c2 := hBx9.cell 2 _ rfl
      have c3 := hBx9.cell 3 _ rfl
      have c4 := hBx9.cell 4 _ rfl
      have c5 := hBx9.cell 5 _ rfl
      have q4 : decide (((dotsL CX.elems [107] tx).length : Int) < 1) = false := decF (by omega)
      have q4' : decide ((dotsL CX.elems [107] tx).length < 1) = false := decF (by omega)
      go_wp2_with fail
      refine (cdots_any wry CX kx [107] tx hMx9.e.rd (by omega)).mono ?_
      rintro e w8 ⟨d8a, d8c, rfl, _, hx8⟩
      clear c0 c1 c2 c3 c4 c5
      have hC10 := hC9.ext (by simp) hx8 (fun h => h)
      have hm10 := hm9.no hx8
      have hx10 := hx9.comp hx8
      have hz10 := hx8.size
      have hrD_10 := hrD_9.ext hx8 (fun _ _ h => h)
      have hrM_10 := hrM_9.ext hx8 (fun _ _ h => h)
      have hBa10 := hBa9.ext (by simp) hx8 (fun h => h)
      have hMa10 := hMa9.no hx8
      have hBx10 := hBx9.ext (by simp) hx8 (fun h => h)
      have hMx10 := hMx9.no hx8
      have hBy10 := hBy.ext (by simp) hx8 (fun h => h)
      have hMy10 := hMy.no hx8
      clear hC9 hm9 hx9 hrD_9 hrM_9 hBa9 hMa9 hBx9 hMx9 hBy hMy hx8
      have c0 := hBy10.cell 0 _ rfl
      have c1 := hBy10.cell 1 _ rfl
      have c2 := hBy10.cell 2 _ rfl
      have c3 := hBy10.cell 3 _ rfl
      have c4 := hBy10.cell 4 _ rfl
      have c5 := hBy10.cell 5 _ rfl
      go_upto_region 19 with fail
      go_wp2_with fail
      refine (members_any w8 CY ky [107] 3 hMy10.e.rd (by omega) (by unfold I64ok; omega) hallY).mono ?_
      rintro e w9 ⟨la, lc, Lf, rfl, hrL, hokL, _, hlL, hx9⟩
      have HokL := Lib.hid (hokL E6.out)
      rw [E6.out]
      clear hokL hallY q4 q4'
      clear c0 c1 c2 c3 c4 c5
      have hC11 := hC10.ext (by simp) hx9 (fun h => h)
      have hm11 := hm10.no hx9
      have hx11 := hx10.comp hx9
      have hz11 := hx9.size
      have hrD_11 := hrD_10.ext hx9 (fun _ _ h => h)
      have hrM_11 := hrM_10.ext hx9 (fun _ _ h => h)
      have hBa11 := hBa10.ext (by simp) hx9 (fun h => h)
      have hMa11 := hMa10.no hx9
      have hBx11 := hBx10.ext (by simp) hx9 (fun h => h)
      have hMx11 := hMx10.no hx9
      have hBy11 := hBy10.ext (by simp) hx9 (fun h => h)
      have hMy11 := hMy10.no hx9
      clear hC10 hm10 hx10 hrD_10 hrM_10 hBa10 hMa10 hBx10 hMx10 hBy10 hMy10 hx9
      have c0 := hC11.cell 0 _ rfl
      have c1 := hC11.cell 1 _ rfl
      have c2 := hC11.cell 2 _ rfl
      have c3 := hC11.cell 3 _ rfl
      have c4 := hC11.cell 4 _ rfl
      have c5 := hC11.cell 5 _ rfl
      go_wp2_with fail
      refine (cdots_any w9 C k [107] tx hm11.e.rd (by omega)).mono ?_
      rintro e w10 ⟨d9a, d9c, rfl, _, hx10⟩
      rw [← Hall.out]
      clear c0 c1 c2 c3 c4 c5
      have hC12 := hC11.ext (by simp) hx10 (fun h => h)
      have hm12 := hm11.no hx10
      have hx12 := hx11.comp hx10
      have hz12 := hx10.size
      have hrD_12 := hrD_11.ext hx10 (fun _ _ h => h)
      have hrM_12 := hrM_11.ext hx10 (fun _ _ h => h)
      have hrL_12 := hrL.ext hx10 (fun _ _ h => h)
      have hBa12 := hBa11.ext (by simp) hx10 (fun h => h)
      have hMa12 := hMa11.no hx10
      have hBx12 := hBx11.ext (by simp) hx10 (fun h => h)
      have hMx12 := hMx11.no hx10
      have hBy12 := hBy11.ext (by simp) hx10 (fun h => h)
      have hMy12 := hMy11.no hx10
      clear hC11 hm11 hx11 hrD_11 hrM_11 hrL hBa11 hMa11 hBx11 hMx11 hBy11 hMy11 hx10
      by_cases h0 : all.length = 0
      · have HS := Lib.hid (isMem_same HokL.out HokM.out (P7.out (.inl h0)))
        have r0 : ((all.length : Int) == 0) = true := by rw [beq_iff_eq]; omega
        have r0' : (all.length == 0) = true := by rw [beq_iff_eq]; exact h0
        clear h0
        go_wp2_with fail
        refine (texts_any w10 la ma Lf M lc mc hrL_12 hrM_12 (by unfold maxLen; omega) (by unfold maxLen; omega)).mono ?_
        rintro e w11 ⟨rfl, hx11⟩
        rw [decT HS.out]
        go_wp2_with fail
        go_ret
        exact ⟨rfl, hx12.comp hx11⟩
      · have r0 : ((all.length : Int) == 0) = false := by rw [beq_eq_false_iff_ne]; omega
        have r0' : (all.length == 0) = false := by rw [beq_eq_false_iff_ne]; exact h0
        by_cases h8 : 8 < all.length
        · have HS := Lib.hid (isMem_same HokL.out HokM.out (P7.out (.inr h8)))
          have r1 : decide ((8 : Int) < (all.length : Int)) = true := decT (by omega)
          have r1' : decide (8 < all.length) = true := decT h8
          clear h0 h8
          go_wp2_with fail
          refine (texts_any w10 la ma Lf M lc mc hrL_12 hrM_12 (by unfold maxLen; omega) (by unfold maxLen; omega)).mono ?_
          rintro e w11 ⟨rfl, hx11⟩
          rw [decT HS.out]
          go_wp2_with fail
          go_ret
          exact ⟨rfl, hx12.comp hx11⟩
        · obtain ⟨g1, g2, g3⟩ := P8.out (by omega)
          have hln := isMem_less HokL.out HokM.out tx g1 g2
          have r1 : decide ((8 : Int) < (all.length : Int)) = false := decF (by omega)
          have r1' : decide (8 < all.length) = false := decF h8
          have Hln := Lib.hid hln
          have Hg3 := Lib.hid g3
          have hMl : 1 ≤ M.length := by omega
          have r2 : ((Lf.length : Int) == (M.length : Int) - 1) = true := by rw [beq_iff_eq]; omega
          clear h0 h8 g1 g2 g3 hln
          have c0 := hBy12.cell 0 _ rfl
          have c1 := hBy12.cell 1 _ rfl
          have c2 := hBy12.cell 2 _ rfl
          have c3 := hBy12.cell 3 _ rfl
          have c4 := hBy12.cell 4 _ rfl
          have c5 := hBy12.cell 5 _ rfl
          go_wp2_with fail
          refine (cdots_any w10 CY ky [107] tx hMy12.e.rd (by omega)).mono ?_
          rintro e w11 ⟨d7a, d7c, rfl, _, hx11⟩
          rw [Hg3.out]
          go_wp2_with fail
          go_ret
          exact ⟨rfl, hx12.comp hx11⟩
end Go.Proofs.YtejmmkjpncpedaaGreatDoor
