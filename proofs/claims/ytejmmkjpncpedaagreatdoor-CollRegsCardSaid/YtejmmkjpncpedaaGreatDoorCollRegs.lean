/- The walk of CollRegs. -/
import Derived.Test.YtejmmkjpncpedaaGreatDoorCoV
import Derived.Test.YtejmmkjpncpedaaGreatDoorCoW
namespace Go.Esc
open Go.RowKit
theorem Regs.other {i : Nat} {C : CollR} {best who : Int} {n : Nat → Nat} (h : Regs i C best who n) (key : List UInt8) (hk : key ≠ [107]) : look RegR.key key C.regs = none := by
  rcases h.st with ⟨_, _, _, h0⟩ | ⟨_, _, w, s, text, _, h0, _⟩
  · rw [h0]; rfl
  · rw [h0]
    refine look_none (fun x hx => ?_)
    rw [List.mem_singleton.1 hx]
    exact fun e => hk e.symm
end Go.Esc
namespace Go.Proofs.YtejmmkjpncpedaaGreatDoor
open Go.RowKit Go.Esc
set_option linter.unusedVariables false
set_option linter.unusedSimpArgs false

set_option maxRecDepth 100000 in
set_option maxHeartbeats 8000000 in
theorem cregs_walk (w : World) (a : Option Addr) (ns : List Int) (c : Nat) (hr : Rd w a (is ns)) (hok : ∀ n ∈ ns, I64ok n) (hlc : ns.length ≤ c) (hcm : c ≤ maxLen) :
    Calls Tryz.prog 3 #[.slice a ns.length c] w fun e w' => e = .returned (.bool true) ∧ Ext no w w' := by
  unfold maxLen at hcm
  go_enter Tryz.func3, Tryz.ntmps3
  go_wp2_with fail
  refine (known_any w).mono ?_
  rintro e w0 ⟨rfl, hx0⟩
  go_upto_region 6 with fail
  have h1_ := Blk.at w0 #[.slice none 0 0, .slice none 0 0, .slice none 0 0, .slice none 0 0, .slice none 0 0, .slice none 0 0] 31 w0.heap.size rfl
  have hxa := Ext.alloc no w0 (.cells #[.slice none 0 0, .slice none 0 0, .slice none 0 0, .slice none 0 0, .slice none 0 0, .slice none 0 0] 31)
  have hN0 := Blk.at (w0.alloc (.cells #[.slice none 0 0, .slice none 0 0, .slice none 0 0, .slice none 0 0, .slice none 0 0, .slice none 0 0] 31)) #[.int .i64 0, .int .i64 0, .int .i64 0, .int .i64 0, .int .i64 0, .int .i64 0] 32 (w0.heap.size + 1) (by simp)
  have hxc := Ext.alloc no (w0.alloc (.cells #[.slice none 0 0, .slice none 0 0, .slice none 0 0, .slice none 0 0, .slice none 0 0, .slice none 0 0] 31)) (.cells #[.int .i64 0, .int .i64 0, .int .i64 0, .int .i64 0, .int .i64 0, .int .i64 0] 32)
  have hC0 := h1_.ext (by simp) hxc (fun h => h)
  have hx1 := (hx0.comp hxa).comp hxc
  have hz0 := hx0.size
  clear h1_ hxa hxc hx0
  generalize (w0.alloc (.cells #[.slice none 0 0, .slice none 0 0, .slice none 0 0, .slice none 0 0, .slice none 0 0, .slice none 0 0] 31)).alloc (.cells #[.int .i64 0, .int .i64 0, .int .i64 0, .int .i64 0, .int .i64 0, .int .i64 0] 32) = w1 at *
  have hz1 := hN0.lt (by simp)
  obtain ⟨g, hg⟩ : ∃ g, g = w0.heap.size := ⟨_, rfl⟩
  rw [← hg] at hC0 hN0 hz1 hz0 ⊢
  clear hg w0
  obtain ⟨B, hB⟩ : ∃ B, B = g + 1 + 1 := ⟨_, rfl⟩
  go_wp2_with fail
  go_loopw [4, 5, 7] (fun s4 s5 s7 wr => ∃ (i : Nat) (C : CollR) (k : Six) (best who : Int) (n : Nat → Nat), s4 = .int .i64 best ∧ s5 = .int .i64 who ∧ s7 = .int .i64 i ∧ i ≤ 20 ∧ i ≤ ns.length ∧ Regs i C best who n ∧ Mine C wr B k ∧ Blk wr g [.slice k.v C.v.length k.vc, .slice k.r C.regs.length k.rc, .slice k.e C.elems.length k.ec, .slice k.g C.gone.length k.gc, .slice k.s C.sums.length k.sc, .slice k.b C.binds.length k.bc] ∧ Blk wr (g + 1) (natC 6 n) ∧ Ext no w wr ∧ B ≤ wr.heap.size) (fun _ _ s7 _ => 20 - (intOf s7).toNat)
  case atStart => exact ⟨0, CollR.nil, six0, -1, 0, fun _ => 0, rfl, rfl, rfl, by omega, by omega, regs_nil, nil_mine _ _, hC0, hN0, hx1, by omega⟩
  case round =>
    obtain ⟨i, C, k, best, who, n, rfl, rfl, rfl, hi20, hil, hcn, hm, hC, hN, hx, hz⟩ := hrel
    by_cases hin : i < ns.length ∧ i < 20
    · have d1 : decide (i < ns.length) = true := decT hin.1
      have d2 : decide ((i : Int) < 20) = true := decT (by omega)
      obtain ⟨q, hq⟩ : ∃ q, ns[i]? = some q := ⟨_, List.getElem?_eq_getElem hin.1⟩
      have hqok := hok q (List.mem_of_getElem? hq)
      have hq2 := tdiv_ok q 6 (by omega) hqok
      have e3 : ((6 : Nat) : Int) = 6 := rfl
      rw [e3] at hq2
      clear e3
      obtain ⟨ad, rfl, _⟩ := hr.ne (by simp; omega)
      have hkc : wr.cell? (ad.add i) = some (.int .i64 q) := hx.keeps (hr.get (j := i) (v := .int .i64 q) (by simp [is, I64, hq])) (fun h => h)
      have hi1 := hin.1
      have hi2 := hin.2
      clear hin hq
      have w2q : Go.IntKind.i64.wrap (q.tdiv 6) = q.tdiv 6 := by unfold I64ok at hq2; rw [IntKind.wrap_i64]; omega
      go_upto_region 9 with fail
      refine wp_region_F [3, 8] (looks [(3, fun z => Ext no wr z), (8, fun z => Ext no wr z)]) (by kernel_rfl) ?_
      have hT0 : ∀ k, looks [(3, fun z => Ext no wr z), (8, fun z => Ext no wr z)] k (wr.drew) := looks_all ⟨Ext.drew no wr, Ext.drew no wr, trivial⟩
      refine wpF_take 0 (v := ?_) rfl (by kernel_rfl) (by kernel_rfl) (by kernel_rfl) (fun _ _ _ h => h) hT0 (by rfl) ?_ ?_
      rotate_left
      · (intro wq; go_simp; try with_reducible rfl)
      simp only [Act.put, List.setIfInBounds_toArray, List.set_cons_zero, List.set_cons_succ]
      refine wpF_take 1 (v := ?_) rfl (by kernel_rfl) (by kernel_rfl) (by kernel_rfl) (fun _ _ _ h => h) hT0 (by rfl) ?_ ?_
      rotate_left
      · (intro wq; go_simp; try with_reducible rfl)
      simp only [Act.put, List.setIfInBounds_toArray, List.set_cons_zero, List.set_cons_succ]
      refine wpF_take 2 (v := .pointer (some (ad.add i))) rfl (by kernel_rfl) (by kernel_rfl) (by kernel_rfl) (fun _ _ _ h => h) hT0 (by rfl) (by intro wq; go_simp) ?_
      simp only [Act.put, List.setIfInBounds_toArray, List.set_cons_zero, List.set_cons_succ]
      refine wpF_look 3 (v := .int .i64 q) rfl rfl (by kernel_rfl) (by kernel_rfl) (by kernel_rfl) (by kernel_rfl) (fun _ _ _ h => h) hT0 (by rfl) (fun w hS => by have hS : Ext no wr w := hS; have q0 := hS.keeps hkc (fun h => h); go_simp) ?_
      simp only [Act.put, List.setIfInBounds_toArray, List.set_cons_zero, List.set_cons_succ]
      refine wpF_call 4 (v := .int .i64 (q % 6)) 8 #[.int .i64 q, .int .i64 6] rfl (by kernel_rfl) (by kernel_rfl) (by kernel_rfl) (fun _ _ _ h => h) hT0 (by rfl) (by intro wq; go_simp; try with_reducible rfl) (fun wz => cowithin_any q 6 wz (by omega) (by omega) hqok) ?_
      simp only [Act.put, List.setIfInBounds_toArray, List.set_cons_zero, List.set_cons_succ]
      refine wpF_take 5 (v := ?_) rfl (by kernel_rfl) (by kernel_rfl) (by kernel_rfl) (fun _ _ _ h => h) hT0 (by rfl) ?_ ?_
      rotate_left
      · (intro wq; go_simp; try with_reducible rfl)
      simp only [Act.put, List.setIfInBounds_toArray, List.set_cons_zero, List.set_cons_succ]
      refine wpF_take 6 (v := ?_) rfl (by kernel_rfl) (by kernel_rfl) (by kernel_rfl) (fun _ _ _ h => h) hT0 (by rfl) ?_ ?_
      rotate_left
      · (intro wq; go_simp; try with_reducible rfl)
      simp only [Act.put, List.setIfInBounds_toArray, List.set_cons_zero, List.set_cons_succ]
      refine wpF_take 7 (v := .pointer (some (ad.add i))) rfl (by kernel_rfl) (by kernel_rfl) (by kernel_rfl) (fun _ _ _ h => h) hT0 (by rfl) (by intro wq; go_simp) ?_
      simp only [Act.put, List.setIfInBounds_toArray, List.set_cons_zero, List.set_cons_succ]
      refine wpF_look 8 (v := .int .i64 q) rfl rfl (by kernel_rfl) (by kernel_rfl) (by kernel_rfl) (by kernel_rfl) (fun _ _ _ h => h) hT0 (by rfl) (fun w hS => by have hS : Ext no wr w := hS; have q0 := hS.keeps hkc (fun h => h); go_simp) ?_
      simp only [Act.put, List.setIfInBounds_toArray, List.set_cons_zero, List.set_cons_succ]
      refine wpF_take 9 (v := .int .i64 (q.tdiv 6)) rfl (by kernel_rfl) (by kernel_rfl) (by kernel_rfl) (fun _ _ _ h => h) hT0 (by rfl) (by intro wq; go_simp; first | done | rfl | (rw [w2q])) ?_
      simp only [Act.put, List.setIfInBounds_toArray, List.set_cons_zero, List.set_cons_succ]
      refine wpF_call 10 (v := .int .i64 (q.tdiv 6 % 6)) 8 #[.int .i64 (q.tdiv 6), .int .i64 6] rfl (by kernel_rfl) (by kernel_rfl) (by kernel_rfl) (fun _ _ _ h => h) hT0 (by rfl) (by intro wq; go_simp; try with_reducible rfl) (fun wz => cowithin_any (q.tdiv 6) 6 wz (by omega) (by omega) hq2) ?_
      simp only [Act.put, List.setIfInBounds_toArray, List.set_cons_zero, List.set_cons_succ]
      refine wpF_take 11 (v := ?_) rfl (by kernel_rfl) (by kernel_rfl) (by kernel_rfl) (fun _ _ _ h => h) hT0 (by rfl) ?_ ?_
      rotate_left
      · (intro wq; go_simp; try with_reducible rfl)
      simp only [Act.put, List.setIfInBounds_toArray, List.set_cons_zero, List.set_cons_succ]
      refine wpF_take 12 (v := ?_) rfl (by kernel_rfl) (by kernel_rfl) (by kernel_rfl) (fun _ _ _ h => h) hT0 (by rfl) ?_ ?_
      rotate_left
      · (intro wq; go_simp; try with_reducible rfl)
      simp only [Act.put, List.setIfInBounds_toArray, List.set_cons_zero, List.set_cons_succ]
      refine wpF_done (by kernel_rfl) ?_ _
      have hxd := Ext.drew no wr
      have hmd := hm.no hxd
      have hCd := hC.ext (by simp) hxd (fun h => h)
      have hNd := hN.ext (natC_ne (by omega)) hxd (fun h => h)
      have hx2 := hx.comp hxd
      have hz2 := hxd.size
      clear hm hC hN hx hxd hkc
      generalize wr.drew = w2 at *
      obtain ⟨t, ht⟩ : ∃ t : Int, q % 6 = t := ⟨_, rfl⟩
      obtain ⟨d, hd⟩ : ∃ d : Nat, q.tdiv 6 % 6 = d := ⟨(q.tdiv 6 % 6).toNat, by omega⟩
      have ht6 : 0 ≤ t ∧ t < 6 := by omega
      have hd6 : d < 6 := by omega
      rw [ht, hd]
      clear ht hd w2q hq2 hqok
      have hnd := hcn.le d
      have y0 := hNd.cell d _ (natC_get hd6)
      have fy0 := hNd.fr d
      go_upto_region 11 with fail
      have hN3 : Blk (w2.setCell ⟨g + 1, d, none⟩ (.int .i64 ((n d : Int) + 1))) (g + 1) (natC 6 (bump n d)) := by
        have q := hNd.set d (.int .i64 ((n d : Int) + 1)) (by rw [natC_len]; exact hd6)
        have e := natC_set (f := n) hd6 (n d + 1)
        rw [show (((n d + 1 : Nat) : Int)) = (n d : Int) + 1 by omega] at e
        rw [e] at q
        exact q
      have hxs : Ext (just (g + 1)) w2 (w2.setCell ⟨g + 1, d, none⟩ (.int .i64 ((n d : Int) + 1))) := Ext.setCell _ _ _ rfl
      have hC3 := hCd.ext (by simp) hxs (fun e => by have e : g = g + 1 := e; omega)
      have hm3 := hmd.ext hxs (fun i ad hi e => by have e : ad.block = g + 1 := e; have := hmd.base i ad hi; omega)
      have hx3 := hx2.trans hxs (fun k hk e => by have e : k = g + 1 := e; omega)
      have hz3 := hxs.size
      clear hxs hNd hCd hmd hx2 y0 fy0
      generalize w2.setCell ⟨g + 1, d, none⟩ (.int .i64 ((n d : Int) + 1)) = w3 at *
      have hy : w3.cell? ⟨g + 1, d, none⟩ = some (.int .i64 ((n d + 1 : Nat) : Int)) := by
        have := hN3.cell d _ (natC_get hd6)
        unfold bump at this
        rw [if_pos rfl] at this
        exact this
      have hstep := hcn.step hi2 t d ht6 hd6
      have hsm := hcn.sm.mono (show 8 * i ≤ 1099511627000 by omega)
      have hokC := hcn.fine.ok
      obtain ⟨n2, hn2⟩ : ∃ n2, n2 = bump n d := ⟨_, rfl⟩
      rw [← hn2] at hstep hN3
      obtain ⟨m, hmv⟩ : ∃ m, m = n d + 1 := ⟨_, rfl⟩
      have hm21 : m < 21 := by omega
      rw [← hmv] at hy hstep
      obtain ⟨z1, hz1v⟩ : ∃ z, z = UInt8.ofNat (97 + d) := ⟨_, rfl⟩
      obtain ⟨z2, hz2v⟩ : ∃ z, z = UInt8.ofNat (48 + m % 10) := ⟨_, rfl⟩
      obtain ⟨z3, hz3v⟩ : ∃ z, z = UInt8.ofNat (97 + m / 10) := ⟨_, rfl⟩
      obtain ⟨mr, hmr⟩ : ∃ mr, mr = m % 10 := ⟨_, rfl⟩
      obtain ⟨mq, hmq⟩ : ∃ mq, mq = m / 10 := ⟨_, rfl⟩
      have hmr9 : mr < 10 := by omega
      have hmq2 : mq ≤ 2 := by omega
      have htm : (m : Int).tmod 10 = mr := by rw [Int.tmod_eq_emod_of_nonneg (by omega)]; omega
      have htd : (m : Int).tdiv 10 = mq := by rw [Int.tdiv_eq_ediv_of_nonneg (by omega)]; omega
      have H1 := Lib.hid (show ((z1.toNat : Nat) : Int) = 97 + d by rw [hz1v, u8_of _ (by omega)]; omega)
      have H2 := Lib.hid (show ((z2.toNat : Nat) : Int) = 48 + mr by rw [hz2v, u8_of _ (by omega)]; omega)
      have H3 := Lib.hid (show ((z3.toNat : Nat) : Int) = 97 + mq by rw [hz3v, u8_of _ (by omega)]; omega)
      have hop : regOp d m t = ⟨⟨d, 1, m⟩, 0, 3, 1, [107], [z1, z2, z3], 0, t, []⟩ := by rw [hz1v, hz2v, hz3v]; rfl
      rw [hop] at hstep
      obtain ⟨herr, hyes, hno⟩ := hstep
      have Herr := Lib.hid herr
      obtain ⟨C2, hC2⟩ : ∃ C2, C2 = applyC C ⟨⟨d, 1, m⟩, 0, 3, 1, [107], [z1, z2, z3], 0, t, []⟩ := ⟨_, rfl⟩
      rw [← hC2] at hyes hno
      have HC2 := Lib.hid hC2.symm
      obtain ⟨tt, htt⟩ : ∃ tt : Bool, tt = decide (best < t ∨ (t = best ∧ who ≤ d)) := ⟨_, rfl⟩
      obtain ⟨best2, hb2⟩ : ∃ b2 : Int, b2 = if tt = true then t else best := ⟨_, rfl⟩
      obtain ⟨who2, hw2⟩ : ∃ b2 : Int, b2 = if tt = true then (d : Int) else who := ⟨_, rfl⟩
      have hcn2 : Regs (i + 1) C2 best2 who2 n2 := by
        rw [hb2, hw2]
        by_cases hc : best < t ∨ (t = best ∧ who ≤ d)
        · rw [if_pos (by rw [htt]; exact decT hc), if_pos (by rw [htt]; exact decT hc)]; exact (hyes hc).1
        · rw [if_neg (by rw [htt, decF hc]; simp), if_neg (by rw [htt, decF hc]; simp)]; exact hno hc
      have Hsay := Lib.hid (show tt = true → regsay C2 [107] 3 = ([z1, z2, z3], 0) by
        intro h
        have e := (hyes (of_decide_eq_true (htt.symm.trans h))).2
        unfold regsay
        rw [e]
        show (up [z1, z2, z3] 3 3, upErr 3 3) = _
        rw [up_same _ rfl]
        rfl)
      have Hb2 := Lib.hid hb2
      have Hw2 := Lib.hid hw2
      have Htt := Lib.hid htt
      have hbw := hcn.bw
      have HNM := Lib.hid (show n2 d = m by rw [hn2, hmv]; unfold bump; rw [if_pos rfl])
      clear herr hC2 hop hz1v hz2v hz3v hmr hmq hmv hcn hn2 hnd hyes hno hb2 hw2 htt
      have c0 := hC3.cell 0 _ rfl
      have c1 := hC3.cell 1 _ rfl
      have c2 := hC3.cell 2 _ rfl
      have c3 := hC3.cell 3 _ rfl
      have c4 := hC3.cell 4 _ rfl
      have c5 := hC3.cell 5 _ rfl
      go_cut [10, 11] (fun s10 s11 wx => ∃ (xb : Nat) (k2 : Six), s10 = .pointer (some ⟨xb, 0, none⟩) ∧ s11 = .int .i64 0 ∧ Mine C2 wx B k2 ∧ Blk wx xb [.slice k2.v C2.v.length k2.vc, .slice k2.r C2.regs.length k2.rc, .slice k2.e C2.elems.length k2.ec, .slice k2.g C2.gone.length k2.gc, .slice k2.s C2.sums.length k2.sc, .slice k2.b C2.binds.length k2.bc] ∧ Ext no w3 wx)
      case first =>
        refine wp_region_F [0, 4, 11, 17, 22] (looks [(0, fun z => Ext no w3 z), (4, fun z => Ext no w3 z), (11, fun z => Ext no w3 z), (17, fun z => Ext no w3 z), (22, fun z => True)]) (by kernel_rfl) ?_
        have hxd0 := Ext.drew no w3
        generalize w3.drew = wd at *
        have hT0 : ∀ k, looks [(0, fun z => Ext no w3 z), (4, fun z => Ext no w3 z), (11, fun z => Ext no w3 z), (17, fun z => Ext no w3 z), (22, fun z => True)] k (wd) := looks_all ⟨hxd0, hxd0, hxd0, hxd0, trivial, trivial⟩
        refine wpF_look 0 (v := .agg #[.slice k.v C.v.length k.vc, .slice k.r C.regs.length k.rc, .slice k.e C.elems.length k.ec, .slice k.g C.gone.length k.gc, .slice k.s C.sums.length k.sc, .slice k.b C.binds.length k.bc]) rfl rfl (by kernel_rfl) (by kernel_rfl) (by kernel_rfl) (by kernel_rfl) (fun _ _ _ h => h) hT0 (by rfl) (fun w hS => by have hS : Ext no w3 w := hS; have q0 := hS.keeps c0 (fun h => h); have q1 := hS.keeps c1 (fun h => h); have q2 := hS.keeps c2 (fun h => h); have q3 := hS.keeps c3 (fun h => h); have q4 := hS.keeps c4 (fun h => h); have q5 := hS.keeps c5 (fun h => h); go_simp) ?_
        simp only [Act.put, List.setIfInBounds_toArray, List.set_cons_zero, List.set_cons_succ]
        refine wpF_take 1 (v := ?_) rfl (by kernel_rfl) (by kernel_rfl) (by kernel_rfl) (fun _ _ _ h => h) hT0 (by rfl) ?_ ?_
        rotate_left
        · (intro wq; go_simp; try with_reducible rfl)
        simp only [Act.put, List.setIfInBounds_toArray, List.set_cons_zero, List.set_cons_succ]
        refine wpF_take 2 (v := ?_) rfl (by kernel_rfl) (by kernel_rfl) (by kernel_rfl) (fun _ _ _ h => h) hT0 (by rfl) ?_ ?_
        rotate_left
        · (intro wq; go_simp; try with_reducible rfl)
        simp only [Act.put, List.setIfInBounds_toArray, List.set_cons_zero, List.set_cons_succ]
        refine wpF_take 3 (v := .pointer (some ⟨g + 1, d, none⟩)) rfl (by kernel_rfl) (by kernel_rfl) (by kernel_rfl) (fun _ _ _ h => h) hT0 (by rfl) (by intro wq; go_simp; first | done | (intro hh; exfalso; omega)) ?_
        simp only [Act.put, List.setIfInBounds_toArray, List.set_cons_zero, List.set_cons_succ]
        refine wpF_look 4 (v := .int .i64 m) rfl rfl (by kernel_rfl) (by kernel_rfl) (by kernel_rfl) (by kernel_rfl) (fun _ _ _ h => h) hT0 (by rfl) (fun w hS => by have hS : Ext no w3 w := hS; have q0 := hS.keeps hy (fun h => h); go_simp) ?_
        simp only [Act.put, List.setIfInBounds_toArray, List.set_cons_zero, List.set_cons_succ]
        refine wpF_take 5 (v := ?_) rfl (by kernel_rfl) (by kernel_rfl) (by kernel_rfl) (fun _ _ _ h => h) hT0 (by rfl) ?_ ?_
        rotate_left
        · (intro wq; go_simp; try with_reducible rfl)
        simp only [Act.put, List.setIfInBounds_toArray, List.set_cons_zero, List.set_cons_succ]
        refine wpF_take 6 (v := ?_) rfl (by kernel_rfl) (by kernel_rfl) (by kernel_rfl) (fun _ _ _ h => h) hT0 (by rfl) ?_ ?_
        rotate_left
        · (intro wq; go_simp; try with_reducible rfl)
        simp only [Act.put, List.setIfInBounds_toArray, List.set_cons_zero, List.set_cons_succ]
        refine wpF_take 7 (v := .int .i64 (97 + d)) rfl (by kernel_rfl) (by kernel_rfl) (by kernel_rfl) (fun _ _ _ h => h) hT0 (by rfl) (by intro wq; go_simp; first | done | rfl | (rw [IntKind.wrap_i64]; omega)) ?_
        simp only [Act.put, List.setIfInBounds_toArray, List.set_cons_zero, List.set_cons_succ]
        refine wpF_take 8 (v := .int .u8 z1.toNat) rfl (by kernel_rfl) (by kernel_rfl) (by kernel_rfl) (fun _ _ _ h => h) hT0 (by rfl) (by intro wq; go_simp; have h8 := H1.out; first | done | (rw [IntKind.wrap_u8]; omega)) ?_
        simp only [Act.put, List.setIfInBounds_toArray, List.set_cons_zero, List.set_cons_succ]
        refine wpF_take 9 (v := ?_) rfl (by kernel_rfl) (by kernel_rfl) (by kernel_rfl) (fun _ _ _ h => h) hT0 (by rfl) ?_ ?_
        rotate_left
        · (intro wq; go_simp; try with_reducible rfl)
        simp only [Act.put, List.setIfInBounds_toArray, List.set_cons_zero, List.set_cons_succ]
        refine wpF_take 10 (v := .pointer (some ⟨g + 1, d, none⟩)) rfl (by kernel_rfl) (by kernel_rfl) (by kernel_rfl) (fun _ _ _ h => h) hT0 (by rfl) (by intro wq; go_simp; first | done | (intro hh; exfalso; omega)) ?_
        simp only [Act.put, List.setIfInBounds_toArray, List.set_cons_zero, List.set_cons_succ]
        refine wpF_look 11 (v := .int .i64 m) rfl rfl (by kernel_rfl) (by kernel_rfl) (by kernel_rfl) (by kernel_rfl) (fun _ _ _ h => h) hT0 (by rfl) (fun w hS => by have hS : Ext no w3 w := hS; have q0 := hS.keeps hy (fun h => h); go_simp) ?_
        simp only [Act.put, List.setIfInBounds_toArray, List.set_cons_zero, List.set_cons_succ]
        refine wpF_take 12 (v := .int .i64 mr) rfl (by kernel_rfl) (by kernel_rfl) (by kernel_rfl) (fun _ _ _ h => h) hT0 (by rfl) (by intro wq; go_simp; first | done | rfl | rw [htm] | (rw [htm, IntKind.wrap_i64]; omega) | (rw [IntKind.wrap_i64]; omega)) ?_
        simp only [Act.put, List.setIfInBounds_toArray, List.set_cons_zero, List.set_cons_succ]
        refine wpF_take 13 (v := .int .i64 (48 + mr)) rfl (by kernel_rfl) (by kernel_rfl) (by kernel_rfl) (fun _ _ _ h => h) hT0 (by rfl) (by intro wq; go_simp; first | done | rfl | (rw [IntKind.wrap_i64]; omega)) ?_
        simp only [Act.put, List.setIfInBounds_toArray, List.set_cons_zero, List.set_cons_succ]
        refine wpF_take 14 (v := .int .u8 z2.toNat) rfl (by kernel_rfl) (by kernel_rfl) (by kernel_rfl) (fun _ _ _ h => h) hT0 (by rfl) (by intro wq; go_simp; have h8 := H2.out; first | done | (rw [IntKind.wrap_u8]; omega)) ?_
        simp only [Act.put, List.setIfInBounds_toArray, List.set_cons_zero, List.set_cons_succ]
        refine wpF_take 15 (v := ?_) rfl (by kernel_rfl) (by kernel_rfl) (by kernel_rfl) (fun _ _ _ h => h) hT0 (by rfl) ?_ ?_
        rotate_left
        · (intro wq; go_simp; try with_reducible rfl)
        simp only [Act.put, List.setIfInBounds_toArray, List.set_cons_zero, List.set_cons_succ]
        refine wpF_take 16 (v := .pointer (some ⟨g + 1, d, none⟩)) rfl (by kernel_rfl) (by kernel_rfl) (by kernel_rfl) (fun _ _ _ h => h) hT0 (by rfl) (by intro wq; go_simp; first | done | (intro hh; exfalso; omega)) ?_
        simp only [Act.put, List.setIfInBounds_toArray, List.set_cons_zero, List.set_cons_succ]
        refine wpF_look 17 (v := .int .i64 m) rfl rfl (by kernel_rfl) (by kernel_rfl) (by kernel_rfl) (by kernel_rfl) (fun _ _ _ h => h) hT0 (by rfl) (fun w hS => by have hS : Ext no w3 w := hS; have q0 := hS.keeps hy (fun h => h); go_simp) ?_
        simp only [Act.put, List.setIfInBounds_toArray, List.set_cons_zero, List.set_cons_succ]
        refine wpF_take 18 (v := .int .i64 mq) rfl (by kernel_rfl) (by kernel_rfl) (by kernel_rfl) (fun _ _ _ h => h) hT0 (by rfl) (by intro wq; go_simp; first | done | rfl | rw [htd] | (rw [htd, IntKind.wrap_i64]; omega) | (rw [IntKind.wrap_i64]; omega)) ?_
        simp only [Act.put, List.setIfInBounds_toArray, List.set_cons_zero, List.set_cons_succ]
        refine wpF_take 19 (v := .int .i64 (97 + mq)) rfl (by kernel_rfl) (by kernel_rfl) (by kernel_rfl) (fun _ _ _ h => h) hT0 (by rfl) (by intro wq; go_simp; first | done | rfl | (rw [IntKind.wrap_i64]; omega)) ?_
        simp only [Act.put, List.setIfInBounds_toArray, List.set_cons_zero, List.set_cons_succ]
        refine wpF_take 20 (v := .int .u8 z3.toNat) rfl (by kernel_rfl) (by kernel_rfl) (by kernel_rfl) (fun _ _ _ h => h) hT0 (by rfl) (by intro wq; go_simp; have h8 := H3.out; first | done | (rw [IntKind.wrap_u8]; omega)) ?_
        simp only [Act.put, List.setIfInBounds_toArray, List.set_cons_zero, List.set_cons_succ]
        refine wpF_take 23 (v := ?_) rfl (by kernel_rfl) (by kernel_rfl) (by kernel_rfl) (fun _ _ _ h => h) hT0 (by rfl) ?_ ?_
        rotate_left
        · (intro wq; go_simp; try with_reducible rfl)
        simp only [Act.put, List.setIfInBounds_toArray, List.set_cons_zero, List.set_cons_succ]
        refine wpF_execs [21, 29] (by kernel_rfl) (by simp) ?_
        intro j hj
        simp only [List.mem_cons, List.not_mem_nil, or_false] at hj
        rcases hj with rfl | rfl
        · refine ⟨_, rfl, by rfl, ?_⟩
          intro K hK
          go_simp
          have hK0 := Blk.at (wd) #[.int .u8 z1.toNat, .int .u8 z2.toNat, .int .u8 z3.toNat] 5 (wd.heap.size) rfl
          have hxK := Ext.alloc no (wd) (.cells #[.int .u8 z1.toNat, .int .u8 z2.toNat, .int .u8 z3.toNat] 5)
          have hKr := Rd.lit (wd) #[.int .u8 z1.toNat, .int .u8 z2.toNat, .int .u8 z3.toNat] 5 (0, 0)
          obtain ⟨sb, hsbe⟩ : ∃ sb, sb = wd.heap.size := ⟨_, rfl⟩
          rw [← hsbe] at hK0 hKr ⊢
          generalize (wd).alloc (.cells #[.int .u8 z1.toNat, .int .u8 z2.toNat, .int .u8 z3.toNat] 5) = wA at *
          clear hsbe
          have hsl : Rd wA (some ⟨sb, 0, none⟩) (bs [z1, z2, z3]) := hKr
          have hzK := hxK.size
          have hT1 : ∀ k, looks [(0, fun z => Ext no w3 z), (4, fun z => Ext no w3 z), (11, fun z => Ext no w3 z), (17, fun z => Ext no w3 z), (22, fun z => Ext no wA z)] k (wA) := looks_all ⟨(hxd0).comp hxK, (hxd0).comp hxK, (hxd0).comp hxK, (hxd0).comp hxK, Ext.refl _ _, trivial⟩
          refine hK _ _ (looks [(0, fun z => Ext no w3 z), (4, fun z => Ext no w3 z), (11, fun z => Ext no w3 z), (17, fun z => Ext no w3 z), (22, fun z => Ext no wA z)]) ⟨.inr (.inr (fun x h => h)), .inr (.inr (fun x h => h)), .inr (.inl (by kernel_rfl)), .inr (.inl (by kernel_rfl)), .inl (by kernel_rfl), trivial⟩ hT1 ?_
          clear hK K
          try simp only [Act.put, List.setIfInBounds_toArray, List.set_cons_zero, List.set_cons_succ]
          refine wpF_look 22 (v := .string (str [z1, z2, z3])) rfl rfl (by kernel_rfl) (by kernel_rfl) (by kernel_rfl) (by kernel_rfl) (fun _ _ _ h => h) hT1 (by rfl) (fun w hS => by have hS : Ext no wA w := hS; exact yields_string (by exact Tryz.underlying39) (by exact Tryz.underlying5) (by exact Tryz.underlying9) rfl rfl rfl (hsl.ext hS (fun _ _ h => h))) ?_
          simp only [Act.put, List.setIfInBounds_toArray, List.set_cons_zero, List.set_cons_succ]
          refine wpF_take 24 (v := ?_) rfl (by kernel_rfl) (by kernel_rfl) (by kernel_rfl) (fun _ _ _ h => h) hT1 (by rfl) ?_ ?_
          rotate_left
          · (intro wq; go_simp; try with_reducible rfl)
          simp only [Act.put, List.setIfInBounds_toArray, List.set_cons_zero, List.set_cons_succ]
          refine wpF_execs [25, 29] (by kernel_rfl) (by simp) ?_
          intro j hj
          simp only [List.mem_cons, List.not_mem_nil, or_false] at hj
          rcases hj with rfl | rfl
          · refine ⟨_, rfl, by rfl, ?_⟩
            intro K hK
            go_simp
            refine (apply_any (wA) C k (⟨⟨d, 1, m⟩, 0, 3, 1, [107], [z1, z2, z3], 0, t, []⟩) none 0 (hm3.isIn.ext ((hxd0).comp hxK)) hsm hokC (Rd.nil _ _) (Nat.zero_le _) (by show 1 ≤ maxLen; decide) (by show 3 ≤ maxLen; decide)).mono ?_
            rintro e wB ⟨k2, rfl, hmB, hxB⟩
            rw [HC2.out] at hmB ⊢
            rw [Herr.out]
            unfold CollR.val
            have hzB := hxB.size
            have hzW := (show Ext no w3 (wA) from (hxd0).comp hxK).size
            have hT2 : ∀ k, looks [(0, fun z => Ext no w3 z), (4, fun z => Ext no w3 z), (11, fun z => Ext no w3 z), (17, fun z => Ext no w3 z), (22, fun z => Ext no wA z)] k (wB) := looks_all ⟨((hxd0).comp hxK).comp hxB, ((hxd0).comp hxK).comp hxB, ((hxd0).comp hxK).comp hxB, ((hxd0).comp hxK).comp hxB, (Ext.refl _ _).comp hxB, trivial⟩
            refine hK _ _ (looks [(0, fun z => Ext no w3 z), (4, fun z => Ext no w3 z), (11, fun z => Ext no w3 z), (17, fun z => Ext no w3 z), (22, fun z => Ext no wA z)]) ⟨.inr (.inl (by kernel_rfl)), .inr (.inl (by kernel_rfl)), .inr (.inl (by kernel_rfl)), .inr (.inl (by kernel_rfl)), .inr (.inl (by kernel_rfl)), trivial⟩ hT2 ?_
            clear hK K
            try simp only [Act.put, List.setIfInBounds_toArray, List.set_cons_zero, List.set_cons_succ]
            refine wpF_take 26 (v := ?_) rfl (by kernel_rfl) (by kernel_rfl) (by kernel_rfl) (fun _ _ _ h => h) hT2 (by rfl) ?_ ?_
            rotate_left
            · (intro wq; go_simp; try with_reducible rfl)
            simp only [Act.put, List.setIfInBounds_toArray, List.set_cons_zero, List.set_cons_succ]
            refine wpF_take 27 (v := ?_) rfl (by kernel_rfl) (by kernel_rfl) (by kernel_rfl) (fun _ _ _ h => h) hT2 (by rfl) ?_ ?_
            rotate_left
            · (intro wq; go_simp; try with_reducible rfl)
            simp only [Act.put, List.setIfInBounds_toArray, List.set_cons_zero, List.set_cons_succ]
            refine wpF_take 28 (v := ?_) rfl (by kernel_rfl) (by kernel_rfl) (by kernel_rfl) (fun _ _ _ h => h) hT2 (by rfl) ?_ ?_
            rotate_left
            · (intro wq; go_simp; try with_reducible rfl)
            simp only [Act.put, List.setIfInBounds_toArray, List.set_cons_zero, List.set_cons_succ]
            refine wpF_exec 29 rfl (by kernel_rfl) (by rfl) ?_
            intro K hK
            go_simp
            have hXb := Blk.at (wB) #[.slice none 0 0, .slice none 0 0, .slice none 0 0, .slice none 0 0, .slice none 0 0, .slice none 0 0] 31 (wB.heap.size) rfl
            have hxX := Ext.alloc no (wB) (.cells #[.slice none 0 0, .slice none 0 0, .slice none 0 0, .slice none 0 0, .slice none 0 0, .slice none 0 0] 31)
            obtain ⟨xb, hxbe⟩ : ∃ xb, xb = wB.heap.size := ⟨_, rfl⟩
            have hxL : wB.heap.size ≤ xb := by omega
            have hxU : xb ≤ wB.heap.size := by omega
            have hxW : w3.heap.size ≤ xb := by have := (show Ext no w3 (wB) from ((hxd0).comp hxK).comp hxB).size; have e : (wB).heap.size = wB.heap.size := rfl; omega
            rw [← hxbe] at hXb ⊢
            generalize (wB).alloc (.cells #[.slice none 0 0, .slice none 0 0, .slice none 0 0, .slice none 0 0, .slice none 0 0, .slice none 0 0] 31) = wX at *
            clear hxbe
            have hzX := hXb.lt (by simp)
            have hT3 : ∀ k, looks [(0, fun z => Ext no w3 z), (4, fun z => Ext no w3 z), (11, fun z => Ext no w3 z), (17, fun z => Ext no w3 z), (22, fun z => Ext no wA z)] k (wX) := looks_all ⟨(((hxd0).comp hxK).comp hxB).comp hxX, (((hxd0).comp hxK).comp hxB).comp hxX, (((hxd0).comp hxK).comp hxB).comp hxX, (((hxd0).comp hxK).comp hxB).comp hxX, ((Ext.refl _ _).comp hxB).comp hxX, trivial⟩
            refine hK _ _ (looks [(0, fun z => Ext no w3 z), (4, fun z => Ext no w3 z), (11, fun z => Ext no w3 z), (17, fun z => Ext no w3 z), (22, fun z => Ext no wA z)]) ⟨.inr (.inr (fun x h => h)), .inr (.inr (fun x h => h)), .inr (.inr (fun x h => h)), .inr (.inr (fun x h => h)), .inr (.inr (fun x h => h)), trivial⟩ hT3 ?_
            clear hK K
            try simp only [Act.put, List.setIfInBounds_toArray, List.set_cons_zero, List.set_cons_succ]
            refine wpF_exec 30 rfl (by kernel_rfl) (by rfl) ?_
            intro K hK
            have z0 := hXb.cell 0 _ rfl
            have z1 := hXb.cell 1 _ rfl
            have z2 := hXb.cell 2 _ rfl
            have z3 := hXb.cell 3 _ rfl
            have z4 := hXb.cell 4 _ rfl
            have z5 := hXb.cell 5 _ rfl
            have f0 := hXb.fr 0
            have f1 := hXb.fr 1
            have f2 := hXb.fr 2
            have f3 := hXb.fr 3
            have f4 := hXb.fr 4
            have f5 := hXb.fr 5
            go_simp
            have hbE := ((((((hXb.set 0 (.slice k2.v C2.v.length k2.vc) (by simp)).set 1 (.slice k2.r C2.regs.length k2.rc) (by simp)).set 2 (.slice k2.e C2.elems.length k2.ec) (by simp)).set 3 (.slice k2.g C2.gone.length k2.gc) (by simp)).set 4 (.slice k2.s C2.sums.length k2.sc) (by simp)).set 5 (.slice k2.b C2.binds.length k2.bc) (by simp))
            have hxE := (((((Ext.setCell (S := just xb) (wX) ⟨xb, 0, none⟩ (.slice k2.v C2.v.length k2.vc) rfl).comp (Ext.setCell _ ⟨xb, 1, none⟩ (.slice k2.r C2.regs.length k2.rc) rfl)).comp (Ext.setCell _ ⟨xb, 2, none⟩ (.slice k2.e C2.elems.length k2.ec) rfl)).comp (Ext.setCell _ ⟨xb, 3, none⟩ (.slice k2.g C2.gone.length k2.gc) rfl)).comp (Ext.setCell _ ⟨xb, 4, none⟩ (.slice k2.s C2.sums.length k2.sc) rfl)).comp (Ext.setCell _ ⟨xb, 5, none⟩ (.slice k2.b C2.binds.length k2.bc) rfl)
            clear z0 f0 z1 f1 z2 f2 z3 f3 z4 f4 z5 f5
            generalize ((((((wX).setCell ⟨xb, 0, none⟩ (.slice k2.v C2.v.length k2.vc)).setCell ⟨xb, 1, none⟩ (.slice k2.r C2.regs.length k2.rc)).setCell ⟨xb, 2, none⟩ (.slice k2.e C2.elems.length k2.ec)).setCell ⟨xb, 3, none⟩ (.slice k2.g C2.gone.length k2.gc)).setCell ⟨xb, 4, none⟩ (.slice k2.s C2.sums.length k2.sc)).setCell ⟨xb, 5, none⟩ (.slice k2.b C2.binds.length k2.bc) = wE at *
            have hmE : Mine C2 wE B k2 := ((hmB.no hxX).ext hxE (fun i ad hi e => by have e : ad.block = xb := e; have := hmB.base i ad hi; omega)).mono (by omega)
            have hxF : Ext no w3 wE := ((((hxd0).comp hxK).comp hxB).comp hxX).trans hxE (fun k hk e => by have e : k = xb := e; omega)
            have hT4 : ∀ k, looks [(0, fun z => True), (4, fun z => True), (11, fun z => True), (17, fun z => True), (22, fun z => True)] k (wE) := looks_all ⟨trivial, trivial, trivial, trivial, trivial, trivial⟩
            refine hK _ _ (looks [(0, fun z => True), (4, fun z => True), (11, fun z => True), (17, fun z => True), (22, fun z => True)]) ⟨.inr (.inl (by kernel_rfl)), .inr (.inl (by kernel_rfl)), .inr (.inl (by kernel_rfl)), .inr (.inl (by kernel_rfl)), .inr (.inl (by kernel_rfl)), trivial⟩ hT4 ?_
            clear hK K
            try simp only [Act.put, List.setIfInBounds_toArray, List.set_cons_zero, List.set_cons_succ]
            refine wpF_take 31 (v := ?_) rfl (by kernel_rfl) (by kernel_rfl) (by kernel_rfl) (fun _ _ _ h => h) hT4 (by rfl) ?_ ?_
            rotate_left
            · (intro wq; go_simp; try with_reducible rfl)
            simp only [Act.put, List.setIfInBounds_toArray, List.set_cons_zero, List.set_cons_succ]
            refine wpF_done (by kernel_rfl) ?_ _
            go_wp2_with fail
            go_meet
            exact ⟨xb, k2, rfl, rfl, hmE, hbE, hxF⟩
          · refine ⟨_, rfl, by rfl, ?_⟩
            intro K hK
            go_simp
            have hXb := Blk.at (wA) #[.slice none 0 0, .slice none 0 0, .slice none 0 0, .slice none 0 0, .slice none 0 0, .slice none 0 0] 31 (wA.heap.size) rfl
            have hxX := Ext.alloc no (wA) (.cells #[.slice none 0 0, .slice none 0 0, .slice none 0 0, .slice none 0 0, .slice none 0 0, .slice none 0 0] 31)
            obtain ⟨xb, hxbe⟩ : ∃ xb, xb = wA.heap.size := ⟨_, rfl⟩
            have hxL : wA.heap.size ≤ xb := by omega
            have hxU : xb ≤ wA.heap.size := by omega
            have hxW : w3.heap.size ≤ xb := by have := (show Ext no w3 (wA) from (hxd0).comp hxK).size; have e : (wA).heap.size = wA.heap.size := rfl; omega
            rw [← hxbe] at hXb ⊢
            generalize (wA).alloc (.cells #[.slice none 0 0, .slice none 0 0, .slice none 0 0, .slice none 0 0, .slice none 0 0, .slice none 0 0] 31) = wX at *
            clear hxbe
            have hzX := hXb.lt (by simp)
            have hT2 : ∀ k, looks [(0, fun z => Ext no w3 z), (4, fun z => Ext no w3 z), (11, fun z => Ext no w3 z), (17, fun z => Ext no w3 z), (22, fun z => Ext no wA z)] k (wX) := looks_all ⟨((hxd0).comp hxK).comp hxX, ((hxd0).comp hxK).comp hxX, ((hxd0).comp hxK).comp hxX, ((hxd0).comp hxK).comp hxX, (Ext.refl _ _).comp hxX, trivial⟩
            refine hK _ _ (looks [(0, fun z => Ext no w3 z), (4, fun z => Ext no w3 z), (11, fun z => Ext no w3 z), (17, fun z => Ext no w3 z), (22, fun z => Ext no wA z)]) ⟨.inr (.inr (fun x h => h)), .inr (.inr (fun x h => h)), .inr (.inr (fun x h => h)), .inr (.inr (fun x h => h)), .inr (.inr (fun x h => h)), trivial⟩ hT2 ?_
            clear hK K
            try simp only [Act.put, List.setIfInBounds_toArray, List.set_cons_zero, List.set_cons_succ]
            refine wpF_exec 25 rfl (by kernel_rfl) (by rfl) ?_
            intro K hK
            go_simp
            refine (apply_any (wX) C k (⟨⟨d, 1, m⟩, 0, 3, 1, [107], [z1, z2, z3], 0, t, []⟩) none 0 (hm3.isIn.ext (((hxd0).comp hxK).comp hxX)) hsm hokC (Rd.nil _ _) (Nat.zero_le _) (by show 1 ≤ maxLen; decide) (by show 3 ≤ maxLen; decide)).mono ?_
            rintro e wB ⟨k2, rfl, hmB, hxB⟩
            rw [HC2.out] at hmB ⊢
            rw [Herr.out]
            unfold CollR.val
            have hzB := hxB.size
            have hzW := (show Ext no w3 (wX) from ((hxd0).comp hxK).comp hxX).size
            have hXc := hXb.ext (by simp) hxB (fun h => h)
            have hT3 : ∀ k, looks [(0, fun z => Ext no w3 z), (4, fun z => Ext no w3 z), (11, fun z => Ext no w3 z), (17, fun z => Ext no w3 z), (22, fun z => Ext no wA z)] k (wB) := looks_all ⟨(((hxd0).comp hxK).comp hxX).comp hxB, (((hxd0).comp hxK).comp hxX).comp hxB, (((hxd0).comp hxK).comp hxX).comp hxB, (((hxd0).comp hxK).comp hxX).comp hxB, ((Ext.refl _ _).comp hxX).comp hxB, trivial⟩
            refine hK _ _ (looks [(0, fun z => Ext no w3 z), (4, fun z => Ext no w3 z), (11, fun z => Ext no w3 z), (17, fun z => Ext no w3 z), (22, fun z => Ext no wA z)]) ⟨.inr (.inl (by kernel_rfl)), .inr (.inl (by kernel_rfl)), .inr (.inl (by kernel_rfl)), .inr (.inl (by kernel_rfl)), .inr (.inl (by kernel_rfl)), trivial⟩ hT3 ?_
            clear hK K
            try simp only [Act.put, List.setIfInBounds_toArray, List.set_cons_zero, List.set_cons_succ]
            refine wpF_take 26 (v := ?_) rfl (by kernel_rfl) (by kernel_rfl) (by kernel_rfl) (fun _ _ _ h => h) hT3 (by rfl) ?_ ?_
            rotate_left
            · (intro wq; go_simp; try with_reducible rfl)
            simp only [Act.put, List.setIfInBounds_toArray, List.set_cons_zero, List.set_cons_succ]
            refine wpF_take 27 (v := ?_) rfl (by kernel_rfl) (by kernel_rfl) (by kernel_rfl) (fun _ _ _ h => h) hT3 (by rfl) ?_ ?_
            rotate_left
            · (intro wq; go_simp; try with_reducible rfl)
            simp only [Act.put, List.setIfInBounds_toArray, List.set_cons_zero, List.set_cons_succ]
            refine wpF_take 28 (v := ?_) rfl (by kernel_rfl) (by kernel_rfl) (by kernel_rfl) (fun _ _ _ h => h) hT3 (by rfl) ?_ ?_
            rotate_left
            · (intro wq; go_simp; try with_reducible rfl)
            simp only [Act.put, List.setIfInBounds_toArray, List.set_cons_zero, List.set_cons_succ]
            refine wpF_exec 30 rfl (by kernel_rfl) (by rfl) ?_
            intro K hK
            have z0 := hXc.cell 0 _ rfl
            have z1 := hXc.cell 1 _ rfl
            have z2 := hXc.cell 2 _ rfl
            have z3 := hXc.cell 3 _ rfl
            have z4 := hXc.cell 4 _ rfl
            have z5 := hXc.cell 5 _ rfl
            have f0 := hXc.fr 0
            have f1 := hXc.fr 1
            have f2 := hXc.fr 2
            have f3 := hXc.fr 3
            have f4 := hXc.fr 4
            have f5 := hXc.fr 5
            go_simp
            have hbE := ((((((hXc.set 0 (.slice k2.v C2.v.length k2.vc) (by simp)).set 1 (.slice k2.r C2.regs.length k2.rc) (by simp)).set 2 (.slice k2.e C2.elems.length k2.ec) (by simp)).set 3 (.slice k2.g C2.gone.length k2.gc) (by simp)).set 4 (.slice k2.s C2.sums.length k2.sc) (by simp)).set 5 (.slice k2.b C2.binds.length k2.bc) (by simp))
            have hxE := (((((Ext.setCell (S := just xb) (wB) ⟨xb, 0, none⟩ (.slice k2.v C2.v.length k2.vc) rfl).comp (Ext.setCell _ ⟨xb, 1, none⟩ (.slice k2.r C2.regs.length k2.rc) rfl)).comp (Ext.setCell _ ⟨xb, 2, none⟩ (.slice k2.e C2.elems.length k2.ec) rfl)).comp (Ext.setCell _ ⟨xb, 3, none⟩ (.slice k2.g C2.gone.length k2.gc) rfl)).comp (Ext.setCell _ ⟨xb, 4, none⟩ (.slice k2.s C2.sums.length k2.sc) rfl)).comp (Ext.setCell _ ⟨xb, 5, none⟩ (.slice k2.b C2.binds.length k2.bc) rfl)
            clear z0 f0 z1 f1 z2 f2 z3 f3 z4 f4 z5 f5
            generalize ((((((wB).setCell ⟨xb, 0, none⟩ (.slice k2.v C2.v.length k2.vc)).setCell ⟨xb, 1, none⟩ (.slice k2.r C2.regs.length k2.rc)).setCell ⟨xb, 2, none⟩ (.slice k2.e C2.elems.length k2.ec)).setCell ⟨xb, 3, none⟩ (.slice k2.g C2.gone.length k2.gc)).setCell ⟨xb, 4, none⟩ (.slice k2.s C2.sums.length k2.sc)).setCell ⟨xb, 5, none⟩ (.slice k2.b C2.binds.length k2.bc) = wE at *
            have hmE : Mine C2 wE B k2 := (hmB.ext hxE (fun i ad hi e => by have e : ad.block = xb := e; have := hmB.base i ad hi; omega)).mono (by omega)
            have hxF : Ext no w3 wE := ((((hxd0).comp hxK).comp hxX).comp hxB).trans hxE (fun k hk e => by have e : k = xb := e; omega)
            have hT4 : ∀ k, looks [(0, fun z => True), (4, fun z => True), (11, fun z => True), (17, fun z => True), (22, fun z => True)] k (wE) := looks_all ⟨trivial, trivial, trivial, trivial, trivial, trivial⟩
            refine hK _ _ (looks [(0, fun z => True), (4, fun z => True), (11, fun z => True), (17, fun z => True), (22, fun z => True)]) ⟨.inr (.inl (by kernel_rfl)), .inr (.inl (by kernel_rfl)), .inr (.inl (by kernel_rfl)), .inr (.inl (by kernel_rfl)), .inr (.inl (by kernel_rfl)), trivial⟩ hT4 ?_
            clear hK K
            try simp only [Act.put, List.setIfInBounds_toArray, List.set_cons_zero, List.set_cons_succ]
            refine wpF_take 31 (v := ?_) rfl (by kernel_rfl) (by kernel_rfl) (by kernel_rfl) (fun _ _ _ h => h) hT4 (by rfl) ?_ ?_
            rotate_left
            · (intro wq; go_simp; try with_reducible rfl)
            simp only [Act.put, List.setIfInBounds_toArray, List.set_cons_zero, List.set_cons_succ]
            refine wpF_done (by kernel_rfl) ?_ _
            go_wp2_with fail
            go_meet
            exact ⟨xb, k2, rfl, rfl, hmE, hbE, hxF⟩
        · refine ⟨_, rfl, by rfl, ?_⟩
          intro K hK
          go_simp
          have hXb := Blk.at (wd) #[.slice none 0 0, .slice none 0 0, .slice none 0 0, .slice none 0 0, .slice none 0 0, .slice none 0 0] 31 (wd.heap.size) rfl
          have hxX := Ext.alloc no (wd) (.cells #[.slice none 0 0, .slice none 0 0, .slice none 0 0, .slice none 0 0, .slice none 0 0, .slice none 0 0] 31)
          obtain ⟨xb, hxbe⟩ : ∃ xb, xb = wd.heap.size := ⟨_, rfl⟩
          have hxL : wd.heap.size ≤ xb := by omega
          have hxU : xb ≤ wd.heap.size := by omega
          have hxW : w3.heap.size ≤ xb := by have := (show Ext no w3 (wd) from hxd0).size; have e : (wd).heap.size = wd.heap.size := rfl; omega
          rw [← hxbe] at hXb ⊢
          generalize (wd).alloc (.cells #[.slice none 0 0, .slice none 0 0, .slice none 0 0, .slice none 0 0, .slice none 0 0, .slice none 0 0] 31) = wX at *
          clear hxbe
          have hzX := hXb.lt (by simp)
          have hT1 : ∀ k, looks [(0, fun z => Ext no w3 z), (4, fun z => Ext no w3 z), (11, fun z => Ext no w3 z), (17, fun z => Ext no w3 z), (22, fun z => True)] k (wX) := looks_all ⟨(hxd0).comp hxX, (hxd0).comp hxX, (hxd0).comp hxX, (hxd0).comp hxX, trivial, trivial⟩
          refine hK _ _ (looks [(0, fun z => Ext no w3 z), (4, fun z => Ext no w3 z), (11, fun z => Ext no w3 z), (17, fun z => Ext no w3 z), (22, fun z => True)]) ⟨.inr (.inr (fun x h => h)), .inr (.inr (fun x h => h)), .inr (.inr (fun x h => h)), .inr (.inr (fun x h => h)), .inl (by kernel_rfl), trivial⟩ hT1 ?_
          clear hK K
          try simp only [Act.put, List.setIfInBounds_toArray, List.set_cons_zero, List.set_cons_succ]
          refine wpF_exec 21 rfl (by kernel_rfl) (by rfl) ?_
          intro K hK
          go_simp
          have hK0 := Blk.at (wX) #[.int .u8 z1.toNat, .int .u8 z2.toNat, .int .u8 z3.toNat] 5 (wX.heap.size) rfl
          have hxK := Ext.alloc no (wX) (.cells #[.int .u8 z1.toNat, .int .u8 z2.toNat, .int .u8 z3.toNat] 5)
          have hKr := Rd.lit (wX) #[.int .u8 z1.toNat, .int .u8 z2.toNat, .int .u8 z3.toNat] 5 (0, 0)
          have hXk := hXb.ext (by simp) hxK (fun h => h)
          obtain ⟨sb, hsbe⟩ : ∃ sb, sb = wX.heap.size := ⟨_, rfl⟩
          rw [← hsbe] at hK0 hKr ⊢
          generalize (wX).alloc (.cells #[.int .u8 z1.toNat, .int .u8 z2.toNat, .int .u8 z3.toNat] 5) = wA at *
          clear hsbe
          have hsl : Rd wA (some ⟨sb, 0, none⟩) (bs [z1, z2, z3]) := hKr
          have hzK := hxK.size
          have hT2 : ∀ k, looks [(0, fun z => Ext no w3 z), (4, fun z => Ext no w3 z), (11, fun z => Ext no w3 z), (17, fun z => Ext no w3 z), (22, fun z => Ext no wA z)] k (wA) := looks_all ⟨((hxd0).comp hxX).comp hxK, ((hxd0).comp hxX).comp hxK, ((hxd0).comp hxX).comp hxK, ((hxd0).comp hxX).comp hxK, Ext.refl _ _, trivial⟩
          refine hK _ _ (looks [(0, fun z => Ext no w3 z), (4, fun z => Ext no w3 z), (11, fun z => Ext no w3 z), (17, fun z => Ext no w3 z), (22, fun z => Ext no wA z)]) ⟨.inr (.inr (fun x h => h)), .inr (.inr (fun x h => h)), .inr (.inl (by kernel_rfl)), .inr (.inl (by kernel_rfl)), .inl (by kernel_rfl), trivial⟩ hT2 ?_
          clear hK K
          try simp only [Act.put, List.setIfInBounds_toArray, List.set_cons_zero, List.set_cons_succ]
          refine wpF_look 22 (v := .string (str [z1, z2, z3])) rfl rfl (by kernel_rfl) (by kernel_rfl) (by kernel_rfl) (by kernel_rfl) (fun _ _ _ h => h) hT2 (by rfl) (fun w hS => by have hS : Ext no wA w := hS; exact yields_string (by exact Tryz.underlying39) (by exact Tryz.underlying5) (by exact Tryz.underlying9) rfl rfl rfl (hsl.ext hS (fun _ _ h => h))) ?_
          simp only [Act.put, List.setIfInBounds_toArray, List.set_cons_zero, List.set_cons_succ]
          refine wpF_take 24 (v := ?_) rfl (by kernel_rfl) (by kernel_rfl) (by kernel_rfl) (fun _ _ _ h => h) hT2 (by rfl) ?_ ?_
          rotate_left
          · (intro wq; go_simp; try with_reducible rfl)
          simp only [Act.put, List.setIfInBounds_toArray, List.set_cons_zero, List.set_cons_succ]
          refine wpF_exec 25 rfl (by kernel_rfl) (by rfl) ?_
          intro K hK
          go_simp
          refine (apply_any (wA) C k (⟨⟨d, 1, m⟩, 0, 3, 1, [107], [z1, z2, z3], 0, t, []⟩) none 0 (hm3.isIn.ext (((hxd0).comp hxX).comp hxK)) hsm hokC (Rd.nil _ _) (Nat.zero_le _) (by show 1 ≤ maxLen; decide) (by show 3 ≤ maxLen; decide)).mono ?_
          rintro e wB ⟨k2, rfl, hmB, hxB⟩
          rw [HC2.out] at hmB ⊢
          rw [Herr.out]
          unfold CollR.val
          have hzB := hxB.size
          have hzW := (show Ext no w3 (wA) from ((hxd0).comp hxX).comp hxK).size
          have hXc := hXk.ext (by simp) hxB (fun h => h)
          have hT3 : ∀ k, looks [(0, fun z => Ext no w3 z), (4, fun z => Ext no w3 z), (11, fun z => Ext no w3 z), (17, fun z => Ext no w3 z), (22, fun z => Ext no wA z)] k (wB) := looks_all ⟨(((hxd0).comp hxX).comp hxK).comp hxB, (((hxd0).comp hxX).comp hxK).comp hxB, (((hxd0).comp hxX).comp hxK).comp hxB, (((hxd0).comp hxX).comp hxK).comp hxB, (Ext.refl _ _).comp hxB, trivial⟩
          refine hK _ _ (looks [(0, fun z => Ext no w3 z), (4, fun z => Ext no w3 z), (11, fun z => Ext no w3 z), (17, fun z => Ext no w3 z), (22, fun z => Ext no wA z)]) ⟨.inr (.inl (by kernel_rfl)), .inr (.inl (by kernel_rfl)), .inr (.inl (by kernel_rfl)), .inr (.inl (by kernel_rfl)), .inr (.inl (by kernel_rfl)), trivial⟩ hT3 ?_
          clear hK K
          try simp only [Act.put, List.setIfInBounds_toArray, List.set_cons_zero, List.set_cons_succ]
          refine wpF_take 26 (v := ?_) rfl (by kernel_rfl) (by kernel_rfl) (by kernel_rfl) (fun _ _ _ h => h) hT3 (by rfl) ?_ ?_
          rotate_left
          · (intro wq; go_simp; try with_reducible rfl)
          simp only [Act.put, List.setIfInBounds_toArray, List.set_cons_zero, List.set_cons_succ]
          refine wpF_take 27 (v := ?_) rfl (by kernel_rfl) (by kernel_rfl) (by kernel_rfl) (fun _ _ _ h => h) hT3 (by rfl) ?_ ?_
          rotate_left
          · (intro wq; go_simp; try with_reducible rfl)
          simp only [Act.put, List.setIfInBounds_toArray, List.set_cons_zero, List.set_cons_succ]
          refine wpF_take 28 (v := ?_) rfl (by kernel_rfl) (by kernel_rfl) (by kernel_rfl) (fun _ _ _ h => h) hT3 (by rfl) ?_ ?_
          rotate_left
          · (intro wq; go_simp; try with_reducible rfl)
          simp only [Act.put, List.setIfInBounds_toArray, List.set_cons_zero, List.set_cons_succ]
          refine wpF_exec 30 rfl (by kernel_rfl) (by rfl) ?_
          intro K hK
          have z0 := hXc.cell 0 _ rfl
          have z1 := hXc.cell 1 _ rfl
          have z2 := hXc.cell 2 _ rfl
          have z3 := hXc.cell 3 _ rfl
          have z4 := hXc.cell 4 _ rfl
          have z5 := hXc.cell 5 _ rfl
          have f0 := hXc.fr 0
          have f1 := hXc.fr 1
          have f2 := hXc.fr 2
          have f3 := hXc.fr 3
          have f4 := hXc.fr 4
          have f5 := hXc.fr 5
          go_simp
          have hbE := ((((((hXc.set 0 (.slice k2.v C2.v.length k2.vc) (by simp)).set 1 (.slice k2.r C2.regs.length k2.rc) (by simp)).set 2 (.slice k2.e C2.elems.length k2.ec) (by simp)).set 3 (.slice k2.g C2.gone.length k2.gc) (by simp)).set 4 (.slice k2.s C2.sums.length k2.sc) (by simp)).set 5 (.slice k2.b C2.binds.length k2.bc) (by simp))
          have hxE := (((((Ext.setCell (S := just xb) (wB) ⟨xb, 0, none⟩ (.slice k2.v C2.v.length k2.vc) rfl).comp (Ext.setCell _ ⟨xb, 1, none⟩ (.slice k2.r C2.regs.length k2.rc) rfl)).comp (Ext.setCell _ ⟨xb, 2, none⟩ (.slice k2.e C2.elems.length k2.ec) rfl)).comp (Ext.setCell _ ⟨xb, 3, none⟩ (.slice k2.g C2.gone.length k2.gc) rfl)).comp (Ext.setCell _ ⟨xb, 4, none⟩ (.slice k2.s C2.sums.length k2.sc) rfl)).comp (Ext.setCell _ ⟨xb, 5, none⟩ (.slice k2.b C2.binds.length k2.bc) rfl)
          clear z0 f0 z1 f1 z2 f2 z3 f3 z4 f4 z5 f5
          generalize ((((((wB).setCell ⟨xb, 0, none⟩ (.slice k2.v C2.v.length k2.vc)).setCell ⟨xb, 1, none⟩ (.slice k2.r C2.regs.length k2.rc)).setCell ⟨xb, 2, none⟩ (.slice k2.e C2.elems.length k2.ec)).setCell ⟨xb, 3, none⟩ (.slice k2.g C2.gone.length k2.gc)).setCell ⟨xb, 4, none⟩ (.slice k2.s C2.sums.length k2.sc)).setCell ⟨xb, 5, none⟩ (.slice k2.b C2.binds.length k2.bc) = wE at *
          have hmE : Mine C2 wE B k2 := (hmB.ext hxE (fun i ad hi e => by have e : ad.block = xb := e; have := hmB.base i ad hi; omega)).mono (by omega)
          have hxF : Ext no w3 wE := ((((hxd0).comp hxX).comp hxK).comp hxB).trans hxE (fun k hk e => by have e : k = xb := e; omega)
          have hT4 : ∀ k, looks [(0, fun z => True), (4, fun z => True), (11, fun z => True), (17, fun z => True), (22, fun z => True)] k (wE) := looks_all ⟨trivial, trivial, trivial, trivial, trivial, trivial⟩
          refine hK _ _ (looks [(0, fun z => True), (4, fun z => True), (11, fun z => True), (17, fun z => True), (22, fun z => True)]) ⟨.inr (.inl (by kernel_rfl)), .inr (.inl (by kernel_rfl)), .inr (.inl (by kernel_rfl)), .inr (.inl (by kernel_rfl)), .inr (.inl (by kernel_rfl)), trivial⟩ hT4 ?_
          clear hK K
          try simp only [Act.put, List.setIfInBounds_toArray, List.set_cons_zero, List.set_cons_succ]
          refine wpF_take 31 (v := ?_) rfl (by kernel_rfl) (by kernel_rfl) (by kernel_rfl) (fun _ _ _ h => h) hT4 (by rfl) ?_ ?_
          rotate_left
          · (intro wq; go_simp; try with_reducible rfl)
          simp only [Act.put, List.setIfInBounds_toArray, List.set_cons_zero, List.set_cons_succ]
          refine wpF_done (by kernel_rfl) ?_ _
          go_wp2_with fail
          go_meet
          exact ⟨xb, k2, rfl, rfl, hmE, hbE, hxF⟩
      case rest =>
        obtain ⟨xb, k2, rfl, rfl, hm5, hX5, hx5⟩ := hcut
        clear c0 c1 c2 c3 c4 c5 hy Herr HC2 hsm hokC
        have hC5 := hC3.ext (by simp) hx5 (fun h => h)
        have hN5 := hN3.ext (natC_ne (by omega)) hx5 (fun h => h)
        have hxx := hx3.comp hx5
        have hz5 := hx5.size
        clear hC3 hN3 hx3 hx5 hm3
        have x0 := hX5.cell 0 _ rfl
        have x1 := hX5.cell 1 _ rfl
        have x2 := hX5.cell 2 _ rfl
        have x3 := hX5.cell 3 _ rfl
        have x4 := hX5.cell 4 _ rfl
        have x5 := hX5.cell 5 _ rfl
        have c0 := hC5.cell 0 _ rfl
        have c1 := hC5.cell 1 _ rfl
        have c2 := hC5.cell 2 _ rfl
        have c3 := hC5.cell 3 _ rfl
        have c4 := hC5.cell 4 _ rfl
        have c5 := hC5.cell 5 _ rfl
        have f0 := hC5.fr 0
        have f1 := hC5.fr 1
        have f2 := hC5.fr 2
        have f3 := hC5.fr 3
        have f4 := hC5.fr 4
        have f5 := hC5.fr 5
        go_upto_region 15 with fail
        have hC4 := ((((((hC5.set 0 (.slice k2.v C2.v.length k2.vc) (by simp)).set 1 (.slice k2.r C2.regs.length k2.rc) (by simp)).set 2 (.slice k2.e C2.elems.length k2.ec) (by simp)).set 3 (.slice k2.g C2.gone.length k2.gc) (by simp)).set 4 (.slice k2.s C2.sums.length k2.sc) (by simp)).set 5 (.slice k2.b C2.binds.length k2.bc) (by simp))
        have hxs := (((((Ext.setCell (S := just g) wc ⟨g, 0, none⟩ (.slice k2.v C2.v.length k2.vc) rfl).comp (Ext.setCell _ ⟨g, 1, none⟩ (.slice k2.r C2.regs.length k2.rc) rfl)).comp (Ext.setCell _ ⟨g, 2, none⟩ (.slice k2.e C2.elems.length k2.ec) rfl)).comp (Ext.setCell _ ⟨g, 3, none⟩ (.slice k2.g C2.gone.length k2.gc) rfl)).comp (Ext.setCell _ ⟨g, 4, none⟩ (.slice k2.s C2.sums.length k2.sc) rfl)).comp (Ext.setCell _ ⟨g, 5, none⟩ (.slice k2.b C2.binds.length k2.bc) rfl)
        have hN4 := hN5.ext (natC_ne (by omega)) hxs (fun e => by have e : g + 1 = g := e; omega)
        have hm4 := hm5.ext hxs (fun i ad hi e => by have e : ad.block = g := e; have := hm5.base i ad hi; omega)
        have hx4 := hxx.trans hxs (fun k hk e => by have e : k = g := e; omega)
        have hz4 := hxs.size
        clear hxs hC5 hm5 hX5 hxx x0 c0 f0 x1 c1 f1 x2 c2 f2 x3 c3 f3 x4 c4 f4 x5 c5 f5
        generalize (((((wc.setCell ⟨g, 0, none⟩ (.slice k2.v C2.v.length k2.vc)).setCell ⟨g, 1, none⟩ (.slice k2.r C2.regs.length k2.rc)).setCell ⟨g, 2, none⟩ (.slice k2.e C2.elems.length k2.ec)).setCell ⟨g, 3, none⟩ (.slice k2.g C2.gone.length k2.gc)).setCell ⟨g, 4, none⟩ (.slice k2.s C2.sums.length k2.sc)).setCell ⟨g, 5, none⟩ (.slice k2.b C2.binds.length k2.bc) = w4 at *
        go_cut [89] (fun s89 wx => s89 = .bool tt ∧ wx = w4)
        case first =>
          by_cases hc1 : best < t
          · have t0 : decide (best < t) = true := decT hc1
            have Ht := Lib.hid (show tt = true by rw [Htt.out]; exact decT (.inl hc1))
            clear hc1
            go_wp2_with fail
            go_meet
            exact ⟨by rw [Ht.out], rfl⟩
          · have t0 : decide (best < t) = false := decF hc1
            by_cases hc2 : t = best
            · have t1 : (t == best) = true := by rw [beq_iff_eq]; exact hc2
              by_cases hc3 : who ≤ d
              · have t2 : decide (who ≤ (d : Int)) = true := decT hc3
                have Ht := Lib.hid (show tt = true by rw [Htt.out]; exact decT (.inr ⟨hc2, hc3⟩))
                clear hc1 hc2 hc3
                go_wp2_with fail
                go_meet
                exact ⟨by rw [Ht.out], rfl⟩
              · have t2 : decide (who ≤ (d : Int)) = false := decF hc3
                have Ht := Lib.hid (show tt = false by rw [Htt.out]; exact decF (by omega))
                clear hc1 hc2 hc3
                go_wp2_with fail
                go_meet
                exact ⟨by rw [Ht.out], rfl⟩
            · have t1 : (t == best) = false := by rw [beq_eq_false_iff_ne]; exact hc2
              have Ht := Lib.hid (show tt = false by rw [Htt.out]; exact decF (by omega))
              clear hc1 hc2
              go_wp2_with fail
              go_meet
              exact ⟨by rw [Ht.out], rfl⟩
        case rest =>
        obtain ⟨rfl, rfl⟩ := hcut
        go_upto_if 89 with fail
        go_cut [4, 5] (fun s4 s5 wx => s4 = .int .i64 best2 ∧ s5 = .int .i64 who2 ∧ Ext no wc wx)
        case first =>
          cases tt with
          | true =>
            have Hs := Lib.hid (Hsay.out rfl)
            have Hb := Lib.hid (show best2 = t from Hb2.out)
            have Hw := Lib.hid (show who2 = d from Hw2.out)
            have htx := hcn2.tx
            have hsR := hcn2.sm.r
            have hoR := hcn2.fine.ok.r
            have hy4 : wc.cell? ⟨g + 1, d, none⟩ = some (.int .i64 m) := by have h := hN4.cell d _ (natC_get hd6); rw [HNM.out] at h; exact h
            clear Hsay Hb2 Hw2 Htt
            have c0 := hC4.cell 0 _ rfl
            have c1 := hC4.cell 1 _ rfl
            have c2 := hC4.cell 2 _ rfl
            have c3 := hC4.cell 3 _ rfl
            have c4 := hC4.cell 4 _ rfl
            have c5 := hC4.cell 5 _ rfl
            go_wp2_with fail
            refine (regsay_any wc C2 k2 [107] 3 hm4.r.rd (by omega) hoR (by unfold I64ok; omega) htx).mono ?_
            rintro e wf ⟨rfl, hxf⟩
            rw [Hs.out]
            have hyf := hxf.keeps hy4 (fun h => h)
            clear c0 c1 c2 c3 c4 c5 hy4
            have hseq : ((str [z1, z2, z3]).toList == (str [z1, z2, z3]).toList) = true := beqStrT rfl
            go_upto_region 18 with fail
            refine wp_region_F [9, 15, 20] (looks [(9, fun z => Ext no wf z), (15, fun z => Ext no wf z), (20, fun z => True)]) (by kernel_rfl) ?_
            have hxd8 := Ext.drew no wf
            generalize wf.drew = wd8 at *
            have hT0 : ∀ k, looks [(9, fun z => Ext no wf z), (15, fun z => Ext no wf z), (20, fun z => True)] k (wd8) := looks_all ⟨hxd8, hxd8, trivial, trivial⟩
            refine wpF_take 0 (v := ?_) rfl (by kernel_rfl) (by kernel_rfl) (by kernel_rfl) (fun _ _ _ h => h) hT0 (by rfl) ?_ ?_
            rotate_left
            · (intro wq; go_simp; try with_reducible rfl)
            simp only [Act.put, List.setIfInBounds_toArray, List.set_cons_zero, List.set_cons_succ]
            refine wpF_take 1 (v := .bool false) rfl (by kernel_rfl) (by kernel_rfl) (by kernel_rfl) (fun _ _ _ h => h) hT0 (by rfl) (by intro wq; go_simp; first | done | rfl) ?_
            simp only [Act.put, List.setIfInBounds_toArray, List.set_cons_zero, List.set_cons_succ]
            refine wpF_take 2 (v := ?_) rfl (by kernel_rfl) (by kernel_rfl) (by kernel_rfl) (fun _ _ _ h => h) hT0 (by rfl) ?_ ?_
            rotate_left
            · (intro wq; go_simp; try with_reducible rfl)
            simp only [Act.put, List.setIfInBounds_toArray, List.set_cons_zero, List.set_cons_succ]
            refine wpF_take 3 (v := ?_) rfl (by kernel_rfl) (by kernel_rfl) (by kernel_rfl) (fun _ _ _ h => h) hT0 (by rfl) ?_ ?_
            rotate_left
            · (intro wq; go_simp; try with_reducible rfl)
            simp only [Act.put, List.setIfInBounds_toArray, List.set_cons_zero, List.set_cons_succ]
            refine wpF_take 4 (v := ?_) rfl (by kernel_rfl) (by kernel_rfl) (by kernel_rfl) (fun _ _ _ h => h) hT0 (by rfl) ?_ ?_
            rotate_left
            · (intro wq; go_simp; try with_reducible rfl)
            simp only [Act.put, List.setIfInBounds_toArray, List.set_cons_zero, List.set_cons_succ]
            refine wpF_take 5 (v := .int .i64 (97 + d)) rfl (by kernel_rfl) (by kernel_rfl) (by kernel_rfl) (fun _ _ _ h => h) hT0 (by rfl) (by intro wq; go_simp; first | done | rfl | (rw [IntKind.wrap_i64]; omega)) ?_
            simp only [Act.put, List.setIfInBounds_toArray, List.set_cons_zero, List.set_cons_succ]
            refine wpF_take 6 (v := .int .u8 z1.toNat) rfl (by kernel_rfl) (by kernel_rfl) (by kernel_rfl) (fun _ _ _ h => h) hT0 (by rfl) (by intro wq; go_simp; have h8 := H1.out; first | done | (rw [IntKind.wrap_u8]; omega)) ?_
            simp only [Act.put, List.setIfInBounds_toArray, List.set_cons_zero, List.set_cons_succ]
            refine wpF_take 7 (v := ?_) rfl (by kernel_rfl) (by kernel_rfl) (by kernel_rfl) (fun _ _ _ h => h) hT0 (by rfl) ?_ ?_
            rotate_left
            · (intro wq; go_simp; try with_reducible rfl)
            simp only [Act.put, List.setIfInBounds_toArray, List.set_cons_zero, List.set_cons_succ]
            refine wpF_take 8 (v := .pointer (some ⟨g + 1, d, none⟩)) rfl (by kernel_rfl) (by kernel_rfl) (by kernel_rfl) (fun _ _ _ h => h) hT0 (by rfl) (by intro wq; go_simp; first | done | (intro hh; exfalso; omega)) ?_
            simp only [Act.put, List.setIfInBounds_toArray, List.set_cons_zero, List.set_cons_succ]
            refine wpF_look 9 (v := .int .i64 m) rfl rfl (by kernel_rfl) (by kernel_rfl) (by kernel_rfl) (by kernel_rfl) (fun _ _ _ h => h) hT0 (by rfl) (fun w hS => by have hS : Ext no wf w := hS; have q0 := hS.keeps hyf (fun h => h); go_simp) ?_
            simp only [Act.put, List.setIfInBounds_toArray, List.set_cons_zero, List.set_cons_succ]
            refine wpF_take 10 (v := .int .i64 mr) rfl (by kernel_rfl) (by kernel_rfl) (by kernel_rfl) (fun _ _ _ h => h) hT0 (by rfl) (by intro wq; go_simp; first | done | rfl | rw [htm] | (rw [htm, IntKind.wrap_i64]; omega) | (rw [IntKind.wrap_i64]; omega)) ?_
            simp only [Act.put, List.setIfInBounds_toArray, List.set_cons_zero, List.set_cons_succ]
            refine wpF_take 11 (v := .int .i64 (48 + mr)) rfl (by kernel_rfl) (by kernel_rfl) (by kernel_rfl) (fun _ _ _ h => h) hT0 (by rfl) (by intro wq; go_simp; first | done | rfl | (rw [IntKind.wrap_i64]; omega)) ?_
            simp only [Act.put, List.setIfInBounds_toArray, List.set_cons_zero, List.set_cons_succ]
            refine wpF_take 12 (v := .int .u8 z2.toNat) rfl (by kernel_rfl) (by kernel_rfl) (by kernel_rfl) (fun _ _ _ h => h) hT0 (by rfl) (by intro wq; go_simp; have h8 := H2.out; first | done | (rw [IntKind.wrap_u8]; omega)) ?_
            simp only [Act.put, List.setIfInBounds_toArray, List.set_cons_zero, List.set_cons_succ]
            refine wpF_take 13 (v := ?_) rfl (by kernel_rfl) (by kernel_rfl) (by kernel_rfl) (fun _ _ _ h => h) hT0 (by rfl) ?_ ?_
            rotate_left
            · (intro wq; go_simp; try with_reducible rfl)
            simp only [Act.put, List.setIfInBounds_toArray, List.set_cons_zero, List.set_cons_succ]
            refine wpF_take 14 (v := .pointer (some ⟨g + 1, d, none⟩)) rfl (by kernel_rfl) (by kernel_rfl) (by kernel_rfl) (fun _ _ _ h => h) hT0 (by rfl) (by intro wq; go_simp; first | done | (intro hh; exfalso; omega)) ?_
            simp only [Act.put, List.setIfInBounds_toArray, List.set_cons_zero, List.set_cons_succ]
            refine wpF_look 15 (v := .int .i64 m) rfl rfl (by kernel_rfl) (by kernel_rfl) (by kernel_rfl) (by kernel_rfl) (fun _ _ _ h => h) hT0 (by rfl) (fun w hS => by have hS : Ext no wf w := hS; have q0 := hS.keeps hyf (fun h => h); go_simp) ?_
            simp only [Act.put, List.setIfInBounds_toArray, List.set_cons_zero, List.set_cons_succ]
            refine wpF_take 16 (v := .int .i64 mq) rfl (by kernel_rfl) (by kernel_rfl) (by kernel_rfl) (fun _ _ _ h => h) hT0 (by rfl) (by intro wq; go_simp; first | done | rfl | rw [htd] | (rw [htd, IntKind.wrap_i64]; omega) | (rw [IntKind.wrap_i64]; omega)) ?_
            simp only [Act.put, List.setIfInBounds_toArray, List.set_cons_zero, List.set_cons_succ]
            refine wpF_take 17 (v := .int .i64 (97 + mq)) rfl (by kernel_rfl) (by kernel_rfl) (by kernel_rfl) (fun _ _ _ h => h) hT0 (by rfl) (by intro wq; go_simp; first | done | rfl | (rw [IntKind.wrap_i64]; omega)) ?_
            simp only [Act.put, List.setIfInBounds_toArray, List.set_cons_zero, List.set_cons_succ]
            refine wpF_take 18 (v := .int .u8 z3.toNat) rfl (by kernel_rfl) (by kernel_rfl) (by kernel_rfl) (fun _ _ _ h => h) hT0 (by rfl) (by intro wq; go_simp; have h8 := H3.out; first | done | (rw [IntKind.wrap_u8]; omega)) ?_
            simp only [Act.put, List.setIfInBounds_toArray, List.set_cons_zero, List.set_cons_succ]
            refine wpF_exec 19 rfl (by kernel_rfl) (by rfl) ?_
            intro K hK
            go_simp
            have hKr := Rd.lit wd8 #[.int .u8 z1.toNat, .int .u8 z2.toNat, .int .u8 z3.toNat] 5 (0, 0)
            have hxK := Ext.alloc no wd8 (.cells #[.int .u8 z1.toNat, .int .u8 z2.toNat, .int .u8 z3.toNat] 5)
            obtain ⟨sb, hsbe⟩ : ∃ sb, sb = wd8.heap.size := ⟨_, rfl⟩
            rw [← hsbe] at hKr ⊢
            generalize wd8.alloc (.cells #[.int .u8 z1.toNat, .int .u8 z2.toNat, .int .u8 z3.toNat] 5) = wA at *
            clear hsbe
            have hsl : Rd wA (some ⟨sb, 0, none⟩) (bs [z1, z2, z3]) := hKr
            have hT1 : ∀ k, looks [(9, fun z => Ext no wf z), (15, fun z => Ext no wf z), (20, fun z => Ext no wA z)] k (wA) := looks_all ⟨(hxd8).comp hxK, (hxd8).comp hxK, Ext.refl _ _, trivial⟩
            refine hK _ _ (looks [(9, fun z => Ext no wf z), (15, fun z => Ext no wf z), (20, fun z => Ext no wA z)]) ⟨.inr (.inl (by kernel_rfl)), .inr (.inl (by kernel_rfl)), .inl (by kernel_rfl), trivial⟩ hT1 ?_
            clear hK K
            try simp only [Act.put, List.setIfInBounds_toArray, List.set_cons_zero, List.set_cons_succ]
            refine wpF_look 20 (v := .string (str [z1, z2, z3])) rfl rfl (by kernel_rfl) (by kernel_rfl) (by kernel_rfl) (by kernel_rfl) (fun _ _ _ h => h) hT1 (by rfl) (fun w hS => by have hS : Ext no wA w := hS; exact yields_string (by exact Tryz.underlying39) (by exact Tryz.underlying5) (by exact Tryz.underlying9) rfl rfl rfl (hsl.ext hS (fun _ _ h => h))) ?_
            simp only [Act.put, List.setIfInBounds_toArray, List.set_cons_zero, List.set_cons_succ]
            refine wpF_take 21 (v := .bool false) rfl (by kernel_rfl) (by kernel_rfl) (by kernel_rfl) (fun _ _ _ h => h) hT1 (by rfl) (by intro wq; go_simp; first | done | rfl | simp) ?_
            simp only [Act.put, List.setIfInBounds_toArray, List.set_cons_zero, List.set_cons_succ]
            refine wpF_take 22 (v := ?_) rfl (by kernel_rfl) (by kernel_rfl) (by kernel_rfl) (fun _ _ _ h => h) hT1 (by rfl) ?_ ?_
            rotate_left
            · (intro wq; go_simp; try with_reducible rfl)
            simp only [Act.put, List.setIfInBounds_toArray, List.set_cons_zero, List.set_cons_succ]
            refine wpF_done (by kernel_rfl) ?_ _
            go_wp2_with fail
            go_meet
            exact ⟨by rw [Hb.out], by rw [Hw.out], hxf.comp ((hxd8).comp hxK)⟩
          | false =>
            have Hb := Lib.hid (show best2 = best from Hb2.out)
            have Hw := Lib.hid (show who2 = who from Hw2.out)
            clear Hsay Hb2 Hw2 Htt
            go_wp2_with fail
            go_meet
            exact ⟨by rw [Hb.out], by rw [Hw.out], Ext.refl _ _⟩
        case rest =>
          obtain ⟨rfl, rfl, hx6⟩ := hcut
          have hC6 := hC4.ext (by simp) hx6 (fun h => h)
          have hN6 := hN4.ext (natC_ne (by omega)) hx6 (fun h => h)
          have hm6 := hm4.no hx6
          have hx7 := hx4.comp hx6
          have hz6 := hx6.size
          clear hC4 hN4 hm4 hx4 hx6 Hsay Hb2 Hw2 Htt hN5
          rcases hcn2.st with ⟨h0, _⟩ | ⟨_, _, wn, sn, text, _, hre, _⟩
          · omega
          have hl1 : C2.regs.length = 1 := by rw [hre]; rfl
          obtain ⟨rb, ro, hsb⟩ := hm6.r.lits (by have := hm6.r.nc; omega)
          have hrr := hm6.r.rd
          have hC6' := hC6
          rw [hsb] at hrr hC6'
          have y3 : wc.cell? ⟨rb, ro + 3, none⟩ = some (.int .i64 best2) := by
            have := rows_cell kReg hrr (n := 0) (x := ⟨[107], text, 3, best2, ⟨who2, 1, sn⟩⟩) (by rw [hre]; rfl) 3 _ rfl
            rw [Nat.zero_mul, Nat.add_zero] at this
            exact this
          have y4 : wc.cell? ⟨rb, ro + 4, none⟩ = some (.int .i64 who2) := by
            have := rows_cell kReg hrr (n := 0) (x := ⟨[107], text, 3, best2, ⟨who2, 1, sn⟩⟩) (by rw [hre]; rfl) 4 _ rfl
            rw [Nat.zero_mul, Nat.add_zero] at this
            exact this
          have c1 : wc.cell? ⟨g, 1, none⟩ = some (.slice (some ⟨rb, ro, none⟩) 1 k2.rc) := by have := hC6'.cell 1 _ rfl; rw [hl1] at this; exact this
          clear hC6' hrr
          go_upto_region 20 with fail
          go_wp2_with fail
          go_roundw
          case rel => exact ⟨i + 1, C2, k2, best2, who2, n2, rfl, rfl, by go_num, by omega, by omega, hcn2, hm6, hC6, hN6, hx7, by omega⟩
          case measure => simp [intOf]; omega
    · have hdone : i = ns.length ∨ i = 20 := by omega
      have htx := hcn.tx
      have hsR := hcn.sm.r
      have hoR := hcn.fine.ok.r
      have Ho := Lib.hid (show regsay C [111, 116, 104, 101, 114] 3 = ([], 2) by unfold regsay; rw [hcn.other _ (by decide)])
      clear hin
      have hend : ∀ w : World, True := fun _ => trivial
      have c0 := hC.cell 0 _ rfl
      have c1 := hC.cell 1 _ rfl
      have c2 := hC.cell 2 _ rfl
      have c3 := hC.cell 3 _ rfl
      have c4 := hC.cell 4 _ rfl
      have c5 := hC.cell 5 _ rfl
      by_cases h1 : i < ns.length
      · have d1 : decide (i < ns.length) = true := decT h1
        have d2 : decide ((i : Int) < 20) = false := decF (by omega)
        clear hdone
        go_wp2_with fail
        refine (regsay_any wr C k [111, 116, 104, 101, 114] 3 hm.r.rd (by omega) hoR (by unfold I64ok; omega) htx).mono ?_
        rintro e wf ⟨rfl, hxf⟩
        rw [Ho.out]
        go_wp2_with fail
        go_ret
        exact ⟨rfl, hx.comp hxf⟩
      · have d1 : decide (i < ns.length) = false := decF h1
        clear hdone
        go_wp2_with fail
        refine (regsay_any wr C k [111, 116, 104, 101, 114] 3 hm.r.rd (by omega) hoR (by unfold I64ok; omega) htx).mono ?_
        rintro e wf ⟨rfl, hxf⟩
        rw [Ho.out]
        go_wp2_with fail
        go_ret
        exact ⟨rfl, hx.comp hxf⟩
end Go.Proofs.YtejmmkjpncpedaaGreatDoor
