/- The walk of the law OpsReads. -/
import Derived.Test.YtfelipkbbefhhaaOpX
import Derived.Test.YtfelipkbbefhhaaOpY
import Derived.Test.YtfelipkbbefhhaaOpZ
import Derived.Test.YtfelipkbbefhhaaOpT
import Derived.Test.YtfelipkbbefhhaaOpO
import Derived.Deep.CutBlock
namespace Go.Proofs.Ytfelipkbbefhhaa
open Go.RowKit Go.Esc
set_option linter.unusedVariables false
set_option linter.unusedSimpArgs false

theorem pOp_fine (l : List UInt8) : (pOp l).1.ok ∧ (pOp l).1.dots.length ≤ 8 ∧ ((pOp l).2 = 0 → (pOp l).1.key.length ≤ 40 ∧ (pOp l).1.text.length ≤ 40) := by
  have hz : zeroOp.ok := by
    have h0 : I64ok (0 : Int) := by unfold I64ok; omega
    exact ⟨⟨h0, h0, h0⟩, h0, h0, h0, h0, h0, by simp [zeroOp], by simp [zeroOp], by simp [zeroOp]⟩
  unfold pOp
  simp only
  split
  · rename_i h
    exact ⟨hz, by simp [zeroOp], fun e => absurd e h⟩
  · split
    · rename_i h
      exact ⟨hz, by simp [zeroOp], fun e => absurd e (by simp only; omega)⟩
    · rename_i h
      obtain ⟨h1, h2, h3, h4⟩ := pRead_fine ⟨l, 0⟩
      refine ⟨h1, h4, fun _ => ?_⟩
      generalize (pRead ⟨l, 0⟩).1 = O at *
      unfold checkOp at h
      split at h
      · omega
      · split at h
        · omega
        · split at h
          · omega
          · rename_i ht
            simp only [Decidable.not_not] at ht
            exact ⟨((textOk_iff _).1 ht.1).1, ((textOk_iff _).1 ht.2).1⟩
theorem opEnc_short2 (o : OpR) (h : o.ok) (hk : o.key.length ≤ 60) (ht : o.text.length ≤ 60) (hd : o.dots.length ≤ 12) : (opEnc o).length ≤ 2000 ∧ 1 ≤ (opEnc o).length := by
  have h1 := headEnc_len o h
  have h2 := (encI_length (o.key.length : Int) ⟨by omega, by omega⟩).1
  have h3 := (encI_length (o.text.length : Int) ⟨by omega, by omega⟩).1
  have h6 := (encI_length (o.key.length : Int) ⟨by omega, by omega⟩).2
  have h4 := encs_len [o.n, (o.dots.length : Int)] (by intro n hn; simp at hn; rcases hn with rfl | rfl; exact h.n; exact ⟨by omega, by omega⟩)
  have h5 := dotsEnc_len o.dots h.dots
  unfold opEnc encT
  simp only [List.length_append]
  simp only [List.length_cons, List.length_nil] at h4
  omega
theorem opbytes_nil2 (w : World) (o : OpR) (a : Option Addr) (c : Nat) (hok : o.ok) (hr : Rd w a (ds o.dots)) (hdl : o.dots.length ≤ 1000) (hkl : o.key.length ≤ 1000) (htl : o.text.length ≤ 1000) :
    Calls Try.prog 18 #[.slice none 0 0, o.v a c] w fun e w' => ∃ a' c', e = .returned (.slice a' (opEnc o).length c') ∧ Rd w' a' (bs (opEnc o)) ∧ Ext no w w' := by
  have := opbytes_any w o a none c 0 [] hok hr hdl hkl htl (Rd.nil _ _) (by simp)
  simpa using this
theorem bs_set2 (l : List UInt8) (i : Nat) (z : UInt8) : (bs l).set i (B8 z) = bs (l.set i z) := by simp [bs, List.map_set]
theorem rd_low3 {w : World} {a : Option Addr} {cs : List Value} (h : Rd w a cs) (hn : cs ≠ []) (ad : Addr) (ha : a = some ad) : ad.block < w.heap.size := by
  obtain ⟨ad2, h2, h3⟩ := h.ne (List.length_pos_iff.2 hn)
  rw [ha] at h2
  cases h2
  exact h3
theorem emptied2 (w : World) (te : TypeId) : Own (w.alloc (.cells #[] te)) w.heap.size (some ⟨w.heap.size, 0, none⟩) 1 0 0 [] :=
  Own.fresh w _ _ _ _ _ _ _ _ (Nat.le_refl _) (by simp) (Nat.le_refl _) (Nat.zero_le _) (by simp) (by simp) (.inl (Nat.le_refl _))
theorem copied2 {w w' : World} {te : TypeId} {a' : Option Addr} {c' m : Nat} {l : List UInt8} (h : App (w.alloc (.cells #[] te)) w' w.heap.size 1 (some ⟨w.heap.size, 0, none⟩) 0 0 [] a' c' m (bs l)) :
    Own w' w.heap.size a' 1 m c' (bs l) ∧ Ext no w w' := by
  refine ⟨by have := h.own; rwa [Nat.zero_add, List.nil_append] at this, ?_⟩
  exact Ext.ofBelow (((Below.refl _ _).alloc (Nat.le_refl _) _).trans ((emptied2 w te).below h.ext (by simp))) (Nat.le_refl _)
theorem appended2 {w w1 w2 : World} {a a' : Option Addr} {n c c' m : Nat} {M l : List UInt8} (ho : Own w1 w.heap.size a 1 n c (bs M)) (hx : Ext no w w1) (h : App w1 w2 w.heap.size 1 a n c (bs M) a' c' m (bs l)) :
    Own w2 w.heap.size a' 1 (n + m) c' (bs (M ++ l)) ∧ Ext no w w2 :=
  ⟨by rw [bs_append]; exact h.own, Ext.ofBelow (hx.belowAll.trans (ho.below h.ext hx.size)) (Nat.le_refl _)⟩

set_option maxRecDepth 100000 in
set_option maxHeartbeats 16000000 in
theorem opreads_walk (w : World) (o : OpR) (oa : Option Addr) (oc : Nat) (ta : Option Addr) (at' : List Int) (tc : Nat) (ya : Option Addr) (ys : List UInt8) (yc : Nat) (cut : Int) (ra : Option Addr) (raw : List UInt8) (rc : Nat)
    (hok : o.ok) (hro : Rd w oa (ds o.dots)) (hlo : o.dots.length ≤ oc) (hco : oc ≤ maxLen) (htd : Rd w ta (is at')) (htok : ∀ n ∈ at', I64ok n) (htl : at'.length ≤ tc) (htc : tc ≤ maxLen) (hyd : Rd w ya (bs ys)) (hyl : ys.length ≤ yc) (hyc : yc ≤ maxLen) (hcut : I64ok cut) (hrd : Rd w ra (bs raw)) (hrl : raw.length ≤ rc) (hrc : rc ≤ maxLen) :
    Calls Try.prog 8 #[o.v oa oc, .slice ta at'.length tc, .slice ya ys.length yc, .int .i64 cut, .slice ra raw.length rc] w fun e w' => e = .returned (.bool true) ∧ Ext no w w' := by
  have Htok := Lib.hid htok
  have Hcut := Lib.hid hcut
  have Hc2 := Lib.hid (tdiv2_ok cut hcut)
  clear htok hcut
  have hrcm := hrc
  have hcom := hco
  unfold maxLen at hrc htc hyc hco
  go_enter Try.func8, Try.ntmps8
  unfold OpR.v
  go_upto_region 1 with fail
  have hb0 : Blk (w.alloc (.cells #[.int .i64 o.dot.dev, .int .i64 o.dot.ep, .int .i64 o.dot.seq, .int .i64 o.coll, .int .i64 o.ver, .int .i64 o.kind, .string (str o.key), .string (str o.text), .int .i64 o.n, .int .i64 o.time, .slice oa o.dots.length oc] 26)) w.heap.size (o.cells oa oc) := Blk.lit w #[.int .i64 o.dot.dev, .int .i64 o.dot.ep, .int .i64 o.dot.seq, .int .i64 o.coll, .int .i64 o.ver, .int .i64 o.kind, .string (str o.key), .string (str o.text), .int .i64 o.n, .int .i64 o.time, .slice oa o.dots.length oc] 26
  have hx0 := Ext.alloc no w (.cells #[.int .i64 o.dot.dev, .int .i64 o.dot.ep, .int .i64 o.dot.seq, .int .i64 o.coll, .int .i64 o.ver, .int .i64 o.kind, .string (str o.key), .string (str o.text), .int .i64 o.n, .int .i64 o.time, .slice oa o.dots.length oc] 26)
  generalize w.alloc (.cells #[.int .i64 o.dot.dev, .int .i64 o.dot.ep, .int .i64 o.dot.seq, .int .i64 o.coll, .int .i64 o.ver, .int .i64 o.kind, .string (str o.key), .string (str o.text), .int .i64 o.n, .int .i64 o.time, .slice oa o.dots.length oc] 26) = w0 at *
  obtain ⟨ga, hga⟩ : ∃ g, g = w.heap.size := ⟨_, rfl⟩
  rw [← hga] at hb0 ⊢
  clear hga
  go_wp2_with fail
  refine (known_any w0).mono ?_
  rintro e w1 ⟨rfl, hx1⟩
  have hb1 := hb0.ext (by simp [OpR.cells]) hx1 (fun h => h)
  have hx := hx0.comp hx1
  clear hb0 hx0 hx1
  have b0 := hb1.cell 0 _ rfl
  have b1 := hb1.cell 1 _ rfl
  have b2 := hb1.cell 2 _ rfl
  have b3 := hb1.cell 3 _ rfl
  have b4 := hb1.cell 4 _ rfl
  have b5 := hb1.cell 5 _ rfl
  have b6 := hb1.cell 6 _ rfl
  have b7 := hb1.cell 7 _ rfl
  have b8 := hb1.cell 8 _ rfl
  have b9 := hb1.cell 9 _ rfl
  have b10 := hb1.cell 10 _ rfl
  go_wp2_with fail
  refine (few_any w1 o oa oc (by omega) hok.key hok.text).mono ?_
  rintro e w3 ⟨rfl, hx2⟩
  cases hfew : fewB o with
  | false =>
    go_wp2_with fail
    go_ret
    exact ⟨rfl, hx.comp hx2⟩
  | true =>
    clear hfew
    by_cases h300 : 300 < raw.length
    · have d300 : decide ((300 : Int) < raw.length) = true := decT (by omega)
      go_wp2_with fail
      go_ret
      exact ⟨rfl, hx.comp hx2⟩
    have d300 : decide ((300 : Int) < raw.length) = false := decF (by omega)
    have hb2 := hb1.ext (by simp [OpR.cells]) hx2 (fun h => h)
    replace hx := hx.comp hx2
    clear hb1 hx2 b0 b1 b2 b3 b4 b5 b6 b7 b8 b9 b10
    have b0 := hb2.cell 0 _ rfl
    have b1 := hb2.cell 1 _ rfl
    have b2 := hb2.cell 2 _ rfl
    have b3 := hb2.cell 3 _ rfl
    have b4 := hb2.cell 4 _ rfl
    have b5 := hb2.cell 5 _ rfl
    have b6 := hb2.cell 6 _ rfl
    have b7 := hb2.cell 7 _ rfl
    have b8 := hb2.cell 8 _ rfl
    have b9 := hb2.cell 9 _ rfl
    have b10 := hb2.cell 10 _ rfl
    go_wp2_with fail
    refine (good_any w3 o oa oc hok (hro.ext hx (fun _ _ h => h)) hlo hcom).mono ?_
    rintro e w4 ⟨aG, cG, rfl, hrG, hlG, hcG, hyG, hfG⟩
    clear hfG hb2 b0 b1 b2 b3 b4 b5 b6 b7 b8 b9 b10
    obtain ⟨G, hG⟩ : ∃ G, G = goodOp o := ⟨_, rfl⟩
    have hG1 : G.ok := by rw [hG]; exact goodOp_ok o hok
    have hG3 : G.dots.length ≤ 8 := by rw [hG]; exact goodOp_len o
    have hG4 : G.key.length ≤ 1 := by rw [hG]; exact Nat.le_of_eq (goodKey_ok o.key).2.2
    have hG5 : G.text.length ≤ 2 := by rw [hG]; exact (goodText_ok o.text).2
    rw [← hG] at hrG hlG ⊢
    clear hG
    unfold OpR.v
    replace hx := hx.comp hyG
    clear hyG
    go_wp2_with fail
    refine (xbytes_any w4 w4.heap.size none 0 0 [] G aG cG (Own.nil _ _ _) (Nat.le_refl _) (by omega) hG1 hrG (fun _ ad _ => by rintro ⟨ad2, h2, h3⟩; cases h2) (by omega) (by omega) (by omega)).mono ?_
    rintro e w5 ⟨a2, c2, rfl, hAp⟩
    obtain ⟨hsh1, hsh2⟩ := opEnc_short2 G hG1 (by omega) (by omega) (by omega)
    have hown := hAp.own.mono hx.size
    have hx02 := hx.comp (Ext.ofBelow ((Own.nil w4 w4.heap.size 1).below hAp.ext (Nat.le_refl _)) (Nat.le_refl _))
    rw [List.nil_append] at hown
    rw [Nat.zero_add] at hown ⊢
    clear hAp hrG hlG hcG hG1 hG3 hG4 hG5 hx
    generalize opEnc G = M0 at *
    go_upto_block 0 with fail
    go_cut [12] (fun s12 wx => ∃ M : List UInt8, M.length = M0.length ∧ Own wx w.heap.size a2 1 M0.length c2 (bs M) ∧ Ext no w wx)
    case first =>
      go_wp2_with fail
      go_loopw [12] (fun s12 wr => ∃ (k : Nat) (M : List UInt8), k ≤ at'.length ∧ s12 = .int .i64 k ∧ M.length = M0.length ∧ Own wr w.heap.size a2 1 M0.length c2 (bs M) ∧ Ext no w wr) (fun s12 _ => at'.length - (intOf s12).toNat)
      case atStart => exact ⟨0, M0, Nat.zero_le _, rfl, rfl, hown, hx02⟩
      case round =>
        clear hown hx02
        obtain ⟨k, M, hk, rfl, hM, hown, hx⟩ := hrel
        have HM := Lib.hid hM
        clear hM
        by_cases hall : k < at'.length ∧ k < ys.length ∧ k < 3
        · obtain ⟨hk1, hk2, hk3⟩ := hall
          have d1 : decide ((k : Int) < at'.length) = true := by rw [decide_eq_true_eq]; omega
          have d2 : decide ((k : Int) < ys.length) = true := by rw [decide_eq_true_eq]; omega
          have d3 : decide ((k : Int) < 3) = true := by rw [decide_eq_true_eq]; omega
          obtain ⟨tad, rfl, _⟩ := htd.ne (by simp; omega)
          obtain ⟨yad, rfl, _⟩ := hyd.ne (by simp; omega)
          obtain ⟨bad, rfl, hblt⟩ := hown.rd.ne (by rw [bs_length, HM.out]; omega)
          have htc1 := hx.keeps (htd.cell k (by simpa using hk1)) (fun h => h)
          have hyc1 := hx.keeps (hyd.cell k (by simpa using hk2)) (fun h => h)
          rw [show (is at')[k]'(by simpa using hk1) = .int .i64 at'[k] from by simp [is, I64]] at htc1
          rw [show (bs ys)[k]'(by simpa using hk2) = .int .u8 ys[k].toNat from by simp [bs, B8]] at hyc1
          obtain ⟨i, hi⟩ : ∃ i : Nat, at'[k] % (M0.length : Int) = i := ⟨(at'[k] % (M0.length : Int)).toNat, by have := Int.emod_nonneg at'[k] (show (M0.length : Int) ≠ 0 by omega); omega⟩
          have hil : i < M0.length := by have := Int.emod_lt_of_pos at'[k] (show (0 : Int) < M0.length by omega); omega
          have hiM : i < M.length := by rw [HM.out]; exact hil
          have hbc := hown.rd.cell i (by simpa using hiM)
          rw [show (bs M)[i]'(by simpa using hiM) = .int .u8 M[i].toNat from by simp [bs, B8]] at hbc
          have hbf : wr.frozen? (bad.add i) = false := by
            obtain ⟨_, e, _, f⟩ := hown.can i (by have := hown.nc; omega)
            cases e; exact f
          have hb1 := M[i].toNat_lt
          have hb2 := ys[k].toNat_lt
          have hok' := Htok.out at'[k] (by simp)
          have Hi := Lib.hid hi
          have Hok := Lib.hid hok'
          clear hi hok'
          generalize at'[k] = q at *
          generalize ys[k] = y at *
          generalize M[i] = x at *
          obtain ⟨z, hz⟩ : ∃ z : UInt8, ((x.toNat : Int) + y.toNat) % 256 = z.toNat := ⟨x + y, by rw [UInt8.toNat_add]; simp⟩
          have Hz := Lib.hid hz
          clear hz
          go_upto_region 9 with fail
          --<A
          refine wp_region_E [4, 9, 13] (fun x => x = wr.drew) (by kernel_rfl) ?_
          refine wpE_take 0 (v := ?_) rfl (by kernel_rfl) (by kernel_rfl) (by kernel_rfl) (fun _ _ _ h => h) (rfl : wr.drew = wr.drew) (by rfl) ?_ ?_
          rotate_left
          · (intro wq; go_simp; try with_reducible rfl)
          simp only [Act.put, List.setIfInBounds_toArray, List.set_cons_zero, List.set_cons_succ]
          refine wpE_take 1 (v := ?_) rfl (by kernel_rfl) (by kernel_rfl) (by kernel_rfl) (fun _ _ _ h => h) (rfl : wr.drew = wr.drew) (by rfl) ?_ ?_
          rotate_left
          · (intro wq; go_simp; try with_reducible rfl)
          simp only [Act.put, List.setIfInBounds_toArray, List.set_cons_zero, List.set_cons_succ]
          refine wpE_take 2 (v := ?_) rfl (by kernel_rfl) (by kernel_rfl) (by kernel_rfl) (fun _ _ _ h => h) (rfl : wr.drew = wr.drew) (by rfl) ?_ ?_
          rotate_left
          · (intro wq; go_simp; try with_reducible rfl)
          simp only [Act.put, List.setIfInBounds_toArray, List.set_cons_zero, List.set_cons_succ]
          refine wpE_take 3 (v := ?_) rfl (by kernel_rfl) (by kernel_rfl) (by kernel_rfl) (fun _ _ _ h => h) (rfl : wr.drew = wr.drew) (by rfl) ?_ ?_
          rotate_left
          · (intro wq; go_simp; try with_reducible rfl)
          simp only [Act.put, List.setIfInBounds_toArray, List.set_cons_zero, List.set_cons_succ]
          refine wpE_look 4 (v := .int .i64 q) rfl rfl (by kernel_rfl) (by kernel_rfl) (by kernel_rfl) (by kernel_rfl) (fun _ _ _ h => h) (rfl : wr.drew = wr.drew) (by rfl) (fun w hS => by subst hS; go_simp) ?_
          simp only [Act.put, List.setIfInBounds_toArray, List.set_cons_zero, List.set_cons_succ]
          refine wpE_take 5 (v := ?_) rfl (by kernel_rfl) (by kernel_rfl) (by kernel_rfl) (fun _ _ _ h => h) (rfl : wr.drew = wr.drew) (by rfl) ?_ ?_
          rotate_left
          · (intro wq; go_simp; try with_reducible rfl)
          simp only [Act.put, List.setIfInBounds_toArray, List.set_cons_zero, List.set_cons_succ]
          refine wpE_take 6 (v := ?_) rfl (by kernel_rfl) (by kernel_rfl) (by kernel_rfl) (fun _ _ _ h => h) (rfl : wr.drew = wr.drew) (by rfl) ?_ ?_
          rotate_left
          · (intro wq; go_simp; try with_reducible rfl)
          simp only [Act.put, List.setIfInBounds_toArray, List.set_cons_zero, List.set_cons_succ]
          refine wpE_take 10 (v := ?_) rfl (by kernel_rfl) (by kernel_rfl) (by kernel_rfl) (fun _ _ _ h => h) (rfl : wr.drew = wr.drew) (by rfl) ?_ ?_
          rotate_left
          · (intro wq; go_simp; try with_reducible rfl)
          simp only [Act.put, List.setIfInBounds_toArray, List.set_cons_zero, List.set_cons_succ]
          refine wpE_take 11 (v := ?_) rfl (by kernel_rfl) (by kernel_rfl) (by kernel_rfl) (fun _ _ _ h => h) (rfl : wr.drew = wr.drew) (by rfl) ?_ ?_
          rotate_left
          · (intro wq; go_simp; try with_reducible rfl)
          simp only [Act.put, List.setIfInBounds_toArray, List.set_cons_zero, List.set_cons_succ]
          refine wpE_take 12 (v := ?_) rfl (by kernel_rfl) (by kernel_rfl) (by kernel_rfl) (fun _ _ _ h => h) (rfl : wr.drew = wr.drew) (by rfl) ?_ ?_
          rotate_left
          · (intro wq; go_simp; try with_reducible rfl)
          simp only [Act.put, List.setIfInBounds_toArray, List.set_cons_zero, List.set_cons_succ]
          refine wpE_look 13 (v := .int .u8 y.toNat) rfl rfl (by kernel_rfl) (by kernel_rfl) (by kernel_rfl) (by kernel_rfl) (fun _ _ _ h => h) (rfl : wr.drew = wr.drew) (by rfl) (fun w hS => by subst hS; go_simp) ?_
          simp only [Act.put, List.setIfInBounds_toArray, List.set_cons_zero, List.set_cons_succ]
          refine wpE_exec 7 rfl (by kernel_rfl) (by rfl) ?_
          intro K hK
          go_simp
          refine (within_any q (M0.length : Int) wr.drew (by omega) (by omega) Hok.out).mono ?_
          rintro e w7 ⟨rfl, rfl⟩
          rw [Hi.out]
          have hS1 := (rfl : wr.drew = wr.drew)
          refine hK _ _ (fun x => x = wr.drew) (.inr (fun x h => h)) hS1 ?_
          clear hK K
          refine wpE_take 8 (v := ?_) rfl (by kernel_rfl) (by kernel_rfl) (by kernel_rfl) (fun _ _ _ h => h) hS1 (by rfl) ?_ ?_
          rotate_left
          · (intro wq; go_simp; try with_reducible rfl)
          simp only [Act.put, List.setIfInBounds_toArray, List.set_cons_zero, List.set_cons_succ]
          refine wpE_look 9 (v := .int .u8 x.toNat) rfl rfl (by kernel_rfl) (by kernel_rfl) (by kernel_rfl) (by kernel_rfl) (fun _ _ _ h => h) hS1 (by rfl) (fun w hS => by subst hS; go_simp) ?_
          simp only [Act.put, List.setIfInBounds_toArray, List.set_cons_zero, List.set_cons_succ]
          refine wpE_take 14 (v := .int .u8 z.toNat) rfl (by kernel_rfl) (by kernel_rfl) (by kernel_rfl) (fun _ _ _ h => h) hS1 (by rfl) (by intro wq; go_simp; rw [← Hz.out]; exact IntKind.wrap_u8' _) ?_
          simp only [Act.put, List.setIfInBounds_toArray, List.set_cons_zero, List.set_cons_succ]
          refine wpE_take 15 (v := ?_) rfl (by kernel_rfl) (by kernel_rfl) (by kernel_rfl) (fun _ _ _ h => h) hS1 (by rfl) ?_ ?_
          rotate_left
          · (intro wq; go_simp; try with_reducible rfl)
          simp only [Act.put, List.setIfInBounds_toArray, List.set_cons_zero, List.set_cons_succ]
          refine wpE_exec 16 rfl (by kernel_rfl) (by rfl) ?_
          intro K hK
          go_simp
          have hS2 := trivial
          refine hK _ _ (fun x => True) (.inl (by kernel_rfl)) hS2 ?_
          clear hK K
          refine wpE_done (by kernel_rfl) ?_ _
          go_wp2_with fail
          go_roundw
          case rel => exact ⟨k + 1, M.set i z, by omega, by go_num, by rw [List.length_set]; exact HM.out, by have := (hown.set i (by omega) (B8 z)).drew; rw [bs_set2] at this; exact this, (hx.trans (Ext.setCell (S := just bad.block) _ _ _ (add_block _ _)) (fun j hj h => by have := (hown.base bad rfl).1; simp only [Esc.just] at h; omega)).comp (Ext.drew no _)⟩
          case measure => simp [intOf]; omega
          -->A
        · have hcs : at'.length ≤ k ∨ (k < at'.length ∧ ys.length ≤ k) ∨ (k < at'.length ∧ k < ys.length ∧ 3 ≤ k) := by omega
          clear hall
          rcases hcs with h | ⟨h1, h2⟩ | ⟨h1, h2, h3⟩
          · have d1 : decide ((k : Int) < at'.length) = false := by rw [decide_eq_false_iff_not]; omega
            go_wp2_with fail
            go_meet
            exact ⟨M, HM.out, hown, hx⟩
          · have d1 : decide ((k : Int) < at'.length) = true := by rw [decide_eq_true_eq]; omega
            have d2 : decide ((k : Int) < ys.length) = false := by rw [decide_eq_false_iff_not]; omega
            go_wp2_with fail
            go_meet
            exact ⟨M, HM.out, hown, hx⟩
          · have d1 : decide ((k : Int) < at'.length) = true := by rw [decide_eq_true_eq]; omega
            have d2 : decide ((k : Int) < ys.length) = true := by rw [decide_eq_true_eq]; omega
            have d3 : decide ((k : Int) < 3) = false := by rw [decide_eq_false_iff_not]; omega
            go_wp2_with fail
            go_meet
            exact ⟨M, HM.out, hown, hx⟩
    case rest =>
      clear hown hx02
      obtain ⟨M, hM, hown, hx⟩ := hcut
      have hM3 : M.length ≤ 2000 := by omega
      have HM := Lib.hid hM
      clear hM
      go_upto_if 66 with fail
      go_cut [11] (fun s11 wx => ∃ M' : List UInt8, s11 = .slice a2 M'.length c2 ∧ M'.length ≤ 2000 ∧ M'.length ≤ c2 ∧ Rd wx a2 (bs M') ∧ Ext no w wx)
      case first =>
        by_cases hc : cut.tmod 2 = 1
        · have hc1 : (cut.tmod 2 == 1) = true := by rw [beq_iff_eq]; exact hc
          clear hc
          have hw2 : wrap64 (cut.tdiv 2) = cut.tdiv 2 := by have := Hc2.out; unfold wrap64; unfold I64ok at this; omega
          go_wp2_with fail
          refine (within_any (cut.tdiv 2) (M0.length + 1) wc (by omega) (by omega) Hc2.out).mono ?_
          rintro e w3 ⟨rfl, rfl⟩
          obtain ⟨j, hj⟩ : ∃ j : Nat, cut.tdiv 2 % ((M0.length : Int) + 1) = j := ⟨(cut.tdiv 2 % ((M0.length : Int) + 1)).toNat, by have := Int.emod_nonneg (cut.tdiv 2) (show (M0.length : Int) + 1 ≠ 0 by omega); omega⟩
          have hjl : j ≤ M0.length := by have := Int.emod_lt_of_pos (cut.tdiv 2) (show (0 : Int) < (M0.length : Int) + 1 by omega); omega
          rw [hj]
          have hnc := hown.nc
          have cutj : ∀ w, (Instr.sliceAt 37 (.slice a2 M0.length c2) none (some (.int .i64 (j : Int))) none).run Try.prog w = .ok (.slice a2 j c2) w := fun w => run_cut_h TBytes w a2 M0.length c2 .i64 j (by omega)
          clear hj
          have hjM : (M.take j).length = j := by rw [List.length_take, HM.out]; omega
          have HjM := Lib.hid hjM
          clear hjM
          go_wp2_with fail
          go_meet
          exact ⟨M.take j, by rw [HjM.out], by rw [HjM.out]; omega, by rw [HjM.out]; omega, by rw [← bs_take]; exact hown.rd.take j, hx⟩
        · have hc1 : (cut.tmod 2 == 1) = false := by rw [beq_eq_false_iff_ne]; exact hc
          clear hc
          go_wp2_with fail
          go_meet
          exact ⟨M, by rw [HM.out], hM3, by have := hown.nc; have := HM.out; omega, hown.rd, hx⟩
      case rest =>
        obtain ⟨M', rfl, hM3', hMc, hMd, hx3⟩ := hcut
        have hc2m := hown.cm
        clear hown hx
        have hraw := hrd.ext hx3 (fun _ _ h => h)
        go_wp2_with (at_builtin; refine wpList_append TBytes rfl rfl rfl (emptied2 wc 5) rfl (hMd.alloc _) (by simp) (bs_one _) (by unfold maxLen; omega) (by omega) (by simp) ?_)
        intro a4 c4 w4 happ
        obtain ⟨hown4, hx4⟩ := copied2 happ
        clear happ
        go_wp2_with (at_builtin; refine wpList_append TBytes rfl rfl rfl hown4 rfl (hraw.ext hx4 (fun _ _ h => h)) (by simp) (bs_one _) (by unfold maxLen; omega) (by omega) hx4.size ?_)
        intro a5 c5 w5 happ
        obtain ⟨hown5, hx5⟩ := appended2 hown4 hx4 happ
        clear happ hown4 hx4
        rw [← List.length_append] at hown5 ⊢
        have hXl : (M' ++ raw).length ≤ 3580 := by rw [List.length_append]; omega
        generalize M' ++ raw = X at *
        have hq : ∀ q ∈ [(⟨a2, M', c2⟩ : Part), ⟨a5, X, c5⟩, ⟨ra, raw, rc⟩], Rd (w5.alloc (.cells #[.slice a2 M'.length c2, .slice a5 X.length c5, .slice ra raw.length rc] 37)) q.a (bs q.l) ∧ q.l.length ≤ 3580 ∧ q.l.length ≤ q.c ∧ q.c ≤ maxLen := by
          intro q hq
          simp only [List.mem_cons, List.not_mem_nil, or_false] at hq
          rcases hq with rfl | rfl | rfl
          · exact ⟨(hMd.ext hx5 (fun _ _ h => h)).alloc _, by simp only; omega, hMc, hc2m⟩
          · exact ⟨hown5.rd.alloc _, hXl, hown5.nc, hown5.cm⟩
          · exact ⟨(hraw.ext hx5 (fun _ _ h => h)).alloc _, by simp only; omega, hrl, hrcm⟩
        have hqd : Rd (w5.alloc (.cells #[.slice a2 M'.length c2, .slice a5 X.length c5, .slice ra raw.length rc] 37)) (some ⟨w5.heap.size, 0, none⟩) ([(⟨a2, M', c2⟩ : Part), ⟨a5, X, c5⟩, ⟨ra, raw, rc⟩].map Part.v) := Rd.lit w5 _ _ _
        have hxS : Ext no w (w5.alloc (.cells #[.slice a2 M'.length c2, .slice a5 X.length c5, .slice ra raw.length rc] 37)) := (hx3.comp hx5).comp (Ext.alloc no _ _)
        have hql : [(⟨a2, M', c2⟩ : Part), ⟨a5, X, c5⟩, ⟨ra, raw, rc⟩].length = 3 := rfl
        have Hq := Lib.hid hq
        have Hql := Lib.hid hql
        clear hq hql hown5 hx3 hx5 hMd hraw
        generalize [(⟨a2, M', c2⟩ : Part), ⟨a5, X, c5⟩, ⟨ra, raw, rc⟩] = qs at *
        go_wp2_with fail
        generalize w5.alloc (.cells #[.slice a2 M'.length c2, .slice a5 X.length c5, .slice ra raw.length rc] 37) = wS at *
        generalize (⟨w5.heap.size, 0, none⟩ : Addr) = sad at *
        go_loopw [14, 15, 16, 17, 18] (fun s14 _ _ _ _ wr => ∃ j : Nat, j ≤ 3 ∧ s14 = .int .i64 j ∧ Ext no wS wr) (fun s14 _ _ _ _ _ => 3 - (intOf s14).toNat)
        case atStart => exact ⟨0, by omega, rfl, Ext.refl _ _⟩
        case round =>
          obtain ⟨j, hj, rfl, hxr⟩ := hrel
          by_cases hlt : j < 3
          rotate_left
          · have e3 : decide ((j : Int) < 3) = false := decF (by omega)
            go_wp2_with fail
            go_ret
            exact ⟨rfl, hxS.comp hxr⟩
          have e3 : decide ((j : Int) < 3) = true := decT (by omega)
          have hjq : j < qs.length := by rw [Hql.out]; exact hlt
          have hcell := hxr.keeps (hqd.cell j (by simpa using hjq)) (fun h => h)
          rw [List.getElem_map, Part.v] at hcell
          obtain ⟨q1, q2, q3, q4⟩ := Hq.out qs[j] (by simp)
          have hq1 := q1.ext hxr (fun _ _ h => h)
          clear q1
          generalize qs[j] = q at *
          obtain ⟨qa, L, qc⟩ := q
          simp only at hcell hq1 q2 q3 q4
          have hcell0 := hcell
          have hcell := (Ext.alloc no wr (.cells #[] 5)).keeps hcell (fun h => h)
          go_wp2_with (at_builtin; refine wpList_append TBytes rfl rfl rfl (emptied2 wr 5) rfl (hq1.alloc _) (by simp) (bs_one _) (by unfold maxLen; omega) (by omega) (by simp) ?_)
          intro a6 c6 w6 happ
          obtain ⟨hown6, hx6⟩ := copied2 happ
          clear happ hcell
          obtain ⟨X_, hX_⟩ : ∃ X_, X_ = (pOp L).1 := ⟨_, rfl⟩
          obtain ⟨E, hE⟩ : ∃ E, E = (pOp L).2 := ⟨_, rfl⟩
          have HX := Lib.hid hX_
          have HE := Lib.hid hE
          have Hfine := Lib.hid (pOp_fine L)
          have Hcan := Lib.hid (pOp_canon L)
          clear hX_ hE
          go_wp2_with fail
          refine (parse_any w6 a6 c6 L hown6.rd (by omega)).mono ?_
          rintro e wk ⟨ak, ck, rfl, hrk, hlk, hyk, hfk⟩
          rw [← HX.out] at hrk hlk ⊢
          rw [← HE.out]
          clear hfk
          unfold OpR.v
          go_upto_region 17 with fail
          have hZk : Blk (wk.alloc (.cells #[.int .i64 X_.dot.dev, .int .i64 X_.dot.ep, .int .i64 X_.dot.seq, .int .i64 X_.coll, .int .i64 X_.ver, .int .i64 X_.kind, .string (str X_.key), .string (str X_.text), .int .i64 X_.n, .int .i64 X_.time, .slice ak X_.dots.length ck] 26)) wk.heap.size (X_.cells ak ck) := Blk.lit wk #[.int .i64 X_.dot.dev, .int .i64 X_.dot.ep, .int .i64 X_.dot.seq, .int .i64 X_.coll, .int .i64 X_.ver, .int .i64 X_.kind, .string (str X_.key), .string (str X_.text), .int .i64 X_.n, .int .i64 X_.time, .slice ak X_.dots.length ck] 26
          have hqk := hrk.ext (Ext.alloc no wk (.cells #[.int .i64 X_.dot.dev, .int .i64 X_.dot.ep, .int .i64 X_.dot.seq, .int .i64 X_.coll, .int .i64 X_.ver, .int .i64 X_.kind, .string (str X_.key), .string (str X_.text), .int .i64 X_.n, .int .i64 X_.time, .slice ak X_.dots.length ck] 26)) (fun _ _ h => h)
          have hstk := (hx6.comp hyk).comp (Ext.alloc no wk (.cells #[.int .i64 X_.dot.dev, .int .i64 X_.dot.ep, .int .i64 X_.dot.seq, .int .i64 X_.coll, .int .i64 X_.ver, .int .i64 X_.kind, .string (str X_.key), .string (str X_.text), .int .i64 X_.n, .int .i64 X_.time, .slice ak X_.dots.length ck] 26))
          generalize wk.alloc (.cells #[.int .i64 X_.dot.dev, .int .i64 X_.dot.ep, .int .i64 X_.dot.seq, .int .i64 X_.coll, .int .i64 X_.ver, .int .i64 X_.kind, .string (str X_.key), .string (str X_.text), .int .i64 X_.n, .int .i64 X_.time, .slice ak X_.dots.length ck] 26) = vk at *
          generalize wk.heap.size = gk at *
          have hQ7 := hq1.ext hstk (fun _ _ h => h)
          have hcell7 := hstk.keeps hcell0 (fun h => h)
          go_wp2_with fail
          refine (xparse_any vk qa qc L hQ7 q3 q4).mono ?_
          rintro e wm ⟨am, cm, rfl, hrm, hlm, hym, hfm⟩
          rw [← HX.out] at hrm hlm ⊢
          rw [← HE.out]
          clear hfm
          unfold OpR.v
          go_upto_region 18 with fail
          have hZm : Blk (wm.alloc (.cells #[.int .i64 X_.dot.dev, .int .i64 X_.dot.ep, .int .i64 X_.dot.seq, .int .i64 X_.coll, .int .i64 X_.ver, .int .i64 X_.kind, .string (str X_.key), .string (str X_.text), .int .i64 X_.n, .int .i64 X_.time, .slice am X_.dots.length cm] 26)) wm.heap.size (X_.cells am cm) := Blk.lit wm #[.int .i64 X_.dot.dev, .int .i64 X_.dot.ep, .int .i64 X_.dot.seq, .int .i64 X_.coll, .int .i64 X_.ver, .int .i64 X_.kind, .string (str X_.key), .string (str X_.text), .int .i64 X_.n, .int .i64 X_.time, .slice am X_.dots.length cm] 26
          have hqm := hrm.ext (Ext.alloc no wm (.cells #[.int .i64 X_.dot.dev, .int .i64 X_.dot.ep, .int .i64 X_.dot.seq, .int .i64 X_.coll, .int .i64 X_.ver, .int .i64 X_.kind, .string (str X_.key), .string (str X_.text), .int .i64 X_.n, .int .i64 X_.time, .slice am X_.dots.length cm] 26)) (fun _ _ h => h)
          have hstm := (hym.comp (Ext.alloc no wm (.cells #[.int .i64 X_.dot.dev, .int .i64 X_.dot.ep, .int .i64 X_.dot.seq, .int .i64 X_.coll, .int .i64 X_.ver, .int .i64 X_.kind, .string (str X_.key), .string (str X_.text), .int .i64 X_.n, .int .i64 X_.time, .slice am X_.dots.length cm] 26)))
          generalize wm.alloc (.cells #[.int .i64 X_.dot.dev, .int .i64 X_.dot.ep, .int .i64 X_.dot.seq, .int .i64 X_.coll, .int .i64 X_.ver, .int .i64 X_.kind, .string (str X_.key), .string (str X_.text), .int .i64 X_.n, .int .i64 X_.time, .slice am X_.dots.length cm] 26) = vm at *
          generalize wm.heap.size = gm at *
          have hcell8 := hstm.keeps hcell7 (fun h => h)
          have hQ8 := hQ7.ext hstm (fun _ _ h => h)
          have hZ7 := hZk.ext (by simp [OpR.cells]) hstm (fun h => h)
          have hq7 := hqk.ext hstm (fun _ _ h => h)
          have hxe := (hxr.comp hstk).comp hstm
          obtain ⟨hXok, hX8, hXs⟩ : X_.ok ∧ X_.dots.length ≤ 8 ∧ (E = 0 → X_.key.length ≤ 40 ∧ X_.text.length ≤ 40) := by rw [HX.out, HE.out]; exact Hfine.out
          clear hxr hstk hstm hcell7 hQ7 hZk hqk hrk hlk hrm hlm hym hyk hown6 hx6 hq1 hcell0
          have xk0 := hZ7.cell 0 _ rfl
          have xm0 := hZm.cell 0 _ rfl
          have xk1 := hZ7.cell 1 _ rfl
          have xm1 := hZm.cell 1 _ rfl
          have xk2 := hZ7.cell 2 _ rfl
          have xm2 := hZm.cell 2 _ rfl
          have xk3 := hZ7.cell 3 _ rfl
          have xm3 := hZm.cell 3 _ rfl
          have xk4 := hZ7.cell 4 _ rfl
          have xm4 := hZm.cell 4 _ rfl
          have xk5 := hZ7.cell 5 _ rfl
          have xm5 := hZm.cell 5 _ rfl
          have xk6 := hZ7.cell 6 _ rfl
          have xm6 := hZm.cell 6 _ rfl
          have xk7 := hZ7.cell 7 _ rfl
          have xm7 := hZm.cell 7 _ rfl
          have xk8 := hZ7.cell 8 _ rfl
          have xm8 := hZm.cell 8 _ rfl
          have xk9 := hZ7.cell 9 _ rfl
          have xm9 := hZm.cell 9 _ rfl
          have xk10 := hZ7.cell 10 _ rfl
          have xm10 := hZm.cell 10 _ rfl
          by_cases hE0 : E = 0
          · have HC := Lib.hid (show opEnc X_ = L by rw [HX.out]; exact Hcan.out (by rw [← HE.out]; exact hE0))
            obtain ⟨hk40, ht40⟩ := hXs hE0
            have dE : (E == 0) = true := by rw [beq_iff_eq]; exact hE0
            clear hXs
            --<B
            refine wp_region_F [4, 5, 13, 15, 19, 20] (looks [(4, fun z => Ext no vm z), (5, fun z => Ext no vm z), (13, fun z => Ext no vm z), (15, fun z => True), (19, fun z => Ext no vm z), (20, fun z => Ext no vm z)]) (by kernel_rfl) ?_
            have hT0 : ∀ k, looks [(4, fun z => Ext no vm z), (5, fun z => Ext no vm z), (13, fun z => Ext no vm z), (15, fun z => True), (19, fun z => Ext no vm z), (20, fun z => Ext no vm z)] k (vm.drew) := looks_all ⟨(Ext.drew no vm), (Ext.drew no vm), (Ext.drew no vm), trivial, (Ext.drew no vm), (Ext.drew no vm), trivial⟩
            refine wpF_take 0 (v := ?_) rfl (by kernel_rfl) (by kernel_rfl) (by kernel_rfl) (fun _ _ _ h => h) hT0 (by rfl) ?_ ?_
            rotate_left
            · (intro wq; go_simp; try with_reducible rfl)
            simp only [Act.put, List.setIfInBounds_toArray, List.set_cons_zero, List.set_cons_succ]
            refine wpF_take 1 (v := ?_) rfl (by kernel_rfl) (by kernel_rfl) (by kernel_rfl) (fun _ _ _ h => h) hT0 (by rfl) ?_ ?_
            rotate_left
            · (intro wq; go_simp; try with_reducible rfl)
            simp only [Act.put, List.setIfInBounds_toArray, List.set_cons_zero, List.set_cons_succ]
            refine wpF_take 2 (v := ?_) rfl (by kernel_rfl) (by kernel_rfl) (by kernel_rfl) (fun _ _ _ h => h) hT0 (by rfl) ?_ ?_
            rotate_left
            · (intro wq; go_simp; try with_reducible rfl)
            simp only [Act.put, List.setIfInBounds_toArray, List.set_cons_zero, List.set_cons_succ]
            refine wpF_take 3 (v := ?_) rfl (by kernel_rfl) (by kernel_rfl) (by kernel_rfl) (fun _ _ _ h => h) hT0 (by rfl) ?_ ?_
            rotate_left
            · (intro wq; go_simp; try with_reducible rfl)
            simp only [Act.put, List.setIfInBounds_toArray, List.set_cons_zero, List.set_cons_succ]
            refine wpF_look 4 (v := .agg #[.int .i64 X_.dot.dev, .int .i64 X_.dot.ep, .int .i64 X_.dot.seq, .int .i64 X_.coll, .int .i64 X_.ver, .int .i64 X_.kind, .string (str X_.key), .string (str X_.text), .int .i64 X_.n, .int .i64 X_.time, .slice ak X_.dots.length ck]) rfl rfl (by kernel_rfl) (by kernel_rfl) (by kernel_rfl) (by kernel_rfl) (fun _ _ _ h => h) hT0 (by rfl) (fun w hS => by have hS : Ext no vm w := hS; have q0 := hS.keeps xk0 (fun h => h); have q1 := hS.keeps xk1 (fun h => h); have q2 := hS.keeps xk2 (fun h => h); have q3 := hS.keeps xk3 (fun h => h); have q4 := hS.keeps xk4 (fun h => h); have q5 := hS.keeps xk5 (fun h => h); have q6 := hS.keeps xk6 (fun h => h); have q7 := hS.keeps xk7 (fun h => h); have q8 := hS.keeps xk8 (fun h => h); have q9 := hS.keeps xk9 (fun h => h); have q10 := hS.keeps xk10 (fun h => h); go_simp) ?_
            simp only [Act.put, List.setIfInBounds_toArray, List.set_cons_zero, List.set_cons_succ]
            refine wpF_look 5 (v := .agg #[.int .i64 X_.dot.dev, .int .i64 X_.dot.ep, .int .i64 X_.dot.seq, .int .i64 X_.coll, .int .i64 X_.ver, .int .i64 X_.kind, .string (str X_.key), .string (str X_.text), .int .i64 X_.n, .int .i64 X_.time, .slice am X_.dots.length cm]) rfl rfl (by kernel_rfl) (by kernel_rfl) (by kernel_rfl) (by kernel_rfl) (fun _ _ _ h => h) hT0 (by rfl) (fun w hS => by have hS : Ext no vm w := hS; have q0 := hS.keeps xm0 (fun h => h); have q1 := hS.keeps xm1 (fun h => h); have q2 := hS.keeps xm2 (fun h => h); have q3 := hS.keeps xm3 (fun h => h); have q4 := hS.keeps xm4 (fun h => h); have q5 := hS.keeps xm5 (fun h => h); have q6 := hS.keeps xm6 (fun h => h); have q7 := hS.keeps xm7 (fun h => h); have q8 := hS.keeps xm8 (fun h => h); have q9 := hS.keeps xm9 (fun h => h); have q10 := hS.keeps xm10 (fun h => h); go_simp) ?_
            simp only [Act.put, List.setIfInBounds_toArray, List.set_cons_zero, List.set_cons_succ]
            refine wpF_exec 6 rfl (by kernel_rfl) (by rfl) ?_
            intro K hK
            go_simp
            refine (refsame_any (vm.drew) X_ X_ ak am ck cm (hq7.ext (Ext.drew no vm) (fun _ _ h => h)) (hqm.ext (Ext.drew no vm) (fun _ _ h => h)) (by omega) (by omega)).mono ?_
            rintro e wa ⟨ra1, rfl, hs, xa⟩
            have hr := hs.2 rfl
            subst hr
            clear hs
            have hT1 : ∀ k, looks [(4, fun z => Ext no vm z), (5, fun z => Ext no vm z), (13, fun z => Ext no vm z), (15, fun z => True), (19, fun z => Ext no vm z), (20, fun z => Ext no vm z)] k (wa) := looks_all ⟨((Ext.drew no vm).comp xa), ((Ext.drew no vm).comp xa), ((Ext.drew no vm).comp xa), trivial, ((Ext.drew no vm).comp xa), ((Ext.drew no vm).comp xa), trivial⟩
            refine hK _ _ (looks [(4, fun z => Ext no vm z), (5, fun z => Ext no vm z), (13, fun z => Ext no vm z), (15, fun z => True), (19, fun z => Ext no vm z), (20, fun z => Ext no vm z)]) ⟨.inr (.inl (by kernel_rfl)), .inr (.inl (by kernel_rfl)), .inl (by kernel_rfl), .inl (by kernel_rfl), .inl (by kernel_rfl), .inl (by kernel_rfl), trivial⟩ hT1 ?_
            clear hK K
            try simp only [Act.put, List.setIfInBounds_toArray, List.set_cons_zero, List.set_cons_succ]
            refine wpF_take 7 (v := ?_) rfl (by kernel_rfl) (by kernel_rfl) (by kernel_rfl) (fun _ _ _ h => h) hT1 (by rfl) ?_ ?_
            rotate_left
            · (intro wq; go_simp; try with_reducible rfl)
            simp only [Act.put, List.setIfInBounds_toArray, List.set_cons_zero, List.set_cons_succ]
            refine wpF_take 8 (v := ?_) rfl (by kernel_rfl) (by kernel_rfl) (by kernel_rfl) (fun _ _ _ h => h) hT1 (by rfl) ?_ ?_
            rotate_left
            · (intro wq; go_simp; try with_reducible rfl)
            simp only [Act.put, List.setIfInBounds_toArray, List.set_cons_zero, List.set_cons_succ]
            refine wpF_take 9 (v := ?_) rfl (by kernel_rfl) (by kernel_rfl) (by kernel_rfl) (fun _ _ _ h => h) hT1 (by rfl) ?_ ?_
            rotate_left
            · (intro wq; go_simp; try with_reducible rfl)
            simp only [Act.put, List.setIfInBounds_toArray, List.set_cons_zero, List.set_cons_succ]
            refine wpF_take 10 (v := ?_) rfl (by kernel_rfl) (by kernel_rfl) (by kernel_rfl) (fun _ _ _ h => h) hT1 (by rfl) ?_ ?_
            rotate_left
            · (intro wq; go_simp; try with_reducible rfl)
            simp only [Act.put, List.setIfInBounds_toArray, List.set_cons_zero, List.set_cons_succ]
            refine wpF_take 11 (v := ?_) rfl (by kernel_rfl) (by kernel_rfl) (by kernel_rfl) (fun _ _ _ h => h) hT1 (by rfl) ?_ ?_
            rotate_left
            · (intro wq; go_simp; try with_reducible rfl)
            simp only [Act.put, List.setIfInBounds_toArray, List.set_cons_zero, List.set_cons_succ]
            refine wpF_take 12 (v := ?_) rfl (by kernel_rfl) (by kernel_rfl) (by kernel_rfl) (fun _ _ _ h => h) hT1 (by rfl) ?_ ?_
            rotate_left
            · (intro wq; go_simp; try with_reducible rfl)
            simp only [Act.put, List.setIfInBounds_toArray, List.set_cons_zero, List.set_cons_succ]
            refine wpF_look 13 (v := .agg #[.int .i64 X_.dot.dev, .int .i64 X_.dot.ep, .int .i64 X_.dot.seq, .int .i64 X_.coll, .int .i64 X_.ver, .int .i64 X_.kind, .string (str X_.key), .string (str X_.text), .int .i64 X_.n, .int .i64 X_.time, .slice ak X_.dots.length ck]) rfl rfl (by kernel_rfl) (by kernel_rfl) (by kernel_rfl) (by kernel_rfl) (fun _ _ _ h => h) hT1 (by rfl) (fun w hS => by have hS : Ext no vm w := hS; have q0 := hS.keeps xk0 (fun h => h); have q1 := hS.keeps xk1 (fun h => h); have q2 := hS.keeps xk2 (fun h => h); have q3 := hS.keeps xk3 (fun h => h); have q4 := hS.keeps xk4 (fun h => h); have q5 := hS.keeps xk5 (fun h => h); have q6 := hS.keeps xk6 (fun h => h); have q7 := hS.keeps xk7 (fun h => h); have q8 := hS.keeps xk8 (fun h => h); have q9 := hS.keeps xk9 (fun h => h); have q10 := hS.keeps xk10 (fun h => h); go_simp) ?_
            simp only [Act.put, List.setIfInBounds_toArray, List.set_cons_zero, List.set_cons_succ]
            refine wpF_take 16 (v := ?_) rfl (by kernel_rfl) (by kernel_rfl) (by kernel_rfl) (fun _ _ _ h => h) hT1 (by rfl) ?_ ?_
            rotate_left
            · (intro wq; go_simp; try with_reducible rfl)
            simp only [Act.put, List.setIfInBounds_toArray, List.set_cons_zero, List.set_cons_succ]
            refine wpF_take 17 (v := ?_) rfl (by kernel_rfl) (by kernel_rfl) (by kernel_rfl) (fun _ _ _ h => h) hT1 (by rfl) ?_ ?_
            rotate_left
            · (intro wq; go_simp; try with_reducible rfl)
            simp only [Act.put, List.setIfInBounds_toArray, List.set_cons_zero, List.set_cons_succ]
            refine wpF_take 18 (v := .pointer (some (sad.add j))) rfl (by kernel_rfl) (by kernel_rfl) (by kernel_rfl) (fun _ _ _ h => h) hT1 (by rfl) (by intro wq; have hj3 : (j : Int) < 3 := (by omega); go_simp) ?_
            simp only [Act.put, List.setIfInBounds_toArray, List.set_cons_zero, List.set_cons_succ]
            refine wpF_look 19 (v := .slice qa L.length qc) rfl rfl (by kernel_rfl) (by kernel_rfl) (by kernel_rfl) (by kernel_rfl) (fun _ _ _ h => h) hT1 (by rfl) (fun w hS => by have hS : Ext no vm w := hS; have q0 := hS.keeps hcell8 (fun h => h); go_simp) ?_
            simp only [Act.put, List.setIfInBounds_toArray, List.set_cons_zero, List.set_cons_succ]
            refine wpF_look 20 (v := .string (str L)) rfl rfl (by kernel_rfl) (by kernel_rfl) (by kernel_rfl) (by kernel_rfl) (fun _ _ _ h => h) hT1 (by rfl) (fun w hS => by have hS : Ext no vm w := hS; exact yields_string (by exact Try.underlying37) (by exact Try.underlying5) (by exact Try.underlying9) rfl rfl rfl (hQ8.ext hS (fun _ _ h => h))) ?_
            simp only [Act.put, List.setIfInBounds_toArray, List.set_cons_zero, List.set_cons_succ]
            refine wpF_exec 14 rfl (by kernel_rfl) (by rfl) ?_
            intro K hK
            go_simp
            refine (opbytes_nil2 (wa) X_ ak ck hXok (hq7.ext ((Ext.drew no vm).comp xa) (fun _ _ h => h)) (by omega) (by omega) (by omega)).mono ?_
            rintro e wb ⟨pa, pc, rfl, pr, xb⟩
            rw [HC.out] at pr ⊢
            have hT2 : ∀ k, looks [(4, fun z => Ext no vm z), (5, fun z => Ext no vm z), (13, fun z => Ext no vm z), (15, fun z => Rd z pa (bs L)), (19, fun z => Ext no vm z), (20, fun z => Ext no vm z)] k (wb) := looks_all ⟨(((Ext.drew no vm).comp xa).comp xb), (((Ext.drew no vm).comp xa).comp xb), (((Ext.drew no vm).comp xa).comp xb), pr, (((Ext.drew no vm).comp xa).comp xb), (((Ext.drew no vm).comp xa).comp xb), trivial⟩
            refine hK _ _ (looks [(4, fun z => Ext no vm z), (5, fun z => Ext no vm z), (13, fun z => Ext no vm z), (15, fun z => Rd z pa (bs L)), (19, fun z => Ext no vm z), (20, fun z => Ext no vm z)]) ⟨.inr (.inl (by kernel_rfl)), .inr (.inl (by kernel_rfl)), .inr (.inl (by kernel_rfl)), .inl (by kernel_rfl), .inr (.inr (fun x h => h)), .inr (.inr (fun x h => h)), trivial⟩ hT2 ?_
            clear hK K
            try simp only [Act.put, List.setIfInBounds_toArray, List.set_cons_zero, List.set_cons_succ]
            refine wpF_look 15 (v := .string (str L)) rfl rfl (by kernel_rfl) (by kernel_rfl) (by kernel_rfl) (by kernel_rfl) (fun _ _ _ h => h) hT2 (by rfl) (fun w hS => by have hS : Rd w pa (bs L) := hS; exact yields_string (by exact Try.underlying37) (by exact Try.underlying5) (by exact Try.underlying9) rfl rfl rfl hS) ?_
            simp only [Act.put, List.setIfInBounds_toArray, List.set_cons_zero, List.set_cons_succ]
            refine wpF_take 21 (v := .bool false) rfl (by kernel_rfl) (by kernel_rfl) (by kernel_rfl) (fun _ _ _ h => h) hT2 (by rfl) (by intro wq; have cs := beqStrT (rfl : L = L); go_simp) ?_
            simp only [Act.put, List.setIfInBounds_toArray, List.set_cons_zero, List.set_cons_succ]
            refine wpF_take 22 (v := ?_) rfl (by kernel_rfl) (by kernel_rfl) (by kernel_rfl) (fun _ _ _ h => h) hT2 (by rfl) ?_ ?_
            rotate_left
            · (intro wq; go_simp; try with_reducible rfl)
            simp only [Act.put, List.setIfInBounds_toArray, List.set_cons_zero, List.set_cons_succ]
            refine wpF_take 23 (v := ?_) rfl (by kernel_rfl) (by kernel_rfl) (by kernel_rfl) (fun _ _ _ h => h) hT2 (by rfl) ?_ ?_
            rotate_left
            · (intro wq; go_simp; try with_reducible rfl)
            simp only [Act.put, List.setIfInBounds_toArray, List.set_cons_zero, List.set_cons_succ]
            refine wpF_done (by kernel_rfl) ?_ _
            have hxz := hxe.comp (((Ext.drew no vm).comp xa).comp xb)
            go_wp2_with fail
            go_roundw
            case rel => exact ⟨j + 1, by omega, by go_num, hxz⟩
            case measure => simp [intOf]; omega
            -->B
          · have dE : (E == 0) = false := by rw [beq_eq_false_iff_ne]; exact hE0
            --<C
            refine wp_region_F [4, 5] (looks [(4, fun z => Ext no vm z), (5, fun z => Ext no vm z)]) (by kernel_rfl) ?_
            have hT0 : ∀ k, looks [(4, fun z => Ext no vm z), (5, fun z => Ext no vm z)] k (vm.drew) := looks_all ⟨(Ext.drew no vm), (Ext.drew no vm), trivial⟩
            refine wpF_take 0 (v := ?_) rfl (by kernel_rfl) (by kernel_rfl) (by kernel_rfl) (fun _ _ _ h => h) hT0 (by rfl) ?_ ?_
            rotate_left
            · (intro wq; go_simp; try with_reducible rfl)
            simp only [Act.put, List.setIfInBounds_toArray, List.set_cons_zero, List.set_cons_succ]
            refine wpF_take 1 (v := ?_) rfl (by kernel_rfl) (by kernel_rfl) (by kernel_rfl) (fun _ _ _ h => h) hT0 (by rfl) ?_ ?_
            rotate_left
            · (intro wq; go_simp; try with_reducible rfl)
            simp only [Act.put, List.setIfInBounds_toArray, List.set_cons_zero, List.set_cons_succ]
            refine wpF_take 2 (v := ?_) rfl (by kernel_rfl) (by kernel_rfl) (by kernel_rfl) (fun _ _ _ h => h) hT0 (by rfl) ?_ ?_
            rotate_left
            · (intro wq; go_simp; try with_reducible rfl)
            simp only [Act.put, List.setIfInBounds_toArray, List.set_cons_zero, List.set_cons_succ]
            refine wpF_take 3 (v := ?_) rfl (by kernel_rfl) (by kernel_rfl) (by kernel_rfl) (fun _ _ _ h => h) hT0 (by rfl) ?_ ?_
            rotate_left
            · (intro wq; go_simp; try with_reducible rfl)
            simp only [Act.put, List.setIfInBounds_toArray, List.set_cons_zero, List.set_cons_succ]
            refine wpF_look 4 (v := .agg #[.int .i64 X_.dot.dev, .int .i64 X_.dot.ep, .int .i64 X_.dot.seq, .int .i64 X_.coll, .int .i64 X_.ver, .int .i64 X_.kind, .string (str X_.key), .string (str X_.text), .int .i64 X_.n, .int .i64 X_.time, .slice ak X_.dots.length ck]) rfl rfl (by kernel_rfl) (by kernel_rfl) (by kernel_rfl) (by kernel_rfl) (fun _ _ _ h => h) hT0 (by rfl) (fun w hS => by have hS : Ext no vm w := hS; have q0 := hS.keeps xk0 (fun h => h); have q1 := hS.keeps xk1 (fun h => h); have q2 := hS.keeps xk2 (fun h => h); have q3 := hS.keeps xk3 (fun h => h); have q4 := hS.keeps xk4 (fun h => h); have q5 := hS.keeps xk5 (fun h => h); have q6 := hS.keeps xk6 (fun h => h); have q7 := hS.keeps xk7 (fun h => h); have q8 := hS.keeps xk8 (fun h => h); have q9 := hS.keeps xk9 (fun h => h); have q10 := hS.keeps xk10 (fun h => h); go_simp) ?_
            simp only [Act.put, List.setIfInBounds_toArray, List.set_cons_zero, List.set_cons_succ]
            refine wpF_look 5 (v := .agg #[.int .i64 X_.dot.dev, .int .i64 X_.dot.ep, .int .i64 X_.dot.seq, .int .i64 X_.coll, .int .i64 X_.ver, .int .i64 X_.kind, .string (str X_.key), .string (str X_.text), .int .i64 X_.n, .int .i64 X_.time, .slice am X_.dots.length cm]) rfl rfl (by kernel_rfl) (by kernel_rfl) (by kernel_rfl) (by kernel_rfl) (fun _ _ _ h => h) hT0 (by rfl) (fun w hS => by have hS : Ext no vm w := hS; have q0 := hS.keeps xm0 (fun h => h); have q1 := hS.keeps xm1 (fun h => h); have q2 := hS.keeps xm2 (fun h => h); have q3 := hS.keeps xm3 (fun h => h); have q4 := hS.keeps xm4 (fun h => h); have q5 := hS.keeps xm5 (fun h => h); have q6 := hS.keeps xm6 (fun h => h); have q7 := hS.keeps xm7 (fun h => h); have q8 := hS.keeps xm8 (fun h => h); have q9 := hS.keeps xm9 (fun h => h); have q10 := hS.keeps xm10 (fun h => h); go_simp) ?_
            simp only [Act.put, List.setIfInBounds_toArray, List.set_cons_zero, List.set_cons_succ]
            refine wpF_exec 6 rfl (by kernel_rfl) (by rfl) ?_
            intro K hK
            go_simp
            refine (refsame_any (vm.drew) X_ X_ ak am ck cm (hq7.ext (Ext.drew no vm) (fun _ _ h => h)) (hqm.ext (Ext.drew no vm) (fun _ _ h => h)) (by omega) (by omega)).mono ?_
            rintro e wa ⟨ra1, rfl, hs, xa⟩
            have hr := hs.2 rfl
            subst hr
            clear hs
            have hT1 : ∀ k, looks [(4, fun z => Ext no vm z), (5, fun z => Ext no vm z)] k (wa) := looks_all ⟨((Ext.drew no vm).comp xa), ((Ext.drew no vm).comp xa), trivial⟩
            refine hK _ _ (looks [(4, fun z => Ext no vm z), (5, fun z => Ext no vm z)]) ⟨.inr (.inl (by kernel_rfl)), .inr (.inl (by kernel_rfl)), trivial⟩ hT1 ?_
            clear hK K
            try simp only [Act.put, List.setIfInBounds_toArray, List.set_cons_zero, List.set_cons_succ]
            refine wpF_take 7 (v := ?_) rfl (by kernel_rfl) (by kernel_rfl) (by kernel_rfl) (fun _ _ _ h => h) hT1 (by rfl) ?_ ?_
            rotate_left
            · (intro wq; go_simp; try with_reducible rfl)
            simp only [Act.put, List.setIfInBounds_toArray, List.set_cons_zero, List.set_cons_succ]
            refine wpF_take 8 (v := ?_) rfl (by kernel_rfl) (by kernel_rfl) (by kernel_rfl) (fun _ _ _ h => h) hT1 (by rfl) ?_ ?_
            rotate_left
            · (intro wq; go_simp; try with_reducible rfl)
            simp only [Act.put, List.setIfInBounds_toArray, List.set_cons_zero, List.set_cons_succ]
            refine wpF_take 9 (v := ?_) rfl (by kernel_rfl) (by kernel_rfl) (by kernel_rfl) (fun _ _ _ h => h) hT1 (by rfl) ?_ ?_
            rotate_left
            · (intro wq; go_simp; try with_reducible rfl)
            simp only [Act.put, List.setIfInBounds_toArray, List.set_cons_zero, List.set_cons_succ]
            refine wpF_take 10 (v := ?_) rfl (by kernel_rfl) (by kernel_rfl) (by kernel_rfl) (fun _ _ _ h => h) hT1 (by rfl) ?_ ?_
            rotate_left
            · (intro wq; go_simp; try with_reducible rfl)
            simp only [Act.put, List.setIfInBounds_toArray, List.set_cons_zero, List.set_cons_succ]
            refine wpF_take 11 (v := ?_) rfl (by kernel_rfl) (by kernel_rfl) (by kernel_rfl) (fun _ _ _ h => h) hT1 (by rfl) ?_ ?_
            rotate_left
            · (intro wq; go_simp; try with_reducible rfl)
            simp only [Act.put, List.setIfInBounds_toArray, List.set_cons_zero, List.set_cons_succ]
            refine wpF_take 12 (v := ?_) rfl (by kernel_rfl) (by kernel_rfl) (by kernel_rfl) (fun _ _ _ h => h) hT1 (by rfl) ?_ ?_
            rotate_left
            · (intro wq; go_simp; try with_reducible rfl)
            simp only [Act.put, List.setIfInBounds_toArray, List.set_cons_zero, List.set_cons_succ]
            refine wpF_skip 13 rfl (by kernel_rfl) (by kernel_rfl) (by kernel_rfl) (fun _ _ _ h => h) hT1 (by rfl) ?_
            simp only [Act.put, List.setIfInBounds_toArray, List.set_cons_zero, List.set_cons_succ]
            refine wpF_skip 14 rfl (by kernel_rfl) (by kernel_rfl) (by kernel_rfl) (fun _ _ _ h => h) hT1 (by rfl) ?_
            simp only [Act.put, List.setIfInBounds_toArray, List.set_cons_zero, List.set_cons_succ]
            refine wpF_skip 15 rfl (by kernel_rfl) (by kernel_rfl) (by kernel_rfl) (fun _ _ _ h => h) hT1 (by rfl) ?_
            simp only [Act.put, List.setIfInBounds_toArray, List.set_cons_zero, List.set_cons_succ]
            refine wpF_skip 16 rfl (by kernel_rfl) (by kernel_rfl) (by kernel_rfl) (fun _ _ _ h => h) hT1 (by rfl) ?_
            simp only [Act.put, List.setIfInBounds_toArray, List.set_cons_zero, List.set_cons_succ]
            refine wpF_skip 17 rfl (by kernel_rfl) (by kernel_rfl) (by kernel_rfl) (fun _ _ _ h => h) hT1 (by rfl) ?_
            simp only [Act.put, List.setIfInBounds_toArray, List.set_cons_zero, List.set_cons_succ]
            refine wpF_skip 18 rfl (by kernel_rfl) (by kernel_rfl) (by kernel_rfl) (fun _ _ _ h => h) hT1 (by rfl) ?_
            simp only [Act.put, List.setIfInBounds_toArray, List.set_cons_zero, List.set_cons_succ]
            refine wpF_skip 19 rfl (by kernel_rfl) (by kernel_rfl) (by kernel_rfl) (fun _ _ _ h => h) hT1 (by rfl) ?_
            simp only [Act.put, List.setIfInBounds_toArray, List.set_cons_zero, List.set_cons_succ]
            refine wpF_skip 20 rfl (by kernel_rfl) (by kernel_rfl) (by kernel_rfl) (fun _ _ _ h => h) hT1 (by rfl) ?_
            simp only [Act.put, List.setIfInBounds_toArray, List.set_cons_zero, List.set_cons_succ]
            refine wpF_skip 21 rfl (by kernel_rfl) (by kernel_rfl) (by kernel_rfl) (fun _ _ _ h => h) hT1 (by rfl) ?_
            simp only [Act.put, List.setIfInBounds_toArray, List.set_cons_zero, List.set_cons_succ]
            refine wpF_take 22 (v := ?_) rfl (by kernel_rfl) (by kernel_rfl) (by kernel_rfl) (fun _ _ _ h => h) hT1 (by rfl) ?_ ?_
            rotate_left
            · (intro wq; go_simp; try with_reducible rfl)
            simp only [Act.put, List.setIfInBounds_toArray, List.set_cons_zero, List.set_cons_succ]
            refine wpF_take 23 (v := ?_) rfl (by kernel_rfl) (by kernel_rfl) (by kernel_rfl) (fun _ _ _ h => h) hT1 (by rfl) ?_ ?_
            rotate_left
            · (intro wq; go_simp; try with_reducible rfl)
            simp only [Act.put, List.setIfInBounds_toArray, List.set_cons_zero, List.set_cons_succ]
            refine wpF_done (by kernel_rfl) ?_ _
            have hxz := hxe.comp ((Ext.drew no vm).comp xa)
            go_wp2_with fail
            go_roundw
            case rel => exact ⟨j + 1, by omega, by go_num, hxz⟩
            case measure => simp [intOf]; omega
            -->C
end Go.Proofs.Ytfelipkbbefhhaa
