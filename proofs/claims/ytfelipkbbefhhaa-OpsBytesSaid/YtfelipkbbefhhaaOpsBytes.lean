/- The walk of the law OpsBytes. -/
import Derived.Test.YtfelipkbbefhhaaOpX
import Derived.Test.YtfelipkbbefhhaaOpY
import Derived.Test.YtfelipkbbefhhaaOpZ
import Derived.Test.YtfelipkbbefhhaaOpT
import Derived.Test.YtfelipkbbefhhaaOpO
namespace Go.Proofs.Ytfelipkbbefhhaa
open Go.RowKit Go.Esc
set_option linter.unusedVariables false
set_option linter.unusedSimpArgs false

theorem pOp_len (l : List UInt8) : (pOp l).1.dots.length ≤ 8 := by
  unfold pOp
  simp only
  split
  · simp [zeroOp]
  · split
    · simp [zeroOp]
    · exact (pRead_fine ⟨l, 0⟩).2.2.2
theorem opEnc_short (o : OpR) (h : o.ok) (hk : o.key.length ≤ 60) (ht : o.text.length ≤ 60) (hd : o.dots.length ≤ 12) : (opEnc o).length ≤ 2000 := by
  have h1 := headEnc_len o h
  have h2 := (encI_length (o.key.length : Int) ⟨by omega, by omega⟩).1
  have h3 := (encI_length (o.text.length : Int) ⟨by omega, by omega⟩).1
  have h4 := encs_len [o.n, (o.dots.length : Int)] (by intro n hn; simp at hn; rcases hn with rfl | rfl; exact h.n; exact ⟨by omega, by omega⟩)
  have h5 := dotsEnc_len o.dots h.dots
  unfold opEnc encT
  simp only [List.length_append]
  simp only [List.length_cons, List.length_nil] at h4
  omega
theorem rd_not2 {w w' : World} {a : Option Addr} {cs : List Value} {g : Nat} (h : Rd w a cs) (hn : cs ≠ [] → ∀ ad, a = some ad → ad.block ≠ g) (hx : Ext (just g) w w') : Rd w' a cs := by
  by_cases hc : cs = []
  · subst hc; exact Rd.nil _ _
  · exact h.ext hx (fun ad ha e => hn hc ad ha (by simpa only [Esc.just] using e))
theorem rd_low2' {w : World} {a : Option Addr} {cs : List Value} (h : Rd w a cs) (hn : cs ≠ []) (ad : Addr) (ha : a = some ad) : ad.block < w.heap.size := by
  obtain ⟨ad2, h2, h3⟩ := h.ne (List.length_pos_iff.2 hn)
  rw [ha] at h2
  cases h2
  exact h3
theorem emptied1 (w : World) (te : TypeId) : Own (w.alloc (.cells #[] te)) w.heap.size (some ⟨w.heap.size, 0, none⟩) 1 0 0 [] :=
  Own.fresh w _ _ _ _ _ _ _ _ (Nat.le_refl _) (by simp) (Nat.le_refl _) (Nat.zero_le _) (by simp) (by simp) (.inl (Nat.le_refl _))

set_option maxRecDepth 100000 in
set_option maxHeartbeats 16000000 in
theorem bytes_walk (w : World) (o1 : OpR) (aa : Option Addr) (ac : Nat) (o2 : OpR) (ba : Option Addr) (bc : Nat) (fa : Option Addr) (front : List UInt8) (fc : Nat) (hok1 : o1.ok) (hr1 : Rd w aa (ds o1.dots)) (hl1 : o1.dots.length ≤ ac) (hc1 : ac ≤ maxLen) (hok2 : o2.ok) (hr2 : Rd w ba (ds o2.dots)) (hl2 : o2.dots.length ≤ bc) (hc2 : bc ≤ maxLen) (hf : Rd w fa (bs front)) (hfl : front.length ≤ fc) (hfc : fc ≤ maxLen) :
    Calls Try.prog 9 #[o1.v aa ac, o2.v ba bc, .slice fa front.length fc] w fun e w' => e = .returned (.bool true) ∧ Ext no w w' := by
  unfold maxLen at hfc
  go_enter Try.func9, Try.ntmps9
  unfold OpR.v
  go_upto_region 1 with fail
  have hb1 := Blk.lit w #[.int .i64 o1.dot.dev, .int .i64 o1.dot.ep, .int .i64 o1.dot.seq, .int .i64 o1.coll, .int .i64 o1.ver, .int .i64 o1.kind, .string (str o1.key), .string (str o1.text), .int .i64 o1.n, .int .i64 o1.time, .slice aa o1.dots.length ac] 26
  have hx1 := Ext.alloc no w (.cells #[.int .i64 o1.dot.dev, .int .i64 o1.dot.ep, .int .i64 o1.dot.seq, .int .i64 o1.coll, .int .i64 o1.ver, .int .i64 o1.kind, .string (str o1.key), .string (str o1.text), .int .i64 o1.n, .int .i64 o1.time, .slice aa o1.dots.length ac] 26)
  have hb2 := Blk.at (w.alloc (.cells #[.int .i64 o1.dot.dev, .int .i64 o1.dot.ep, .int .i64 o1.dot.seq, .int .i64 o1.coll, .int .i64 o1.ver, .int .i64 o1.kind, .string (str o1.key), .string (str o1.text), .int .i64 o1.n, .int .i64 o1.time, .slice aa o1.dots.length ac] 26)) #[.int .i64 o2.dot.dev, .int .i64 o2.dot.ep, .int .i64 o2.dot.seq, .int .i64 o2.coll, .int .i64 o2.ver, .int .i64 o2.kind, .string (str o2.key), .string (str o2.text), .int .i64 o2.n, .int .i64 o2.time, .slice ba o2.dots.length bc] 26 (w.heap.size + 1) (by simp)
  have hx2 := Ext.alloc no (w.alloc (.cells #[.int .i64 o1.dot.dev, .int .i64 o1.dot.ep, .int .i64 o1.dot.seq, .int .i64 o1.coll, .int .i64 o1.ver, .int .i64 o1.kind, .string (str o1.key), .string (str o1.text), .int .i64 o1.n, .int .i64 o1.time, .slice aa o1.dots.length ac] 26)) (.cells #[.int .i64 o2.dot.dev, .int .i64 o2.dot.ep, .int .i64 o2.dot.seq, .int .i64 o2.coll, .int .i64 o2.ver, .int .i64 o2.kind, .string (str o2.key), .string (str o2.text), .int .i64 o2.n, .int .i64 o2.time, .slice ba o2.dots.length bc] 26)
  have hA : Blk _ w.heap.size (o1.cells aa ac) := hb1.ext (by simp) hx2 (fun h => h)
  have hB : Blk _ (w.heap.size + 1) (o2.cells ba bc) := hb2
  have hx := hx1.comp hx2
  clear hb1 hb2 hx1 hx2
  generalize (w.alloc (.cells #[.int .i64 o1.dot.dev, .int .i64 o1.dot.ep, .int .i64 o1.dot.seq, .int .i64 o1.coll, .int .i64 o1.ver, .int .i64 o1.kind, .string (str o1.key), .string (str o1.text), .int .i64 o1.n, .int .i64 o1.time, .slice aa o1.dots.length ac] 26)).alloc (.cells #[.int .i64 o2.dot.dev, .int .i64 o2.dot.ep, .int .i64 o2.dot.seq, .int .i64 o2.coll, .int .i64 o2.ver, .int .i64 o2.kind, .string (str o2.key), .string (str o2.text), .int .i64 o2.n, .int .i64 o2.time, .slice ba o2.dots.length bc] 26) = w0 at *
  obtain ⟨ga, hga⟩ : ∃ g, g = w.heap.size := ⟨_, rfl⟩
  have hgw : w.heap.size ≤ ga := by omega
  rw [← hga] at hA hB ⊢
  clear hga
  have hgl := hB.lt (by simp [OpR.cells])
  go_wp2_with fail
  refine (known_any w0).mono ?_
  rintro e w1 ⟨rfl, hxk⟩
  replace hA := hA.ext (by simp [OpR.cells]) hxk (fun h => h)
  replace hB := hB.ext (by simp [OpR.cells]) hxk (fun h => h)
  replace hx := hx.comp hxk
  clear hxk hgl
  have la0 := hA.cell 0 _ rfl
  have y0 := hB.cell 0 _ rfl
  have la1 := hA.cell 1 _ rfl
  have y1 := hB.cell 1 _ rfl
  have la2 := hA.cell 2 _ rfl
  have y2 := hB.cell 2 _ rfl
  have la3 := hA.cell 3 _ rfl
  have y3 := hB.cell 3 _ rfl
  have la4 := hA.cell 4 _ rfl
  have y4 := hB.cell 4 _ rfl
  have la5 := hA.cell 5 _ rfl
  have y5 := hB.cell 5 _ rfl
  have la6 := hA.cell 6 _ rfl
  have y6 := hB.cell 6 _ rfl
  have la7 := hA.cell 7 _ rfl
  have y7 := hB.cell 7 _ rfl
  have la8 := hA.cell 8 _ rfl
  have y8 := hB.cell 8 _ rfl
  have la9 := hA.cell 9 _ rfl
  have y9 := hB.cell 9 _ rfl
  have la10 := hA.cell 10 _ rfl
  have y10 := hB.cell 10 _ rfl
  go_wp2_with fail
  refine (few_any w1 o1 aa ac (by omega) hok1.key hok1.text).mono ?_
  rintro e w2 ⟨rfl, hxk⟩
  cases hfew1 : fewB o1 with
  | false =>
    go_wp2_with fail
    go_ret
    exact ⟨rfl, hx.comp hxk⟩
  | true =>
    have hA2 := hA.ext (by simp [OpR.cells]) hxk (fun h => h)
    have hB2 := hB.ext (by simp [OpR.cells]) hxk (fun h => h)
    clear la0 la1 la2 la3 la4 la5 la6 la7 la8 la9 la10 y0 y1 y2 y3 y4 y5 y6 y7 y8 y9 y10
    have y0 := hB2.cell 0 _ rfl
    have y1 := hB2.cell 1 _ rfl
    have y2 := hB2.cell 2 _ rfl
    have y3 := hB2.cell 3 _ rfl
    have y4 := hB2.cell 4 _ rfl
    have y5 := hB2.cell 5 _ rfl
    have y6 := hB2.cell 6 _ rfl
    have y7 := hB2.cell 7 _ rfl
    have y8 := hB2.cell 8 _ rfl
    have y9 := hB2.cell 9 _ rfl
    have y10 := hB2.cell 10 _ rfl
    go_wp2_with fail
    refine (few_any w2 o2 ba bc (by omega) hok2.key hok2.text).mono ?_
    rintro e w3 ⟨rfl, hxj⟩
    cases hfew2 : fewB o2 with
    | false =>
      go_wp2_with fail
      go_ret
      exact ⟨rfl, (hx.comp hxk).comp hxj⟩
    | true =>
      by_cases h100 : 100 < front.length
      · have d100 : decide ((100 : Int) < front.length) = true := decT (by omega)
        go_wp2_with fail
        go_ret
        exact ⟨rfl, (hx.comp hxk).comp hxj⟩
      have d100 : decide ((100 : Int) < front.length) = false := decF (by omega)
      have hF1 : o1.key.length ≤ 60 ∧ o1.text.length ≤ 60 ∧ o1.dots.length ≤ 12 := by unfold fewB at hfew1; rwa [decide_eq_true_iff] at hfew1
      have hF2 : o2.key.length ≤ 60 ∧ o2.text.length ≤ 60 ∧ o2.dots.length ≤ 12 := by unfold fewB at hfew2; rwa [decide_eq_true_iff] at hfew2
      clear hfew1 hfew2
      have hA3 := hA2.ext (by simp [OpR.cells]) hxj (fun h => h)
      have hB3 := hB2.ext (by simp [OpR.cells]) hxj (fun h => h)
      replace hx := (hx.comp hxk).comp hxj
      clear hA hB hA2 hB2 hxk hxj y0 y1 y2 y3 y4 y5 y6 y7 y8 y9 y10
      have hrA := hr1.ext hx (fun _ _ h => h)
      have hrB := hr2.ext hx (fun _ _ h => h)
      go_wp2_with fail
      go_loopw [7, 8, 9, 10, 11, 12, 13] (fun s7 s8 s9 s10 s11 s12 s13 wr => ∃ (k : Nat) (A B : OpR) (a1 b1 : Option Addr) (c1 d1 : Nat), k ≤ 2 ∧ s7 = .int .i64 k ∧ A.ok ∧ B.ok ∧ (A.key.length ≤ 60 ∧ A.text.length ≤ 60 ∧ A.dots.length ≤ 12) ∧ (B.key.length ≤ 60 ∧ B.text.length ≤ 60 ∧ B.dots.length ≤ 12) ∧ (1 ≤ k → checkOp A = 0 ∧ A.dots.length ≤ 8) ∧ Blk wr ga (A.cells a1 c1) ∧ Blk wr (ga + 1) (B.cells b1 d1) ∧ Rd wr a1 (ds A.dots) ∧ Rd wr b1 (ds B.dots) ∧ (ds A.dots ≠ [] → ∀ ad, a1 = some ad → ad.block ≠ ga ∧ ad.block ≠ ga + 1) ∧ (ds B.dots ≠ [] → ∀ ad, b1 = some ad → ad.block ≠ ga ∧ ad.block ≠ ga + 1) ∧ A.dots.length ≤ c1 ∧ c1 ≤ maxLen ∧ Ext no w wr) (fun s7 _ _ _ _ _ _ _ => 2 - (intOf s7).toNat)
      case atStart => exact ⟨0, o1, o2, aa, ba, ac, bc, by omega, rfl, hok1, hok2, hF1, hF2, fun h => absurd h (by omega), hA3, hB3, hrA, hrB, fun hn ad h => by have := rd_low2' hr1 hn ad h; omega, fun hn ad h => by have := rd_low2' hr2 hn ad h; omega, hl1, hc1, hx⟩
      case round =>
        clear hA3 hB3 hrA hrB hx
        obtain ⟨k, A, B, a1, b1, c1, d1, hk, rfl, hokA, hokB, hFA, hFB, hgood, hA, hB, hrA, hrB, hnA, hnB, hlA, hcA, hx⟩ := hrel
        by_cases hk2 : k < 2
        rotate_left
        · have e1 : decide ((k : Int) < 2) = false := decF (by omega)
          go_wp2_with fail
          go_ret
          exact ⟨rfl, hx⟩
        have e1 : decide ((k : Int) < 2) = true := decT (by omega)
        have la0 := hA.cell 0 _ rfl
        have y0 := hB.cell 0 _ rfl
        have la1 := hA.cell 1 _ rfl
        have y1 := hB.cell 1 _ rfl
        have la2 := hA.cell 2 _ rfl
        have y2 := hB.cell 2 _ rfl
        have la3 := hA.cell 3 _ rfl
        have y3 := hB.cell 3 _ rfl
        have la4 := hA.cell 4 _ rfl
        have y4 := hB.cell 4 _ rfl
        have la5 := hA.cell 5 _ rfl
        have y5 := hB.cell 5 _ rfl
        have la6 := hA.cell 6 _ rfl
        have y6 := hB.cell 6 _ rfl
        have la7 := hA.cell 7 _ rfl
        have y7 := hB.cell 7 _ rfl
        have la8 := hA.cell 8 _ rfl
        have y8 := hB.cell 8 _ rfl
        have la9 := hA.cell 9 _ rfl
        have y9 := hB.cell 9 _ rfl
        have la10 := hA.cell 10 _ rfl
        have y10 := hB.cell 10 _ rfl
        go_upto_region 8 with fail
        --<A
        refine wp_region_F [3] (looks [(3, fun z => Ext no wr z)]) (by kernel_rfl) ?_
        have hT0 : ∀ k, looks [(3, fun z => Ext no wr z)] k (wr.drew) := looks_all ⟨(Ext.drew no wr), trivial⟩
        refine wpF_take 1 (v := ?_) rfl (by kernel_rfl) (by kernel_rfl) (by kernel_rfl) (fun _ _ _ h => h) hT0 (by rfl) ?_ ?_
        rotate_left
        · (intro wq; go_simp; try with_reducible rfl)
        simp only [Act.put, List.setIfInBounds_toArray, List.set_cons_zero, List.set_cons_succ]
        refine wpF_look 3 (v := .agg #[.int .i64 A.dot.dev, .int .i64 A.dot.ep, .int .i64 A.dot.seq, .int .i64 A.coll, .int .i64 A.ver, .int .i64 A.kind, .string (str A.key), .string (str A.text), .int .i64 A.n, .int .i64 A.time, .slice a1 A.dots.length c1]) rfl rfl (by kernel_rfl) (by kernel_rfl) (by kernel_rfl) (by kernel_rfl) (fun _ _ _ h => h) hT0 (by rfl) (fun w hS => by have hS : Ext no wr w := hS; have q0 := hS.keeps la0 (fun h => h); have q1 := hS.keeps la1 (fun h => h); have q2 := hS.keeps la2 (fun h => h); have q3 := hS.keeps la3 (fun h => h); have q4 := hS.keeps la4 (fun h => h); have q5 := hS.keeps la5 (fun h => h); have q6 := hS.keeps la6 (fun h => h); have q7 := hS.keeps la7 (fun h => h); have q8 := hS.keeps la8 (fun h => h); have q9 := hS.keeps la9 (fun h => h); have q10 := hS.keeps la10 (fun h => h); go_simp) ?_
        simp only [Act.put, List.setIfInBounds_toArray, List.set_cons_zero, List.set_cons_succ]
        refine wpF_exec 0 rfl (by kernel_rfl) (by rfl) ?_
        intro K hK
        go_simp
        have hT1 : ∀ k, looks [(3, fun z => Ext no wr z)] k ((wr.alloc (.cells #[] 5)).drew) := looks_all ⟨((Ext.alloc no wr (.cells #[] 5)).comp (Ext.drew no _)), trivial⟩
        refine hK _ _ (looks [(3, fun z => Ext no wr z)]) ⟨.inr (.inr (fun x h => h)), trivial⟩ hT1 ?_
        clear hK K
        try simp only [Act.put, List.setIfInBounds_toArray, List.set_cons_zero, List.set_cons_succ]
        refine wpF_exec 2 rfl (by kernel_rfl) (by rfl) ?_
        intro K hK
        refine op_append TBytes rfl rfl ((emptied1 wr 5).drew) rfl (ys := bs front) (hf.ext (hx.comp ((Ext.alloc no wr (.cells #[] 5)).comp (Ext.drew no _))) (fun _ _ h => h)) (by rw [bs_length, Nat.mul_one]) (bs_one _) (by unfold maxLen; omega) (by omega) (by show wr.heap.size ≤ (wr.alloc (.cells #[] 5)).heap.size; simp) ?_
        intro p4 q4 u4 hAp
        rw [Nat.zero_add]
        have ho4 : Own u4 wr.heap.size p4 1 front.length q4 (bs front) := by have := hAp.own; rwa [Nat.zero_add, List.nil_append] at this
        have hz4 : Ext no wr u4 := Ext.ofBelow ((((Ext.alloc no wr (.cells #[] 5)).comp (Ext.drew no _)).belowAll).trans (((emptied1 wr 5).drew).below hAp.ext (by show wr.heap.size ≤ (wr.alloc (.cells #[] 5)).heap.size; simp))) (Nat.le_refl _)
        clear hAp
        have hT2 : ∀ k, looks [(3, fun z => Ext no wr z)] k (u4) := looks_all ⟨hz4, trivial⟩
        refine hK _ _ (looks [(3, fun z => Ext no wr z)]) ⟨.inr (.inr (fun x h => h)), trivial⟩ hT2 ?_
        clear hK K
        try simp only [Act.put, List.setIfInBounds_toArray, List.set_cons_zero, List.set_cons_succ]
        refine wpF_exec 4 rfl (by kernel_rfl) (by rfl) ?_
        intro K hK
        go_simp
        refine (opbytes_any u4 A a1 p4 c1 q4 front hokA (hrA.ext hz4 (fun _ _ h => h)) (by omega) (by omega) (by omega) ho4.rd (by omega)).mono ?_
        rintro e t4 ⟨r4, s4, rfl, hr4, hy4⟩
        obtain ⟨P, hP⟩ : ∃ P, P = front ++ opEnc A := ⟨_, rfl⟩
        rw [← hP] at hr4 ⊢
        have HP := Lib.hid hP
        have hPl : P.length = front.length + (opEnc A).length := by rw [hP, List.length_append]
        have HPl := Lib.hid hPl
        clear hP hPl
        have hx4 := hz4.comp hy4
        have hT3 : ∀ k, looks [(3, fun z => Ext no wr z)] k (t4) := looks_all ⟨hx4, trivial⟩
        refine hK _ _ (looks [(3, fun z => Ext no wr z)]) ⟨.inr (.inl (by kernel_rfl)), trivial⟩ hT3 ?_
        clear hK K
        try simp only [Act.put, List.setIfInBounds_toArray, List.set_cons_zero, List.set_cons_succ]
        refine wpF_take 5 (v := ?_) rfl (by kernel_rfl) (by kernel_rfl) (by kernel_rfl) (fun _ _ _ h => h) hT3 (by rfl) ?_ ?_
        rotate_left
        · (intro wq; go_simp; try with_reducible rfl)
        simp only [Act.put, List.setIfInBounds_toArray, List.set_cons_zero, List.set_cons_succ]
        refine wpF_done (by kernel_rfl) ?_ _
        go_upto_region 9 with fail
        have hA9 := hA.ext (by simp [OpR.cells]) hx4 (fun h => h)
        have hB9 := hB.ext (by simp [OpR.cells]) hx4 (fun h => h)
        have hrA9 := hrA.ext hx4 (fun _ _ h => h)
        have hrB9 := hrB.ext hx4 (fun _ _ h => h)
        have hxw4 := hx.comp hx4
        clear la0 y0 la1 y1 la2 y2 la3 y3 la4 y4 la5 y5 la6 y6 la7 y7 la8 y8 la9 y9 la10 y10
        have la0 := hA9.cell 0 _ rfl
        have la1 := hA9.cell 1 _ rfl
        have la2 := hA9.cell 2 _ rfl
        have la3 := hA9.cell 3 _ rfl
        have la4 := hA9.cell 4 _ rfl
        have la5 := hA9.cell 5 _ rfl
        have la6 := hA9.cell 6 _ rfl
        have la7 := hA9.cell 7 _ rfl
        have la8 := hA9.cell 8 _ rfl
        have la9 := hA9.cell 9 _ rfl
        have la10 := hA9.cell 10 _ rfl
        have y0 := hB9.cell 0 _ rfl
        have y1 := hB9.cell 1 _ rfl
        have y2 := hB9.cell 2 _ rfl
        have y3 := hB9.cell 3 _ rfl
        have y4 := hB9.cell 4 _ rfl
        have y5 := hB9.cell 5 _ rfl
        have y6 := hB9.cell 6 _ rfl
        have y7 := hB9.cell 7 _ rfl
        have y8 := hB9.cell 8 _ rfl
        have y9 := hB9.cell 9 _ rfl
        have y10 := hB9.cell 10 _ rfl
        refine wp_region_F [3] (looks [(3, fun z => Ext no t4 z)]) (by kernel_rfl) ?_
        have hT0 : ∀ k, looks [(3, fun z => Ext no t4 z)] k (t4.drew) := looks_all ⟨(Ext.drew no t4), trivial⟩
        refine wpF_take 1 (v := ?_) rfl (by kernel_rfl) (by kernel_rfl) (by kernel_rfl) (fun _ _ _ h => h) hT0 (by rfl) ?_ ?_
        rotate_left
        · (intro wq; go_simp; try with_reducible rfl)
        simp only [Act.put, List.setIfInBounds_toArray, List.set_cons_zero, List.set_cons_succ]
        refine wpF_look 3 (v := .agg #[.int .i64 A.dot.dev, .int .i64 A.dot.ep, .int .i64 A.dot.seq, .int .i64 A.coll, .int .i64 A.ver, .int .i64 A.kind, .string (str A.key), .string (str A.text), .int .i64 A.n, .int .i64 A.time, .slice a1 A.dots.length c1]) rfl rfl (by kernel_rfl) (by kernel_rfl) (by kernel_rfl) (by kernel_rfl) (fun _ _ _ h => h) hT0 (by rfl) (fun w hS => by have hS : Ext no t4 w := hS; have q0 := hS.keeps la0 (fun h => h); have q1 := hS.keeps la1 (fun h => h); have q2 := hS.keeps la2 (fun h => h); have q3 := hS.keeps la3 (fun h => h); have q4 := hS.keeps la4 (fun h => h); have q5 := hS.keeps la5 (fun h => h); have q6 := hS.keeps la6 (fun h => h); have q7 := hS.keeps la7 (fun h => h); have q8 := hS.keeps la8 (fun h => h); have q9 := hS.keeps la9 (fun h => h); have q10 := hS.keeps la10 (fun h => h); go_simp) ?_
        simp only [Act.put, List.setIfInBounds_toArray, List.set_cons_zero, List.set_cons_succ]
        refine wpF_exec 0 rfl (by kernel_rfl) (by rfl) ?_
        intro K hK
        go_simp
        have hT1 : ∀ k, looks [(3, fun z => Ext no t4 z)] k ((t4.alloc (.cells #[] 5)).drew) := looks_all ⟨((Ext.alloc no t4 (.cells #[] 5)).comp (Ext.drew no _)), trivial⟩
        refine hK _ _ (looks [(3, fun z => Ext no t4 z)]) ⟨.inr (.inr (fun x h => h)), trivial⟩ hT1 ?_
        clear hK K
        try simp only [Act.put, List.setIfInBounds_toArray, List.set_cons_zero, List.set_cons_succ]
        refine wpF_exec 2 rfl (by kernel_rfl) (by rfl) ?_
        intro K hK
        refine op_append TBytes rfl rfl ((emptied1 t4 5).drew) rfl (ys := bs front) (hf.ext (hxw4.comp ((Ext.alloc no t4 (.cells #[] 5)).comp (Ext.drew no _))) (fun _ _ h => h)) (by rw [bs_length, Nat.mul_one]) (bs_one _) (by unfold maxLen; omega) (by omega) (by show t4.heap.size ≤ (t4.alloc (.cells #[] 5)).heap.size; simp) ?_
        intro p5 q5 u5 hAp
        rw [Nat.zero_add]
        have ho5 : Own u5 t4.heap.size p5 1 front.length q5 (bs front) := by have := hAp.own; rwa [Nat.zero_add, List.nil_append] at this
        have hz5 : Ext no t4 u5 := Ext.ofBelow ((((Ext.alloc no t4 (.cells #[] 5)).comp (Ext.drew no _)).belowAll).trans (((emptied1 t4 5).drew).below hAp.ext (by show t4.heap.size ≤ (t4.alloc (.cells #[] 5)).heap.size; simp))) (Nat.le_refl _)
        clear hAp
        have hT2 : ∀ k, looks [(3, fun z => Ext no t4 z)] k (u5) := looks_all ⟨hz5, trivial⟩
        refine hK _ _ (looks [(3, fun z => Ext no t4 z)]) ⟨.inr (.inr (fun x h => h)), trivial⟩ hT2 ?_
        clear hK K
        try simp only [Act.put, List.setIfInBounds_toArray, List.set_cons_zero, List.set_cons_succ]
        refine wpF_exec 4 rfl (by kernel_rfl) (by rfl) ?_
        intro K hK
        go_simp
        refine (xbytes_any u5 t4.heap.size p5 q5 front.length (bs front) A a1 c1 ho5 hz5.size (by omega) hokA (hrA9.ext hz5 (fun _ _ h => h)) (fun hn ad h => by have := rd_low2' hrA9 hn ad h; rintro ⟨ad2, h2, h3⟩; have := (ho5.base ad2 h2).1; omega) (by omega) (by omega) (by omega)).mono ?_
        rintro e t5 ⟨r5, s5, rfl, hAp⟩
        rw [← HPl.out]
        have hr5 : Rd t5 r5 (bs P) := by rw [HP.out, bs_append]; exact hAp.own.rd
        have hoP : Own t5 t4.heap.size r5 1 P.length s5 (bs P) := by rw [HPl.out, HP.out, bs_append]; exact hAp.own
        have hx5 : Ext no t4 t5 := Ext.ofBelow (hz5.belowAll.trans (ho5.below hAp.ext hz5.size)) (Nat.le_refl _)
        clear hAp
        have hT3 : ∀ k, looks [(3, fun z => Ext no t4 z)] k (t5) := looks_all ⟨hx5, trivial⟩
        refine hK _ _ (looks [(3, fun z => Ext no t4 z)]) ⟨.inr (.inl (by kernel_rfl)), trivial⟩ hT3 ?_
        clear hK K
        try simp only [Act.put, List.setIfInBounds_toArray, List.set_cons_zero, List.set_cons_succ]
        refine wpF_take 5 (v := ?_) rfl (by kernel_rfl) (by kernel_rfl) (by kernel_rfl) (fun _ _ _ h => h) hT3 (by rfl) ?_ ?_
        rotate_left
        · (intro wq; go_simp; try with_reducible rfl)
        simp only [Act.put, List.setIfInBounds_toArray, List.set_cons_zero, List.set_cons_succ]
        refine wpF_done (by kernel_rfl) ?_ _
        go_upto_region 10 with fail
        have hA5 := hA9.ext (by simp [OpR.cells]) hx5 (fun h => h)
        have hB5 := hB9.ext (by simp [OpR.cells]) hx5 (fun h => h)
        have hrA5 := hrA9.ext hx5 (fun _ _ h => h)
        have hrB5 := hrB9.ext hx5 (fun _ _ h => h)
        have hr95 := hr4.ext hx5 (fun _ _ h => h)
        have hxw5 := hxw4.comp hx5
        clear la0 y0 la1 y1 la2 y2 la3 y3 la4 y4 la5 y5 la6 y6 la7 y7 la8 y8 la9 y9 la10 y10
        have la0 := hA5.cell 0 _ rfl
        have la1 := hA5.cell 1 _ rfl
        have la2 := hA5.cell 2 _ rfl
        have la3 := hA5.cell 3 _ rfl
        have la4 := hA5.cell 4 _ rfl
        have la5 := hA5.cell 5 _ rfl
        have la6 := hA5.cell 6 _ rfl
        have la7 := hA5.cell 7 _ rfl
        have la8 := hA5.cell 8 _ rfl
        have la9 := hA5.cell 9 _ rfl
        have la10 := hA5.cell 10 _ rfl
        have y0 := hB5.cell 0 _ rfl
        have y1 := hB5.cell 1 _ rfl
        have y2 := hB5.cell 2 _ rfl
        have y3 := hB5.cell 3 _ rfl
        have y4 := hB5.cell 4 _ rfl
        have y5 := hB5.cell 5 _ rfl
        have y6 := hB5.cell 6 _ rfl
        have y7 := hB5.cell 7 _ rfl
        have y8 := hB5.cell 8 _ rfl
        have y9 := hB5.cell 9 _ rfl
        have y10 := hB5.cell 10 _ rfl
        refine wp_region_F [1, 3, 6, 7, 9, 10, 15, 16] (looks [(1, fun z => Ext no t5 z), (3, fun z => Ext no t5 z), (6, fun z => Ext no t5 z), (7, fun z => Ext no t5 z), (9, fun z => Ext no t5 z), (10, fun z => Ext no t5 z), (15, fun z => Ext no t5 z), (16, fun z => Ext no t5 z)]) (by kernel_rfl) ?_
        have hT0 : ∀ k, looks [(1, fun z => Ext no t5 z), (3, fun z => Ext no t5 z), (6, fun z => Ext no t5 z), (7, fun z => Ext no t5 z), (9, fun z => Ext no t5 z), (10, fun z => Ext no t5 z), (15, fun z => Ext no t5 z), (16, fun z => Ext no t5 z)] k (t5.drew) := looks_all ⟨(Ext.drew no t5), (Ext.drew no t5), (Ext.drew no t5), (Ext.drew no t5), (Ext.drew no t5), (Ext.drew no t5), (Ext.drew no t5), (Ext.drew no t5), trivial⟩
        refine wpF_take 0 (v := ?_) rfl (by kernel_rfl) (by kernel_rfl) (by kernel_rfl) (fun _ _ _ h => h) hT0 (by rfl) ?_ ?_
        rotate_left
        · (intro wq; go_simp; try with_reducible rfl)
        simp only [Act.put, List.setIfInBounds_toArray, List.set_cons_zero, List.set_cons_succ]
        refine wpF_look 1 (v := .string (str P)) rfl rfl (by kernel_rfl) (by kernel_rfl) (by kernel_rfl) (by kernel_rfl) (fun _ _ _ h => h) hT0 (by rfl) (fun w hS => by have hS : Ext no t5 w := hS; exact yields_string (by exact Try.underlying37) (by exact Try.underlying5) (by exact Try.underlying9) rfl rfl rfl (hr95.ext hS (fun _ _ h => h))) ?_
        simp only [Act.put, List.setIfInBounds_toArray, List.set_cons_zero, List.set_cons_succ]
        refine wpF_take 2 (v := ?_) rfl (by kernel_rfl) (by kernel_rfl) (by kernel_rfl) (fun _ _ _ h => h) hT0 (by rfl) ?_ ?_
        rotate_left
        · (intro wq; go_simp; try with_reducible rfl)
        simp only [Act.put, List.setIfInBounds_toArray, List.set_cons_zero, List.set_cons_succ]
        refine wpF_look 3 (v := .string (str P)) rfl rfl (by kernel_rfl) (by kernel_rfl) (by kernel_rfl) (by kernel_rfl) (fun _ _ _ h => h) hT0 (by rfl) (fun w hS => by have hS : Ext no t5 w := hS; exact yields_string (by exact Try.underlying37) (by exact Try.underlying5) (by exact Try.underlying9) rfl rfl rfl (hr5.ext hS (fun _ _ h => h))) ?_
        simp only [Act.put, List.setIfInBounds_toArray, List.set_cons_zero, List.set_cons_succ]
        refine wpF_take 4 (v := ?_) rfl (by kernel_rfl) (by kernel_rfl) (by kernel_rfl) (fun _ _ _ h => h) hT0 (by rfl) ?_ ?_
        rotate_left
        · (intro wq; go_simp; try with_reducible rfl)
        simp only [Act.put, List.setIfInBounds_toArray, List.set_cons_zero, List.set_cons_succ]
        refine wpF_take 5 (v := ?_) rfl (by kernel_rfl) (by kernel_rfl) (by kernel_rfl) (fun _ _ _ h => h) hT0 (by rfl) ?_ ?_
        rotate_left
        · (intro wq; go_simp; try with_reducible rfl)
        simp only [Act.put, List.setIfInBounds_toArray, List.set_cons_zero, List.set_cons_succ]
        refine wpF_look 6 (v := .agg #[.int .i64 A.dot.dev, .int .i64 A.dot.ep, .int .i64 A.dot.seq, .int .i64 A.coll, .int .i64 A.ver, .int .i64 A.kind, .string (str A.key), .string (str A.text), .int .i64 A.n, .int .i64 A.time, .slice a1 A.dots.length c1]) rfl rfl (by kernel_rfl) (by kernel_rfl) (by kernel_rfl) (by kernel_rfl) (fun _ _ _ h => h) hT0 (by rfl) (fun w hS => by have hS : Ext no t5 w := hS; have q0 := hS.keeps la0 (fun h => h); have q1 := hS.keeps la1 (fun h => h); have q2 := hS.keeps la2 (fun h => h); have q3 := hS.keeps la3 (fun h => h); have q4 := hS.keeps la4 (fun h => h); have q5 := hS.keeps la5 (fun h => h); have q6 := hS.keeps la6 (fun h => h); have q7 := hS.keeps la7 (fun h => h); have q8 := hS.keeps la8 (fun h => h); have q9 := hS.keeps la9 (fun h => h); have q10 := hS.keeps la10 (fun h => h); go_simp) ?_
        simp only [Act.put, List.setIfInBounds_toArray, List.set_cons_zero, List.set_cons_succ]
        refine wpF_look 7 (v := .agg #[.int .i64 B.dot.dev, .int .i64 B.dot.ep, .int .i64 B.dot.seq, .int .i64 B.coll, .int .i64 B.ver, .int .i64 B.kind, .string (str B.key), .string (str B.text), .int .i64 B.n, .int .i64 B.time, .slice b1 B.dots.length d1]) rfl rfl (by kernel_rfl) (by kernel_rfl) (by kernel_rfl) (by kernel_rfl) (fun _ _ _ h => h) hT0 (by rfl) (fun w hS => by have hS : Ext no t5 w := hS; have q0 := hS.keeps y0 (fun h => h); have q1 := hS.keeps y1 (fun h => h); have q2 := hS.keeps y2 (fun h => h); have q3 := hS.keeps y3 (fun h => h); have q4 := hS.keeps y4 (fun h => h); have q5 := hS.keeps y5 (fun h => h); have q6 := hS.keeps y6 (fun h => h); have q7 := hS.keeps y7 (fun h => h); have q8 := hS.keeps y8 (fun h => h); have q9 := hS.keeps y9 (fun h => h); have q10 := hS.keeps y10 (fun h => h); go_simp) ?_
        simp only [Act.put, List.setIfInBounds_toArray, List.set_cons_zero, List.set_cons_succ]
        refine wpF_look 9 (v := .agg #[.int .i64 A.dot.dev, .int .i64 A.dot.ep, .int .i64 A.dot.seq, .int .i64 A.coll, .int .i64 A.ver, .int .i64 A.kind, .string (str A.key), .string (str A.text), .int .i64 A.n, .int .i64 A.time, .slice a1 A.dots.length c1]) rfl rfl (by kernel_rfl) (by kernel_rfl) (by kernel_rfl) (by kernel_rfl) (fun _ _ _ h => h) hT0 (by rfl) (fun w hS => by have hS : Ext no t5 w := hS; have q0 := hS.keeps la0 (fun h => h); have q1 := hS.keeps la1 (fun h => h); have q2 := hS.keeps la2 (fun h => h); have q3 := hS.keeps la3 (fun h => h); have q4 := hS.keeps la4 (fun h => h); have q5 := hS.keeps la5 (fun h => h); have q6 := hS.keeps la6 (fun h => h); have q7 := hS.keeps la7 (fun h => h); have q8 := hS.keeps la8 (fun h => h); have q9 := hS.keeps la9 (fun h => h); have q10 := hS.keeps la10 (fun h => h); go_simp) ?_
        simp only [Act.put, List.setIfInBounds_toArray, List.set_cons_zero, List.set_cons_succ]
        refine wpF_look 10 (v := .agg #[.int .i64 B.dot.dev, .int .i64 B.dot.ep, .int .i64 B.dot.seq, .int .i64 B.coll, .int .i64 B.ver, .int .i64 B.kind, .string (str B.key), .string (str B.text), .int .i64 B.n, .int .i64 B.time, .slice b1 B.dots.length d1]) rfl rfl (by kernel_rfl) (by kernel_rfl) (by kernel_rfl) (by kernel_rfl) (fun _ _ _ h => h) hT0 (by rfl) (fun w hS => by have hS : Ext no t5 w := hS; have q0 := hS.keeps y0 (fun h => h); have q1 := hS.keeps y1 (fun h => h); have q2 := hS.keeps y2 (fun h => h); have q3 := hS.keeps y3 (fun h => h); have q4 := hS.keeps y4 (fun h => h); have q5 := hS.keeps y5 (fun h => h); have q6 := hS.keeps y6 (fun h => h); have q7 := hS.keeps y7 (fun h => h); have q8 := hS.keeps y8 (fun h => h); have q9 := hS.keeps y9 (fun h => h); have q10 := hS.keeps y10 (fun h => h); go_simp) ?_
        simp only [Act.put, List.setIfInBounds_toArray, List.set_cons_zero, List.set_cons_succ]
        refine wpF_exec 8 rfl (by kernel_rfl) (by rfl) ?_
        intro K hK
        go_simp
        refine (same_any (t5.drew) A B a1 b1 c1 d1 (hrA5.ext (Ext.drew no t5) (fun _ _ h => h)) (hrB5.ext (Ext.drew no t5) (fun _ _ h => h)) (by omega) (by omega)).mono ?_
        rintro e x8 ⟨z8, rfl, hs8, hh8⟩
        have hT1 : ∀ k, looks [(1, fun z => Ext no t5 z), (3, fun z => Ext no t5 z), (6, fun z => Ext no t5 z), (7, fun z => Ext no t5 z), (9, fun z => Ext no t5 z), (10, fun z => Ext no t5 z), (15, fun z => Ext no t5 z), (16, fun z => Ext no t5 z)] k (x8) := looks_all ⟨((Ext.drew no t5).comp hh8), ((Ext.drew no t5).comp hh8), ((Ext.drew no t5).comp hh8), ((Ext.drew no t5).comp hh8), ((Ext.drew no t5).comp hh8), ((Ext.drew no t5).comp hh8), ((Ext.drew no t5).comp hh8), ((Ext.drew no t5).comp hh8), trivial⟩
        refine hK _ _ (looks [(1, fun z => Ext no t5 z), (3, fun z => Ext no t5 z), (6, fun z => Ext no t5 z), (7, fun z => Ext no t5 z), (9, fun z => Ext no t5 z), (10, fun z => Ext no t5 z), (15, fun z => Ext no t5 z), (16, fun z => Ext no t5 z)]) ⟨.inr (.inl (by kernel_rfl)), .inr (.inl (by kernel_rfl)), .inr (.inl (by kernel_rfl)), .inr (.inl (by kernel_rfl)), .inr (.inr (fun x h => h)), .inr (.inr (fun x h => h)), .inl (by kernel_rfl), .inl (by kernel_rfl), trivial⟩ hT1 ?_
        clear hK K
        try simp only [Act.put, List.setIfInBounds_toArray, List.set_cons_zero, List.set_cons_succ]
        refine wpF_exec 11 rfl (by kernel_rfl) (by rfl) ?_
        intro K hK
        go_simp
        refine (refsame_any (x8) A B a1 b1 c1 d1 (hrA5.ext ((Ext.drew no t5).comp hh8) (fun _ _ h => h)) (hrB5.ext ((Ext.drew no t5).comp hh8) (fun _ _ h => h)) (by omega) (by omega)).mono ?_
        rintro e x11 ⟨z11, rfl, hs11, hh11⟩
        obtain rfl : z8 = z11 := by cases z8 <;> cases z11 <;> simp_all
        clear hs11
        have hT2 : ∀ k, looks [(1, fun z => Ext no t5 z), (3, fun z => Ext no t5 z), (6, fun z => Ext no t5 z), (7, fun z => Ext no t5 z), (9, fun z => Ext no t5 z), (10, fun z => Ext no t5 z), (15, fun z => Ext no t5 z), (16, fun z => Ext no t5 z)] k (x11) := looks_all ⟨(((Ext.drew no t5).comp hh8).comp hh11), (((Ext.drew no t5).comp hh8).comp hh11), (((Ext.drew no t5).comp hh8).comp hh11), (((Ext.drew no t5).comp hh8).comp hh11), (((Ext.drew no t5).comp hh8).comp hh11), (((Ext.drew no t5).comp hh8).comp hh11), (((Ext.drew no t5).comp hh8).comp hh11), (((Ext.drew no t5).comp hh8).comp hh11), trivial⟩
        refine hK _ _ (looks [(1, fun z => Ext no t5 z), (3, fun z => Ext no t5 z), (6, fun z => Ext no t5 z), (7, fun z => Ext no t5 z), (9, fun z => Ext no t5 z), (10, fun z => Ext no t5 z), (15, fun z => Ext no t5 z), (16, fun z => Ext no t5 z)]) ⟨.inr (.inl (by kernel_rfl)), .inr (.inl (by kernel_rfl)), .inr (.inl (by kernel_rfl)), .inr (.inl (by kernel_rfl)), .inr (.inl (by kernel_rfl)), .inr (.inl (by kernel_rfl)), .inl (by kernel_rfl), .inl (by kernel_rfl), trivial⟩ hT2 ?_
        clear hK K
        try simp only [Act.put, List.setIfInBounds_toArray, List.set_cons_zero, List.set_cons_succ]
        refine wpF_take 12 (v := .bool false) rfl (by kernel_rfl) (by kernel_rfl) (by kernel_rfl) (fun _ _ _ h => h) hT2 (by rfl) (by intro wq; go_simp; try (cases z8 <;> rfl)) ?_
        simp only [Act.put, List.setIfInBounds_toArray, List.set_cons_zero, List.set_cons_succ]
        refine wpF_take 13 (v := ?_) rfl (by kernel_rfl) (by kernel_rfl) (by kernel_rfl) (fun _ _ _ h => h) hT2 (by rfl) ?_ ?_
        rotate_left
        · (intro wq; go_simp; try with_reducible rfl)
        simp only [Act.put, List.setIfInBounds_toArray, List.set_cons_zero, List.set_cons_succ]
        refine wpF_take 14 (v := ?_) rfl (by kernel_rfl) (by kernel_rfl) (by kernel_rfl) (fun _ _ _ h => h) hT2 (by rfl) ?_ ?_
        rotate_left
        · (intro wq; go_simp; try with_reducible rfl)
        simp only [Act.put, List.setIfInBounds_toArray, List.set_cons_zero, List.set_cons_succ]
        refine wpF_look 15 (v := .agg #[.int .i64 A.dot.dev, .int .i64 A.dot.ep, .int .i64 A.dot.seq, .int .i64 A.coll, .int .i64 A.ver, .int .i64 A.kind, .string (str A.key), .string (str A.text), .int .i64 A.n, .int .i64 A.time, .slice a1 A.dots.length c1]) rfl rfl (by kernel_rfl) (by kernel_rfl) (by kernel_rfl) (by kernel_rfl) (fun _ _ _ h => h) hT2 (by rfl) (fun w hS => by have hS : Ext no t5 w := hS; have q0 := hS.keeps la0 (fun h => h); have q1 := hS.keeps la1 (fun h => h); have q2 := hS.keeps la2 (fun h => h); have q3 := hS.keeps la3 (fun h => h); have q4 := hS.keeps la4 (fun h => h); have q5 := hS.keeps la5 (fun h => h); have q6 := hS.keeps la6 (fun h => h); have q7 := hS.keeps la7 (fun h => h); have q8 := hS.keeps la8 (fun h => h); have q9 := hS.keeps la9 (fun h => h); have q10 := hS.keeps la10 (fun h => h); go_simp) ?_
        simp only [Act.put, List.setIfInBounds_toArray, List.set_cons_zero, List.set_cons_succ]
        refine wpF_look 16 (v := .agg #[.int .i64 A.dot.dev, .int .i64 A.dot.ep, .int .i64 A.dot.seq, .int .i64 A.coll, .int .i64 A.ver, .int .i64 A.kind, .string (str A.key), .string (str A.text), .int .i64 A.n, .int .i64 A.time, .slice a1 A.dots.length c1]) rfl rfl (by kernel_rfl) (by kernel_rfl) (by kernel_rfl) (by kernel_rfl) (fun _ _ _ h => h) hT2 (by rfl) (fun w hS => by have hS : Ext no t5 w := hS; have q0 := hS.keeps la0 (fun h => h); have q1 := hS.keeps la1 (fun h => h); have q2 := hS.keeps la2 (fun h => h); have q3 := hS.keeps la3 (fun h => h); have q4 := hS.keeps la4 (fun h => h); have q5 := hS.keeps la5 (fun h => h); have q6 := hS.keeps la6 (fun h => h); have q7 := hS.keeps la7 (fun h => h); have q8 := hS.keeps la8 (fun h => h); have q9 := hS.keeps la9 (fun h => h); have q10 := hS.keeps la10 (fun h => h); go_simp) ?_
        simp only [Act.put, List.setIfInBounds_toArray, List.set_cons_zero, List.set_cons_succ]
        refine wpF_exec 17 rfl (by kernel_rfl) (by rfl) ?_
        intro K hK
        go_simp
        refine (same_any (x11) A A a1 a1 c1 c1 (hrA5.ext (((Ext.drew no t5).comp hh8).comp hh11) (fun _ _ h => h)) (hrA5.ext (((Ext.drew no t5).comp hh8).comp hh11) (fun _ _ h => h)) (by omega) (by omega)).mono ?_
        rintro e x17 ⟨z17, rfl, hs17, hh17⟩
        have hz17 : z17 = true := hs17.2 rfl
        subst hz17
        clear hs17
        have hT3 : ∀ k, looks [(1, fun z => Ext no t5 z), (3, fun z => Ext no t5 z), (6, fun z => Ext no t5 z), (7, fun z => Ext no t5 z), (9, fun z => Ext no t5 z), (10, fun z => Ext no t5 z), (15, fun z => Ext no t5 z), (16, fun z => Ext no t5 z)] k (x17) := looks_all ⟨((((Ext.drew no t5).comp hh8).comp hh11).comp hh17), ((((Ext.drew no t5).comp hh8).comp hh11).comp hh17), ((((Ext.drew no t5).comp hh8).comp hh11).comp hh17), ((((Ext.drew no t5).comp hh8).comp hh11).comp hh17), ((((Ext.drew no t5).comp hh8).comp hh11).comp hh17), ((((Ext.drew no t5).comp hh8).comp hh11).comp hh17), ((((Ext.drew no t5).comp hh8).comp hh11).comp hh17), ((((Ext.drew no t5).comp hh8).comp hh11).comp hh17), trivial⟩
        refine hK _ _ (looks [(1, fun z => Ext no t5 z), (3, fun z => Ext no t5 z), (6, fun z => Ext no t5 z), (7, fun z => Ext no t5 z), (9, fun z => Ext no t5 z), (10, fun z => Ext no t5 z), (15, fun z => Ext no t5 z), (16, fun z => Ext no t5 z)]) ⟨.inr (.inl (by kernel_rfl)), .inr (.inl (by kernel_rfl)), .inr (.inl (by kernel_rfl)), .inr (.inl (by kernel_rfl)), .inr (.inl (by kernel_rfl)), .inr (.inl (by kernel_rfl)), .inr (.inl (by kernel_rfl)), .inr (.inl (by kernel_rfl)), trivial⟩ hT3 ?_
        clear hK K
        try simp only [Act.put, List.setIfInBounds_toArray, List.set_cons_zero, List.set_cons_succ]
        refine wpF_take 18 (v := ?_) rfl (by kernel_rfl) (by kernel_rfl) (by kernel_rfl) (fun _ _ _ h => h) hT3 (by rfl) ?_ ?_
        rotate_left
        · (intro wq; go_simp; try with_reducible rfl)
        simp only [Act.put, List.setIfInBounds_toArray, List.set_cons_zero, List.set_cons_succ]
        refine wpF_take 19 (v := ?_) rfl (by kernel_rfl) (by kernel_rfl) (by kernel_rfl) (fun _ _ _ h => h) hT3 (by rfl) ?_ ?_
        rotate_left
        · (intro wq; go_simp; try with_reducible rfl)
        simp only [Act.put, List.setIfInBounds_toArray, List.set_cons_zero, List.set_cons_succ]
        refine wpF_done (by kernel_rfl) ?_ _
        go_upto_region 12 with fail
        have hxe : Ext no t5 x17 := ((((Ext.drew no t5).comp hh8).comp hh11).comp hh17)
        have hxw6 := hxw5.comp hxe
        have hA6 := hA5.ext (by simp [OpR.cells]) hxe (fun h => h)
        have hB6 := hB5.ext (by simp [OpR.cells]) hxe (fun h => h)
        have hrA6 := hrA5.ext hxe (fun _ _ h => h)
        have hrB6 := hrB5.ext hxe (fun _ _ h => h)
        have hP6 := hr5.ext hxe (fun _ _ h => h)
        have hPc := hoP.nc
        have hPm := hoP.cm
        have hQ6 : Rd x17 (cutAt r5 s5 front.length 1) (bs (opEnc A)) := by have := hP6.cutB s5 front.length hPc; rwa [HP.out, List.drop_left] at this
        obtain ⟨X, hX⟩ : ∃ X, X = (pOp (opEnc A)).1 := ⟨_, rfl⟩
        obtain ⟨E, hE⟩ : ∃ E, E = (pOp (opEnc A)).2 := ⟨_, rfl⟩
        have HX := Lib.hid hX
        have HE := Lib.hid hE
        have HQl := Lib.hid (show P.length - front.length = (opEnc A).length by rw [HPl.out]; omega)
        have hPl2 : front.length ≤ P.length := by rw [HPl.out]; omega
        have hQlen : (opEnc A).length ≤ 2000 := opEnc_short A hokA hFA.1 hFA.2.1 hFA.2.2
        have hQc : (opEnc A).length ≤ s5 - front.length := by have := HPl.out; omega
        clear hX hE hT0 hT1 hT2 hT3
        have cutf : ∀ w, (Instr.sliceAt 37 (.slice r5 P.length s5) (some (.int .i64 (front.length : Int))) none none).run Try.prog w = .ok (.slice (cutAt r5 s5 front.length 1) (opEnc A).length (s5 - front.length)) w := fun w => by rw [← HQl.out]; exact run_cut_l TBytes w r5 P.length s5 .i64 front.length hPl2
        go_wp2_with fail
        refine (parse_any x17 (cutAt r5 s5 front.length 1) (s5 - front.length) (opEnc A) hQ6 (by omega)).mono ?_
        rintro e wk ⟨ak, ck, rfl, hrk, hlk, hyk, hfk⟩
        rw [← HX.out] at hrk ⊢
        rw [← HE.out]
        unfold OpR.v
        go_upto_region 13 with fail
        have hZk : Blk (wk.alloc (.cells #[.int .i64 X.dot.dev, .int .i64 X.dot.ep, .int .i64 X.dot.seq, .int .i64 X.coll, .int .i64 X.ver, .int .i64 X.kind, .string (str X.key), .string (str X.text), .int .i64 X.n, .int .i64 X.time, .slice ak X.dots.length ck] 26)) wk.heap.size (X.cells ak ck) := Blk.lit wk #[.int .i64 X.dot.dev, .int .i64 X.dot.ep, .int .i64 X.dot.seq, .int .i64 X.coll, .int .i64 X.ver, .int .i64 X.kind, .string (str X.key), .string (str X.text), .int .i64 X.n, .int .i64 X.time, .slice ak X.dots.length ck] 26
        have hqk := hrk.ext (Ext.alloc no wk (.cells #[.int .i64 X.dot.dev, .int .i64 X.dot.ep, .int .i64 X.dot.seq, .int .i64 X.coll, .int .i64 X.ver, .int .i64 X.kind, .string (str X.key), .string (str X.text), .int .i64 X.n, .int .i64 X.time, .slice ak X.dots.length ck] 26)) (fun _ _ h => h)
        have hstk := (hyk.comp (Ext.alloc no wk (.cells #[.int .i64 X.dot.dev, .int .i64 X.dot.ep, .int .i64 X.dot.seq, .int .i64 X.coll, .int .i64 X.ver, .int .i64 X.kind, .string (str X.key), .string (str X.text), .int .i64 X.n, .int .i64 X.time, .slice ak X.dots.length ck] 26)))
        generalize wk.alloc (.cells #[.int .i64 X.dot.dev, .int .i64 X.dot.ep, .int .i64 X.dot.seq, .int .i64 X.coll, .int .i64 X.ver, .int .i64 X.kind, .string (str X.key), .string (str X.text), .int .i64 X.n, .int .i64 X.time, .slice ak X.dots.length ck] 26) = vk at *
        generalize wk.heap.size = gk at *
        have hQ7 := hQ6.ext hstk (fun _ _ h => h)
        go_wp2_with fail
        refine (xparse_any vk (cutAt r5 s5 front.length 1) (s5 - front.length) (opEnc A) hQ7 (by omega) (by unfold maxLen at *; omega)).mono ?_
        rintro e wm ⟨am, cm, rfl, hrm, hlm, hym, hfm⟩
        rw [← HX.out] at hrm ⊢
        rw [← HE.out]
        unfold OpR.v
        go_upto_region 14 with fail
        have hZm : Blk (wm.alloc (.cells #[.int .i64 X.dot.dev, .int .i64 X.dot.ep, .int .i64 X.dot.seq, .int .i64 X.coll, .int .i64 X.ver, .int .i64 X.kind, .string (str X.key), .string (str X.text), .int .i64 X.n, .int .i64 X.time, .slice am X.dots.length cm] 26)) wm.heap.size (X.cells am cm) := Blk.lit wm #[.int .i64 X.dot.dev, .int .i64 X.dot.ep, .int .i64 X.dot.seq, .int .i64 X.coll, .int .i64 X.ver, .int .i64 X.kind, .string (str X.key), .string (str X.text), .int .i64 X.n, .int .i64 X.time, .slice am X.dots.length cm] 26
        have hqm := hrm.ext (Ext.alloc no wm (.cells #[.int .i64 X.dot.dev, .int .i64 X.dot.ep, .int .i64 X.dot.seq, .int .i64 X.coll, .int .i64 X.ver, .int .i64 X.kind, .string (str X.key), .string (str X.text), .int .i64 X.n, .int .i64 X.time, .slice am X.dots.length cm] 26)) (fun _ _ h => h)
        have hstm := (hym.comp (Ext.alloc no wm (.cells #[.int .i64 X.dot.dev, .int .i64 X.dot.ep, .int .i64 X.dot.seq, .int .i64 X.coll, .int .i64 X.ver, .int .i64 X.kind, .string (str X.key), .string (str X.text), .int .i64 X.n, .int .i64 X.time, .slice am X.dots.length cm] 26)))
        generalize wm.alloc (.cells #[.int .i64 X.dot.dev, .int .i64 X.dot.ep, .int .i64 X.dot.seq, .int .i64 X.coll, .int .i64 X.ver, .int .i64 X.kind, .string (str X.key), .string (str X.text), .int .i64 X.n, .int .i64 X.time, .slice am X.dots.length cm] 26) = vm at *
        generalize wm.heap.size = gm at *
        have hZ7 := hZk.ext (by simp [OpR.cells]) hstm (fun h => h)
        have hq7 := hqk.ext hstm (fun _ _ h => h)
        have hst := hstk.comp hstm
        have hxw7 := hxw6.comp hst
        have hA7 := hA6.ext (by simp [OpR.cells]) hst (fun h => h)
        have hB7 := hB6.ext (by simp [OpR.cells]) hst (fun h => h)
        have hrA7 := hrA6.ext hst (fun _ _ h => h)
        have hrB7 := hrB6.ext hst (fun _ _ h => h)
        have hX8 : X.dots.length ≤ 8 := by rw [HX.out]; exact pOp_len _
        have xk0 := hZ7.cell 0 _ rfl
        have xk1 := hZ7.cell 1 _ rfl
        have xk2 := hZ7.cell 2 _ rfl
        have xk3 := hZ7.cell 3 _ rfl
        have xk4 := hZ7.cell 4 _ rfl
        have xk5 := hZ7.cell 5 _ rfl
        have xk6 := hZ7.cell 6 _ rfl
        have xk7 := hZ7.cell 7 _ rfl
        have xk8 := hZ7.cell 8 _ rfl
        have xk9 := hZ7.cell 9 _ rfl
        have xk10 := hZ7.cell 10 _ rfl
        have xm0 := hZm.cell 0 _ rfl
        have xm1 := hZm.cell 1 _ rfl
        have xm2 := hZm.cell 2 _ rfl
        have xm3 := hZm.cell 3 _ rfl
        have xm4 := hZm.cell 4 _ rfl
        have xm5 := hZm.cell 5 _ rfl
        have xm6 := hZm.cell 6 _ rfl
        have xm7 := hZm.cell 7 _ rfl
        have xm8 := hZm.cell 8 _ rfl
        have xm9 := hZm.cell 9 _ rfl
        have xm10 := hZm.cell 10 _ rfl
        go_wp2_with fail
        refine (refsame_any vm X X ak am ck cm hq7 hqm (by omega) (by omega)).mono ?_
        rintro e vn ⟨zz, rfl, hzz, hhn⟩
        have hz1 : zz = true := hzz.2 rfl
        subst hz1
        clear hzz
        have hxw8 := hxw7.comp hhn
        have hA8 := hA7.ext (by simp [OpR.cells]) hhn (fun h => h)
        have hB8 := hB7.ext (by simp [OpR.cells]) hhn (fun h => h)
        have hrA8 := hrA7.ext hhn (fun _ _ h => h)
        have hrB8 := hrB7.ext hhn (fun _ _ h => h)
        have hZ8 := hZ7.ext (by simp [OpR.cells]) hhn (fun h => h)
        have hq8 := hq7.ext hhn (fun _ _ h => h)
        clear xk0 xm0 xk1 xm1 xk2 xm2 xk3 xm3 xk4 xm4 xk5 xm5 xk6 xm6 xk7 xm7 xk8 xm8 xk9 xm9 xk10 xm10
        rcases (show k = 0 ∨ k = 1 by omega) with rfl | rfl
        · go_upto_region 16 with fail
          have j0 := hA8.cell 0 _ rfl
          have j1 := hA8.cell 1 _ rfl
          have j2 := hA8.cell 2 _ rfl
          have j3 := hA8.cell 3 _ rfl
          have j4 := hA8.cell 4 _ rfl
          have j5 := hA8.cell 5 _ rfl
          have j6 := hA8.cell 6 _ rfl
          have j7 := hA8.cell 7 _ rfl
          have j8 := hA8.cell 8 _ rfl
          have j9 := hA8.cell 9 _ rfl
          have j10 := hA8.cell 10 _ rfl
          go_wp2_with fail
          refine (good_any vn A a1 c1 hokA hrA8 hlA hcA).mono ?_
          rintro e vg ⟨aG, cG, rfl, hrG, hlG, hcG, hyG, hfG⟩
          have hAg := hA8.ext (by simp [OpR.cells]) hyG (fun h => h)
          have hBg := hB8.ext (by simp [OpR.cells]) hyG (fun h => h)
          have hrBg := hrB8.ext hyG (fun _ _ h => h)
          have hxwg := hxw8.comp hyG
          have hGok := goodOp_ok A hokA
          have hGck := goodOp_check A
          have hGlen := goodOp_len A
          have hGk : (goodOp A).key.length ≤ 1 := Nat.le_of_eq (goodKey_ok A.key).2.2
          have hGt : (goodOp A).text.length ≤ 2 := (goodText_ok A.text).2
          obtain ⟨G, hG⟩ : ∃ G, G = goodOp A := ⟨_, rfl⟩
          rw [← hG] at hrG hlG hGok hGck hGlen hGk hGt ⊢
          clear hG
          unfold OpR.v
          have hnG : ds G.dots ≠ [] → ∀ ad, aG = some ad → ad.block ≠ ga ∧ ad.block ≠ ga + 1 := fun _ ad h => by have := hfG ad h; have := hB8.lt (by simp [OpR.cells]); omega
          clear hfG j0 j1 j2 j3 j4 j5 j6 j7 j8 j9 j10
          have f0 := hAg.fr 0
          have f1 := hAg.fr 1
          have f2 := hAg.fr 2
          have f3 := hAg.fr 3
          have f4 := hAg.fr 4
          have f5 := hAg.fr 5
          have f6 := hAg.fr 6
          have f7 := hAg.fr 7
          have f8 := hAg.fr 8
          have f9 := hAg.fr 9
          have f10 := hAg.fr 10
          have j0 := hAg.cell 0 _ rfl
          have j1 := hAg.cell 1 _ rfl
          have j2 := hAg.cell 2 _ rfl
          have j3 := hAg.cell 3 _ rfl
          have j4 := hAg.cell 4 _ rfl
          have j5 := hAg.cell 5 _ rfl
          have j6 := hAg.cell 6 _ rfl
          have j7 := hAg.cell 7 _ rfl
          have j8 := hAg.cell 8 _ rfl
          have j9 := hAg.cell 9 _ rfl
          have j10 := hAg.cell 10 _ rfl
          go_upto_region 17 with fail
          have hst : Ext (just ga) vg (((((((((((vg.setCell ⟨ga, 0, none⟩ (.int .i64 G.dot.dev)).setCell ⟨ga, 1, none⟩ (.int .i64 G.dot.ep)).setCell ⟨ga, 2, none⟩ (.int .i64 G.dot.seq)).setCell ⟨ga, 3, none⟩ (.int .i64 G.coll)).setCell ⟨ga, 4, none⟩ (.int .i64 G.ver)).setCell ⟨ga, 5, none⟩ (.int .i64 G.kind)).setCell ⟨ga, 6, none⟩ (.string (str G.key))).setCell ⟨ga, 7, none⟩ (.string (str G.text))).setCell ⟨ga, 8, none⟩ (.int .i64 G.n)).setCell ⟨ga, 9, none⟩ (.int .i64 G.time)).setCell ⟨ga, 10, none⟩ (.slice aG G.dots.length cG)) := ((((((((((((Ext.refl (just ga) vg).comp (Ext.setCell _ ⟨ga, 0, none⟩ (.int .i64 G.dot.dev) rfl)).comp (Ext.setCell _ ⟨ga, 1, none⟩ (.int .i64 G.dot.ep) rfl)).comp (Ext.setCell _ ⟨ga, 2, none⟩ (.int .i64 G.dot.seq) rfl)).comp (Ext.setCell _ ⟨ga, 3, none⟩ (.int .i64 G.coll) rfl)).comp (Ext.setCell _ ⟨ga, 4, none⟩ (.int .i64 G.ver) rfl)).comp (Ext.setCell _ ⟨ga, 5, none⟩ (.int .i64 G.kind) rfl)).comp (Ext.setCell _ ⟨ga, 6, none⟩ (.string (str G.key)) rfl)).comp (Ext.setCell _ ⟨ga, 7, none⟩ (.string (str G.text)) rfl)).comp (Ext.setCell _ ⟨ga, 8, none⟩ (.int .i64 G.n) rfl)).comp (Ext.setCell _ ⟨ga, 9, none⟩ (.int .i64 G.time) rfl)).comp (Ext.setCell _ ⟨ga, 10, none⟩ (.slice aG G.dots.length cG) rfl))
          have hAs : Blk (((((((((((vg.setCell ⟨ga, 0, none⟩ (.int .i64 G.dot.dev)).setCell ⟨ga, 1, none⟩ (.int .i64 G.dot.ep)).setCell ⟨ga, 2, none⟩ (.int .i64 G.dot.seq)).setCell ⟨ga, 3, none⟩ (.int .i64 G.coll)).setCell ⟨ga, 4, none⟩ (.int .i64 G.ver)).setCell ⟨ga, 5, none⟩ (.int .i64 G.kind)).setCell ⟨ga, 6, none⟩ (.string (str G.key))).setCell ⟨ga, 7, none⟩ (.string (str G.text))).setCell ⟨ga, 8, none⟩ (.int .i64 G.n)).setCell ⟨ga, 9, none⟩ (.int .i64 G.time)).setCell ⟨ga, 10, none⟩ (.slice aG G.dots.length cG)) ga (G.cells aG cG) := (((((((((((hAg.set 0 (.int .i64 G.dot.dev) (by simp [OpR.cells])).set 1 (.int .i64 G.dot.ep) (by simp [OpR.cells])).set 2 (.int .i64 G.dot.seq) (by simp [OpR.cells])).set 3 (.int .i64 G.coll) (by simp [OpR.cells])).set 4 (.int .i64 G.ver) (by simp [OpR.cells])).set 5 (.int .i64 G.kind) (by simp [OpR.cells])).set 6 (.string (str G.key)) (by simp [OpR.cells])).set 7 (.string (str G.text)) (by simp [OpR.cells])).set 8 (.int .i64 G.n) (by simp [OpR.cells])).set 9 (.int .i64 G.time) (by simp [OpR.cells])).set 10 (.slice aG G.dots.length cG) (by simp [OpR.cells]))
          have hxws : Ext no w (((((((((((vg.setCell ⟨ga, 0, none⟩ (.int .i64 G.dot.dev)).setCell ⟨ga, 1, none⟩ (.int .i64 G.dot.ep)).setCell ⟨ga, 2, none⟩ (.int .i64 G.dot.seq)).setCell ⟨ga, 3, none⟩ (.int .i64 G.coll)).setCell ⟨ga, 4, none⟩ (.int .i64 G.ver)).setCell ⟨ga, 5, none⟩ (.int .i64 G.kind)).setCell ⟨ga, 6, none⟩ (.string (str G.key))).setCell ⟨ga, 7, none⟩ (.string (str G.text))).setCell ⟨ga, 8, none⟩ (.int .i64 G.n)).setCell ⟨ga, 9, none⟩ (.int .i64 G.time)).setCell ⟨ga, 10, none⟩ (.slice aG G.dots.length cG)) := (((((((((((hxwg.set1 (by omega) 0 (.int .i64 G.dot.dev)).set1 (by omega) 1 (.int .i64 G.dot.ep)).set1 (by omega) 2 (.int .i64 G.dot.seq)).set1 (by omega) 3 (.int .i64 G.coll)).set1 (by omega) 4 (.int .i64 G.ver)).set1 (by omega) 5 (.int .i64 G.kind)).set1 (by omega) 6 (.string (str G.key))).set1 (by omega) 7 (.string (str G.text))).set1 (by omega) 8 (.int .i64 G.n)).set1 (by omega) 9 (.int .i64 G.time)).set1 (by omega) 10 (.slice aG G.dots.length cG))
          have hBs := hBg.ext (by simp [OpR.cells]) hst (fun h => by simp only [Esc.just] at h; omega)
          have hrBs := rd_not2 hrBg (fun hn ad h => (hnB hn ad h).1) hst
          have hrGs := rd_not2 hrG (fun hn ad h => (hnG hn ad h).1) hst
          generalize (((((((((((vg.setCell ⟨ga, 0, none⟩ (.int .i64 G.dot.dev)).setCell ⟨ga, 1, none⟩ (.int .i64 G.dot.ep)).setCell ⟨ga, 2, none⟩ (.int .i64 G.dot.seq)).setCell ⟨ga, 3, none⟩ (.int .i64 G.coll)).setCell ⟨ga, 4, none⟩ (.int .i64 G.ver)).setCell ⟨ga, 5, none⟩ (.int .i64 G.kind)).setCell ⟨ga, 6, none⟩ (.string (str G.key))).setCell ⟨ga, 7, none⟩ (.string (str G.text))).setCell ⟨ga, 8, none⟩ (.int .i64 G.n)).setCell ⟨ga, 9, none⟩ (.int .i64 G.time)).setCell ⟨ga, 10, none⟩ (.slice aG G.dots.length cG)) = vs at *
          clear hst hAg hBg hrG hrBg hxwg f0 j0 f1 j1 f2 j2 f3 j3 f4 j4 f5 j5 f6 j6 f7 j7 f8 j8 f9 j9 f10 j10
          have j6 := hBs.cell 6 _ rfl
          cases e2 : (((str B.key).size : Int) % 2 == 0) with
          | true =>
            clear j6
            have j0 := hAs.cell 0 _ rfl
            have j1 := hAs.cell 1 _ rfl
            have j2 := hAs.cell 2 _ rfl
            have j3 := hAs.cell 3 _ rfl
            have j4 := hAs.cell 4 _ rfl
            have j5 := hAs.cell 5 _ rfl
            have j6 := hAs.cell 6 _ rfl
            have j7 := hAs.cell 7 _ rfl
            have j8 := hAs.cell 8 _ rfl
            have j9 := hAs.cell 9 _ rfl
            have j10 := hAs.cell 10 _ rfl
            have y0 := hBs.cell 0 _ rfl
            have y1 := hBs.cell 1 _ rfl
            have y2 := hBs.cell 2 _ rfl
            have y3 := hBs.cell 3 _ rfl
            have y4 := hBs.cell 4 _ rfl
            have y5 := hBs.cell 5 _ rfl
            have y6 := hBs.cell 6 _ rfl
            have y7 := hBs.cell 7 _ rfl
            have y8 := hBs.cell 8 _ rfl
            have y9 := hBs.cell 9 _ rfl
            have y10 := hBs.cell 10 _ rfl
            have f0 := hBs.fr 0
            have f1 := hBs.fr 1
            have f2 := hBs.fr 2
            have f3 := hBs.fr 3
            have f4 := hBs.fr 4
            have f5 := hBs.fr 5
            have f6 := hBs.fr 6
            have f7 := hBs.fr 7
            have f8 := hBs.fr 8
            have f9 := hBs.fr 9
            have f10 := hBs.fr 10
            go_wp2_with fail
            have hst : Ext (just (ga + 1)) vs (((((((((((vs.setCell ⟨ga + 1, 0, none⟩ (.int .i64 G.dot.dev)).setCell ⟨ga + 1, 1, none⟩ (.int .i64 G.dot.ep)).setCell ⟨ga + 1, 2, none⟩ (.int .i64 G.dot.seq)).setCell ⟨ga + 1, 3, none⟩ (.int .i64 G.coll)).setCell ⟨ga + 1, 4, none⟩ (.int .i64 G.ver)).setCell ⟨ga + 1, 5, none⟩ (.int .i64 G.kind)).setCell ⟨ga + 1, 6, none⟩ (.string (str G.key))).setCell ⟨ga + 1, 7, none⟩ (.string (str G.text))).setCell ⟨ga + 1, 8, none⟩ (.int .i64 G.n)).setCell ⟨ga + 1, 9, none⟩ (.int .i64 G.time)).setCell ⟨ga + 1, 10, none⟩ (.slice aG G.dots.length cG)) := ((((((((((((Ext.refl (just (ga + 1)) vs).comp (Ext.setCell _ ⟨ga + 1, 0, none⟩ (.int .i64 G.dot.dev) rfl)).comp (Ext.setCell _ ⟨ga + 1, 1, none⟩ (.int .i64 G.dot.ep) rfl)).comp (Ext.setCell _ ⟨ga + 1, 2, none⟩ (.int .i64 G.dot.seq) rfl)).comp (Ext.setCell _ ⟨ga + 1, 3, none⟩ (.int .i64 G.coll) rfl)).comp (Ext.setCell _ ⟨ga + 1, 4, none⟩ (.int .i64 G.ver) rfl)).comp (Ext.setCell _ ⟨ga + 1, 5, none⟩ (.int .i64 G.kind) rfl)).comp (Ext.setCell _ ⟨ga + 1, 6, none⟩ (.string (str G.key)) rfl)).comp (Ext.setCell _ ⟨ga + 1, 7, none⟩ (.string (str G.text)) rfl)).comp (Ext.setCell _ ⟨ga + 1, 8, none⟩ (.int .i64 G.n) rfl)).comp (Ext.setCell _ ⟨ga + 1, 9, none⟩ (.int .i64 G.time) rfl)).comp (Ext.setCell _ ⟨ga + 1, 10, none⟩ (.slice aG G.dots.length cG) rfl))
            have hBz : Blk (((((((((((vs.setCell ⟨ga + 1, 0, none⟩ (.int .i64 G.dot.dev)).setCell ⟨ga + 1, 1, none⟩ (.int .i64 G.dot.ep)).setCell ⟨ga + 1, 2, none⟩ (.int .i64 G.dot.seq)).setCell ⟨ga + 1, 3, none⟩ (.int .i64 G.coll)).setCell ⟨ga + 1, 4, none⟩ (.int .i64 G.ver)).setCell ⟨ga + 1, 5, none⟩ (.int .i64 G.kind)).setCell ⟨ga + 1, 6, none⟩ (.string (str G.key))).setCell ⟨ga + 1, 7, none⟩ (.string (str G.text))).setCell ⟨ga + 1, 8, none⟩ (.int .i64 G.n)).setCell ⟨ga + 1, 9, none⟩ (.int .i64 G.time)).setCell ⟨ga + 1, 10, none⟩ (.slice aG G.dots.length cG)) (ga + 1) (G.cells aG cG) := (((((((((((hBs.set 0 (.int .i64 G.dot.dev) (by simp [OpR.cells])).set 1 (.int .i64 G.dot.ep) (by simp [OpR.cells])).set 2 (.int .i64 G.dot.seq) (by simp [OpR.cells])).set 3 (.int .i64 G.coll) (by simp [OpR.cells])).set 4 (.int .i64 G.ver) (by simp [OpR.cells])).set 5 (.int .i64 G.kind) (by simp [OpR.cells])).set 6 (.string (str G.key)) (by simp [OpR.cells])).set 7 (.string (str G.text)) (by simp [OpR.cells])).set 8 (.int .i64 G.n) (by simp [OpR.cells])).set 9 (.int .i64 G.time) (by simp [OpR.cells])).set 10 (.slice aG G.dots.length cG) (by simp [OpR.cells]))
            have hxwz : Ext no w (((((((((((vs.setCell ⟨ga + 1, 0, none⟩ (.int .i64 G.dot.dev)).setCell ⟨ga + 1, 1, none⟩ (.int .i64 G.dot.ep)).setCell ⟨ga + 1, 2, none⟩ (.int .i64 G.dot.seq)).setCell ⟨ga + 1, 3, none⟩ (.int .i64 G.coll)).setCell ⟨ga + 1, 4, none⟩ (.int .i64 G.ver)).setCell ⟨ga + 1, 5, none⟩ (.int .i64 G.kind)).setCell ⟨ga + 1, 6, none⟩ (.string (str G.key))).setCell ⟨ga + 1, 7, none⟩ (.string (str G.text))).setCell ⟨ga + 1, 8, none⟩ (.int .i64 G.n)).setCell ⟨ga + 1, 9, none⟩ (.int .i64 G.time)).setCell ⟨ga + 1, 10, none⟩ (.slice aG G.dots.length cG)) := (((((((((((hxws.set1 (by omega) 0 (.int .i64 G.dot.dev)).set1 (by omega) 1 (.int .i64 G.dot.ep)).set1 (by omega) 2 (.int .i64 G.dot.seq)).set1 (by omega) 3 (.int .i64 G.coll)).set1 (by omega) 4 (.int .i64 G.ver)).set1 (by omega) 5 (.int .i64 G.kind)).set1 (by omega) 6 (.string (str G.key))).set1 (by omega) 7 (.string (str G.text))).set1 (by omega) 8 (.int .i64 G.n)).set1 (by omega) 9 (.int .i64 G.time)).set1 (by omega) 10 (.slice aG G.dots.length cG))
            have hAz := hAs.ext (by simp [OpR.cells]) hst (fun h => by simp only [Esc.just] at h; omega)
            have hrGz := rd_not2 hrGs (fun hn ad h => (hnG hn ad h).2) hst
            generalize (((((((((((vs.setCell ⟨ga + 1, 0, none⟩ (.int .i64 G.dot.dev)).setCell ⟨ga + 1, 1, none⟩ (.int .i64 G.dot.ep)).setCell ⟨ga + 1, 2, none⟩ (.int .i64 G.dot.seq)).setCell ⟨ga + 1, 3, none⟩ (.int .i64 G.coll)).setCell ⟨ga + 1, 4, none⟩ (.int .i64 G.ver)).setCell ⟨ga + 1, 5, none⟩ (.int .i64 G.kind)).setCell ⟨ga + 1, 6, none⟩ (.string (str G.key))).setCell ⟨ga + 1, 7, none⟩ (.string (str G.text))).setCell ⟨ga + 1, 8, none⟩ (.int .i64 G.n)).setCell ⟨ga + 1, 9, none⟩ (.int .i64 G.time)).setCell ⟨ga + 1, 10, none⟩ (.slice aG G.dots.length cG)) = vz at *
            go_roundw
            case rel => exact ⟨1, G, G, aG, aG, cG, cG, by omega, rfl, hGok, hGok, ⟨by omega, by omega, by omega⟩, ⟨by omega, by omega, by omega⟩, fun _ => ⟨hGck, hGlen⟩, hAz, hBz, hrGz, hrGz, hnG, hnG, hlG, hcG, hxwz⟩
            case measure => simp [intOf]
          | false =>
            go_wp2_with fail
            go_roundw
            case rel => exact ⟨1, G, B, aG, b1, cG, d1, by omega, rfl, hGok, hokB, ⟨by omega, by omega, by omega⟩, hFB, fun _ => ⟨hGck, hGlen⟩, hAs, hBs, hrGs, hrBs, hnG, hnB, hlG, hcG, hxws⟩
            case measure => simp [intOf]
        · have hg := hgood (by omega)
          have hPE := pOp_enc A hokA (by omega) (by omega) hg.2 hg.1
          have hXA : X = A := by rw [HX.out, hPE]
          have hE0 : E = 0 := by rw [HE.out, hPE]
          clear hPE
          subst hXA
          subst hE0
          have xk0 := hZ8.cell 0 _ rfl
          have xk1 := hZ8.cell 1 _ rfl
          have xk2 := hZ8.cell 2 _ rfl
          have xk3 := hZ8.cell 3 _ rfl
          have xk4 := hZ8.cell 4 _ rfl
          have xk5 := hZ8.cell 5 _ rfl
          have xk6 := hZ8.cell 6 _ rfl
          have xk7 := hZ8.cell 7 _ rfl
          have xk8 := hZ8.cell 8 _ rfl
          have xk9 := hZ8.cell 9 _ rfl
          have xk10 := hZ8.cell 10 _ rfl
          have xm0 := hA8.cell 0 _ rfl
          have xm1 := hA8.cell 1 _ rfl
          have xm2 := hA8.cell 2 _ rfl
          have xm3 := hA8.cell 3 _ rfl
          have xm4 := hA8.cell 4 _ rfl
          have xm5 := hA8.cell 5 _ rfl
          have xm6 := hA8.cell 6 _ rfl
          have xm7 := hA8.cell 7 _ rfl
          have xm8 := hA8.cell 8 _ rfl
          have xm9 := hA8.cell 9 _ rfl
          have xm10 := hA8.cell 10 _ rfl
          go_wp2_with fail
          refine (refsame_any vn X X ak a1 ck c1 hq8 hrA8 (by omega) (by omega)).mono ?_
          rintro e vo ⟨zy, rfl, hzy, hho⟩
          have hz2 : zy = true := hzy.2 rfl
          subst hz2
          go_upto_region 16 with fail
          have hA9' := hA8.ext (by simp [OpR.cells]) hho (fun h => h)
          have hB9' := hB8.ext (by simp [OpR.cells]) hho (fun h => h)
          have hrA9' := hrA8.ext hho (fun _ _ h => h)
          have hrB9' := hrB8.ext hho (fun _ _ h => h)
          have hxw9' := hxw8.comp hho
          clear xk0 xm0 xk1 xm1 xk2 xm2 xk3 xm3 xk4 xm4 xk5 xm5 xk6 xm6 xk7 xm7 xk8 xm8 xk9 xm9 xk10 xm10
          have j0 := hA9'.cell 0 _ rfl
          have j1 := hA9'.cell 1 _ rfl
          have j2 := hA9'.cell 2 _ rfl
          have j3 := hA9'.cell 3 _ rfl
          have j4 := hA9'.cell 4 _ rfl
          have j5 := hA9'.cell 5 _ rfl
          have j6 := hA9'.cell 6 _ rfl
          have j7 := hA9'.cell 7 _ rfl
          have j8 := hA9'.cell 8 _ rfl
          have j9 := hA9'.cell 9 _ rfl
          have j10 := hA9'.cell 10 _ rfl
          go_wp2_with fail
          refine (good_any vo X a1 c1 hokA hrA9' hlA hcA).mono ?_
          rintro e vg ⟨aG, cG, rfl, hrG, hlG, hcG, hyG, hfG⟩
          have hAg := hA9'.ext (by simp [OpR.cells]) hyG (fun h => h)
          have hBg := hB9'.ext (by simp [OpR.cells]) hyG (fun h => h)
          have hrBg := hrB9'.ext hyG (fun _ _ h => h)
          have hxwg := hxw9'.comp hyG
          have hGok := goodOp_ok X hokA
          have hGck := goodOp_check X
          have hGlen := goodOp_len X
          have hGk : (goodOp X).key.length ≤ 1 := Nat.le_of_eq (goodKey_ok X.key).2.2
          have hGt : (goodOp X).text.length ≤ 2 := (goodText_ok X.text).2
          obtain ⟨G, hG⟩ : ∃ G, G = goodOp X := ⟨_, rfl⟩
          rw [← hG] at hrG hlG hGok hGck hGlen hGk hGt ⊢
          clear hG
          unfold OpR.v
          have hnG : ds G.dots ≠ [] → ∀ ad, aG = some ad → ad.block ≠ ga ∧ ad.block ≠ ga + 1 := fun _ ad h => by have := hfG ad h; have := hB9'.lt (by simp [OpR.cells]); omega
          clear hfG j0 j1 j2 j3 j4 j5 j6 j7 j8 j9 j10
          have f0 := hAg.fr 0
          have f1 := hAg.fr 1
          have f2 := hAg.fr 2
          have f3 := hAg.fr 3
          have f4 := hAg.fr 4
          have f5 := hAg.fr 5
          have f6 := hAg.fr 6
          have f7 := hAg.fr 7
          have f8 := hAg.fr 8
          have f9 := hAg.fr 9
          have f10 := hAg.fr 10
          have j0 := hAg.cell 0 _ rfl
          have j1 := hAg.cell 1 _ rfl
          have j2 := hAg.cell 2 _ rfl
          have j3 := hAg.cell 3 _ rfl
          have j4 := hAg.cell 4 _ rfl
          have j5 := hAg.cell 5 _ rfl
          have j6 := hAg.cell 6 _ rfl
          have j7 := hAg.cell 7 _ rfl
          have j8 := hAg.cell 8 _ rfl
          have j9 := hAg.cell 9 _ rfl
          have j10 := hAg.cell 10 _ rfl
          go_upto_region 17 with fail
          have hst : Ext (just ga) vg (((((((((((vg.setCell ⟨ga, 0, none⟩ (.int .i64 G.dot.dev)).setCell ⟨ga, 1, none⟩ (.int .i64 G.dot.ep)).setCell ⟨ga, 2, none⟩ (.int .i64 G.dot.seq)).setCell ⟨ga, 3, none⟩ (.int .i64 G.coll)).setCell ⟨ga, 4, none⟩ (.int .i64 G.ver)).setCell ⟨ga, 5, none⟩ (.int .i64 G.kind)).setCell ⟨ga, 6, none⟩ (.string (str G.key))).setCell ⟨ga, 7, none⟩ (.string (str G.text))).setCell ⟨ga, 8, none⟩ (.int .i64 G.n)).setCell ⟨ga, 9, none⟩ (.int .i64 G.time)).setCell ⟨ga, 10, none⟩ (.slice aG G.dots.length cG)) := ((((((((((((Ext.refl (just ga) vg).comp (Ext.setCell _ ⟨ga, 0, none⟩ (.int .i64 G.dot.dev) rfl)).comp (Ext.setCell _ ⟨ga, 1, none⟩ (.int .i64 G.dot.ep) rfl)).comp (Ext.setCell _ ⟨ga, 2, none⟩ (.int .i64 G.dot.seq) rfl)).comp (Ext.setCell _ ⟨ga, 3, none⟩ (.int .i64 G.coll) rfl)).comp (Ext.setCell _ ⟨ga, 4, none⟩ (.int .i64 G.ver) rfl)).comp (Ext.setCell _ ⟨ga, 5, none⟩ (.int .i64 G.kind) rfl)).comp (Ext.setCell _ ⟨ga, 6, none⟩ (.string (str G.key)) rfl)).comp (Ext.setCell _ ⟨ga, 7, none⟩ (.string (str G.text)) rfl)).comp (Ext.setCell _ ⟨ga, 8, none⟩ (.int .i64 G.n) rfl)).comp (Ext.setCell _ ⟨ga, 9, none⟩ (.int .i64 G.time) rfl)).comp (Ext.setCell _ ⟨ga, 10, none⟩ (.slice aG G.dots.length cG) rfl))
          have hAs : Blk (((((((((((vg.setCell ⟨ga, 0, none⟩ (.int .i64 G.dot.dev)).setCell ⟨ga, 1, none⟩ (.int .i64 G.dot.ep)).setCell ⟨ga, 2, none⟩ (.int .i64 G.dot.seq)).setCell ⟨ga, 3, none⟩ (.int .i64 G.coll)).setCell ⟨ga, 4, none⟩ (.int .i64 G.ver)).setCell ⟨ga, 5, none⟩ (.int .i64 G.kind)).setCell ⟨ga, 6, none⟩ (.string (str G.key))).setCell ⟨ga, 7, none⟩ (.string (str G.text))).setCell ⟨ga, 8, none⟩ (.int .i64 G.n)).setCell ⟨ga, 9, none⟩ (.int .i64 G.time)).setCell ⟨ga, 10, none⟩ (.slice aG G.dots.length cG)) ga (G.cells aG cG) := (((((((((((hAg.set 0 (.int .i64 G.dot.dev) (by simp [OpR.cells])).set 1 (.int .i64 G.dot.ep) (by simp [OpR.cells])).set 2 (.int .i64 G.dot.seq) (by simp [OpR.cells])).set 3 (.int .i64 G.coll) (by simp [OpR.cells])).set 4 (.int .i64 G.ver) (by simp [OpR.cells])).set 5 (.int .i64 G.kind) (by simp [OpR.cells])).set 6 (.string (str G.key)) (by simp [OpR.cells])).set 7 (.string (str G.text)) (by simp [OpR.cells])).set 8 (.int .i64 G.n) (by simp [OpR.cells])).set 9 (.int .i64 G.time) (by simp [OpR.cells])).set 10 (.slice aG G.dots.length cG) (by simp [OpR.cells]))
          have hxws : Ext no w (((((((((((vg.setCell ⟨ga, 0, none⟩ (.int .i64 G.dot.dev)).setCell ⟨ga, 1, none⟩ (.int .i64 G.dot.ep)).setCell ⟨ga, 2, none⟩ (.int .i64 G.dot.seq)).setCell ⟨ga, 3, none⟩ (.int .i64 G.coll)).setCell ⟨ga, 4, none⟩ (.int .i64 G.ver)).setCell ⟨ga, 5, none⟩ (.int .i64 G.kind)).setCell ⟨ga, 6, none⟩ (.string (str G.key))).setCell ⟨ga, 7, none⟩ (.string (str G.text))).setCell ⟨ga, 8, none⟩ (.int .i64 G.n)).setCell ⟨ga, 9, none⟩ (.int .i64 G.time)).setCell ⟨ga, 10, none⟩ (.slice aG G.dots.length cG)) := (((((((((((hxwg.set1 (by omega) 0 (.int .i64 G.dot.dev)).set1 (by omega) 1 (.int .i64 G.dot.ep)).set1 (by omega) 2 (.int .i64 G.dot.seq)).set1 (by omega) 3 (.int .i64 G.coll)).set1 (by omega) 4 (.int .i64 G.ver)).set1 (by omega) 5 (.int .i64 G.kind)).set1 (by omega) 6 (.string (str G.key))).set1 (by omega) 7 (.string (str G.text))).set1 (by omega) 8 (.int .i64 G.n)).set1 (by omega) 9 (.int .i64 G.time)).set1 (by omega) 10 (.slice aG G.dots.length cG))
          have hBs := hBg.ext (by simp [OpR.cells]) hst (fun h => by simp only [Esc.just] at h; omega)
          have hrBs := rd_not2 hrBg (fun hn ad h => (hnB hn ad h).1) hst
          have hrGs := rd_not2 hrG (fun hn ad h => (hnG hn ad h).1) hst
          generalize (((((((((((vg.setCell ⟨ga, 0, none⟩ (.int .i64 G.dot.dev)).setCell ⟨ga, 1, none⟩ (.int .i64 G.dot.ep)).setCell ⟨ga, 2, none⟩ (.int .i64 G.dot.seq)).setCell ⟨ga, 3, none⟩ (.int .i64 G.coll)).setCell ⟨ga, 4, none⟩ (.int .i64 G.ver)).setCell ⟨ga, 5, none⟩ (.int .i64 G.kind)).setCell ⟨ga, 6, none⟩ (.string (str G.key))).setCell ⟨ga, 7, none⟩ (.string (str G.text))).setCell ⟨ga, 8, none⟩ (.int .i64 G.n)).setCell ⟨ga, 9, none⟩ (.int .i64 G.time)).setCell ⟨ga, 10, none⟩ (.slice aG G.dots.length cG)) = vs at *
          clear hst hAg hBg hrG hrBg hxwg f0 j0 f1 j1 f2 j2 f3 j3 f4 j4 f5 j5 f6 j6 f7 j7 f8 j8 f9 j9 f10 j10
          go_wp2_with fail
          go_roundw
          case rel => exact ⟨2, G, B, aG, b1, cG, d1, by omega, rfl, hGok, hokB, ⟨by omega, by omega, by omega⟩, hFB, fun _ => ⟨hGck, hGlen⟩, hAs, hBs, hrGs, hrBs, hnG, hnB, hlG, hcG, hxws⟩
          case measure => simp [intOf]
        -->A
end Go.Proofs.Ytfelipkbbefhhaa
