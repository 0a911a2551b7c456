/- The walk of the law OpsCheck. -/
import Derived.Test.YtfelipkbbefhhaaOpG
import Derived.Test.YtfelipkbbefhhaaOpO
namespace Go.Proofs.Ytfelipkbbefhhaa
open Go.RowKit Go.Esc
set_option linter.unusedVariables false
set_option linter.unusedSimpArgs false

theorem rd_low {w : World} {a : Option Addr} {cs : List Value} (h : Rd w a cs) (hn : cs ≠ []) (ad : Addr) (ha : a = some ad) : ad.block < w.heap.size := by
  obtain ⟨ad2, h2, h3⟩ := h.ne (List.length_pos_iff.2 hn)
  rw [ha] at h2
  cases h2
  exact h3
theorem rd_aside {w : World} {a : Option Addr} {cs : List Value} {g : Nat} (h : Rd w a cs) (hlow : cs ≠ [] → ∀ ad, a = some ad → ad.block < g) (k : Nat) (v : Value) : Rd (w.setCell ⟨g, k, none⟩ v) a cs := by
  by_cases hn : cs = []
  · subst hn; exact Rd.nil _ _
  · exact h.ext (Ext.setCell w ⟨g, k, none⟩ v (S := just g) rfl) (fun ad ha e => by have := hlow hn ad ha; simp only [Esc.just] at e; omega)

set_option maxRecDepth 100000 in
set_option maxHeartbeats 16000000 in
theorem check_walk (w : World) (o : OpR) (a : Option Addr) (c : Nat) (which n : Int) (s : List UInt8) (hok : o.ok) (hrw : Rd w a (ds o.dots)) (hl : o.dots.length ≤ c) (hc : c ≤ maxLen) (hwh : I64ok which) (hn : I64ok n) (hs : s.length ≤ maxLen) :
    Calls Try.prog 3 #[o.v a c, .int .i64 which, .int .i64 n, .string (str s)] w fun e w' => e = .returned (.bool true) ∧ Ext no w w' := by
  go_enter Try.func3, Try.ntmps3
  unfold OpR.v
  go_upto_region 1 with fail
  have hb0 : Blk (w.alloc (.cells #[.int .i64 o.dot.dev, .int .i64 o.dot.ep, .int .i64 o.dot.seq, .int .i64 o.coll, .int .i64 o.ver, .int .i64 o.kind, .string (str o.key), .string (str o.text), .int .i64 o.n, .int .i64 o.time, .slice a o.dots.length c] 26)) w.heap.size (o.cells a c) := Blk.lit w #[.int .i64 o.dot.dev, .int .i64 o.dot.ep, .int .i64 o.dot.seq, .int .i64 o.coll, .int .i64 o.ver, .int .i64 o.kind, .string (str o.key), .string (str o.text), .int .i64 o.n, .int .i64 o.time, .slice a o.dots.length c] 26
  have hx0 := Ext.alloc no w (.cells #[.int .i64 o.dot.dev, .int .i64 o.dot.ep, .int .i64 o.dot.seq, .int .i64 o.coll, .int .i64 o.ver, .int .i64 o.kind, .string (str o.key), .string (str o.text), .int .i64 o.n, .int .i64 o.time, .slice a o.dots.length c] 26)
  generalize w.alloc (.cells #[.int .i64 o.dot.dev, .int .i64 o.dot.ep, .int .i64 o.dot.seq, .int .i64 o.coll, .int .i64 o.ver, .int .i64 o.kind, .string (str o.key), .string (str o.text), .int .i64 o.n, .int .i64 o.time, .slice a o.dots.length c] 26) = w0 at *
  go_wp2_with fail
  refine (known_any w0).mono ?_
  rintro e w1 ⟨rfl, hx1⟩
  have hb1 := hb0.ext (by simp [OpR.cells]) hx1 (fun h => h)
  have hx := hx0.comp hx1
  clear hb0 hx0 hx1
  have hg0 := hb1.lt (by simp [OpR.cells])
  generalize w.heap.size = g0 at hb1 hg0 ⊢
  have b0 := hb1.cell 0 _ rfl
  have b1 := hb1.cell 1 _ rfl
  have b2 := hb1.cell 2 _ rfl
  have b3 := hb1.cell 3 _ rfl
  have b4 := hb1.cell 4 _ rfl
  have b5 := hb1.cell 5 _ rfl
  have b6 := hb1.cell 6 _ rfl
  have b7 := hb1.cell 7 _ rfl
  have b8 := hb1.cell 8 _ rfl
  have b9 := hb1.cell 9 _ rfl
  have b10 := hb1.cell 10 _ rfl
  go_wp2_with fail
  refine (few_any w1 o a c (by omega) hok.key hok.text).mono ?_
  rintro e w2 ⟨rfl, hx2⟩
  cases hfew : fewB o with
  | false =>
    go_wp2_with fail
    go_ret
    exact ⟨rfl, hx.comp hx2⟩
  | true =>
    by_cases h60 : 60 < s.length
    · have d60 : decide ((60 : Int) < ((str s).size : Int)) = true := decT (by rw [str_size]; omega)
      go_wp2_with fail
      go_ret
      exact ⟨rfl, hx.comp hx2⟩
    have d60 : decide ((60 : Int) < ((str s).size : Int)) = false := decF (by rw [str_size]; omega)
    have hl12 : o.dots.length ≤ 12 := by
      unfold fewB at hfew
      rw [decide_eq_true_iff] at hfew
      exact hfew.2.2
    clear hfew
    have hb2 := hb1.ext (by simp [OpR.cells]) hx2 (fun h => h)
    replace hx := hx.comp hx2
    clear hb1 hx2 b0 b1 b2 b3 b4 b5 b6 b7 b8 b9 b10
    have b0 := hb2.cell 0 _ rfl
    have b1 := hb2.cell 1 _ rfl
    have b2 := hb2.cell 2 _ rfl
    have b3 := hb2.cell 3 _ rfl
    have b4 := hb2.cell 4 _ rfl
    have b5 := hb2.cell 5 _ rfl
    have b6 := hb2.cell 6 _ rfl
    have b7 := hb2.cell 7 _ rfl
    have b8 := hb2.cell 8 _ rfl
    have b9 := hb2.cell 9 _ rfl
    have b10 := hb2.cell 10 _ rfl
    go_wp2_with fail
    refine (good_any w2 o a c hok (hrw.ext hx (fun _ _ h => h)) hl hc).mono ?_
    rintro e w3 ⟨a', c', rfl, hrg, hlg, hcg, hx3⟩
    have hG1 := goodOp_ok o hok
    have hG2 := goodOp_check o
    have hG3 := goodOp_len o
    unfold OpR.v
    generalize goodOp o = G at *
    go_upto_region 6 with fail
    have hg1 : Blk (w3.alloc (.cells #[.int .i64 G.dot.dev, .int .i64 G.dot.ep, .int .i64 G.dot.seq, .int .i64 G.coll, .int .i64 G.ver, .int .i64 G.kind, .string (str G.key), .string (str G.text), .int .i64 G.n, .int .i64 G.time, .slice a' G.dots.length c'] 26)) w3.heap.size (G.cells a' c') := Blk.lit w3 #[.int .i64 G.dot.dev, .int .i64 G.dot.ep, .int .i64 G.dot.seq, .int .i64 G.coll, .int .i64 G.ver, .int .i64 G.kind, .string (str G.key), .string (str G.text), .int .i64 G.n, .int .i64 G.time, .slice a' G.dots.length c'] 26
    have hx4 := Ext.alloc no w3 (.cells #[.int .i64 G.dot.dev, .int .i64 G.dot.ep, .int .i64 G.dot.seq, .int .i64 G.coll, .int .i64 G.ver, .int .i64 G.kind, .string (str G.key), .string (str G.text), .int .i64 G.n, .int .i64 G.time, .slice a' G.dots.length c'] 26)
    have hb4 := (hb2.ext (by simp [OpR.cells]) hx3 (fun h => h)).ext (by simp [OpR.cells]) hx4 (fun h => h)
    have hr4 := hrg.ext hx4 (fun _ _ h => h)
    have hfr := rd_low hrg
    have hgg : w.heap.size ≤ w3.heap.size := (hx.comp hx3).size
    have hg03 : g0 < w3.heap.size := by have := hb2.lt (by simp [OpR.cells]); have := hx3.size; omega
    replace hx := (hx.comp hx3).comp hx4
    clear hb2 hx3 hx4 hrg b0 b1 b2 b3 b4 b5 b6 b7 b8 b9 b10
    generalize w3.alloc (.cells #[.int .i64 G.dot.dev, .int .i64 G.dot.ep, .int .i64 G.dot.seq, .int .i64 G.coll, .int .i64 G.ver, .int .i64 G.kind, .string (str G.key), .string (str G.text), .int .i64 G.n, .int .i64 G.time, .slice a' G.dots.length c'] 26) = w4 at *
    generalize w3.heap.size = g1 at *
    have b0 := hb4.cell 0 _ rfl
    have y0 := hg1.cell 0 _ rfl
    have b1 := hb4.cell 1 _ rfl
    have y1 := hg1.cell 1 _ rfl
    have b2 := hb4.cell 2 _ rfl
    have y2 := hg1.cell 2 _ rfl
    have b3 := hb4.cell 3 _ rfl
    have y3 := hg1.cell 3 _ rfl
    have b4 := hb4.cell 4 _ rfl
    have y4 := hg1.cell 4 _ rfl
    have b5 := hb4.cell 5 _ rfl
    have y5 := hg1.cell 5 _ rfl
    have b6 := hb4.cell 6 _ rfl
    have y6 := hg1.cell 6 _ rfl
    have b7 := hb4.cell 7 _ rfl
    have y7 := hg1.cell 7 _ rfl
    have b8 := hb4.cell 8 _ rfl
    have y8 := hg1.cell 8 _ rfl
    have b9 := hb4.cell 9 _ rfl
    have y9 := hg1.cell 9 _ rfl
    have b10 := hb4.cell 10 _ rfl
    have y10 := hg1.cell 10 _ rfl
    have hrw4 := hrw.ext hx (fun _ _ h => h)
    have HC := Lib.hid hG2
    clear hG2
    --<A
    refine wp_region_F [0, 2, 6] (looks [(0, fun z => Ext no w4 z), (2, fun z => Ext no w4 z), (6, fun z => Ext no w4 z)]) (by kernel_rfl) ?_
    have hT0 : ∀ k, looks [(0, fun z => Ext no w4 z), (2, fun z => Ext no w4 z), (6, fun z => Ext no w4 z)] k (w4.drew) := looks_all ⟨(Ext.drew no w4), (Ext.drew no w4), (Ext.drew no w4), trivial⟩
    refine wpF_look 0 (v := .agg #[.int .i64 o.dot.dev, .int .i64 o.dot.ep, .int .i64 o.dot.seq, .int .i64 o.coll, .int .i64 o.ver, .int .i64 o.kind, .string (str o.key), .string (str o.text), .int .i64 o.n, .int .i64 o.time, .slice a o.dots.length c]) rfl rfl (by kernel_rfl) (by kernel_rfl) (by kernel_rfl) (by kernel_rfl) (fun _ _ _ h => h) hT0 (by rfl) (fun w hS => by have hS : Ext no w4 w := hS; have q0 := hS.keeps b0 (fun h => h); have q1 := hS.keeps b1 (fun h => h); have q2 := hS.keeps b2 (fun h => h); have q3 := hS.keeps b3 (fun h => h); have q4 := hS.keeps b4 (fun h => h); have q5 := hS.keeps b5 (fun h => h); have q6 := hS.keeps b6 (fun h => h); have q7 := hS.keeps b7 (fun h => h); have q8 := hS.keeps b8 (fun h => h); have q9 := hS.keeps b9 (fun h => h); have q10 := hS.keeps b10 (fun h => h); go_simp) ?_
    simp only [Act.put, List.setIfInBounds_toArray, List.set_cons_zero, List.set_cons_succ]
    refine wpF_look 2 (v := .agg #[.int .i64 o.dot.dev, .int .i64 o.dot.ep, .int .i64 o.dot.seq, .int .i64 o.coll, .int .i64 o.ver, .int .i64 o.kind, .string (str o.key), .string (str o.text), .int .i64 o.n, .int .i64 o.time, .slice a o.dots.length c]) rfl rfl (by kernel_rfl) (by kernel_rfl) (by kernel_rfl) (by kernel_rfl) (fun _ _ _ h => h) hT0 (by rfl) (fun w hS => by have hS : Ext no w4 w := hS; have q0 := hS.keeps b0 (fun h => h); have q1 := hS.keeps b1 (fun h => h); have q2 := hS.keeps b2 (fun h => h); have q3 := hS.keeps b3 (fun h => h); have q4 := hS.keeps b4 (fun h => h); have q5 := hS.keeps b5 (fun h => h); have q6 := hS.keeps b6 (fun h => h); have q7 := hS.keeps b7 (fun h => h); have q8 := hS.keeps b8 (fun h => h); have q9 := hS.keeps b9 (fun h => h); have q10 := hS.keeps b10 (fun h => h); go_simp) ?_
    simp only [Act.put, List.setIfInBounds_toArray, List.set_cons_zero, List.set_cons_succ]
    refine wpF_exec 1 rfl (by kernel_rfl) (by rfl) ?_
    intro K hK
    go_simp
    refine (check_any (w4.drew) o a c (hrw4.ext (Ext.drew no w4) (fun _ _ h => h)) (by omega) hok.key hok.text).mono ?_
    rintro e wn0 ⟨rfl, hx_wn0⟩
    have hT1 : ∀ k, looks [(0, fun z => Ext no w4 z), (2, fun z => Ext no w4 z), (6, fun z => Ext no w4 z)] k (wn0) := looks_all ⟨((Ext.drew no w4).comp hx_wn0), ((Ext.drew no w4).comp hx_wn0), ((Ext.drew no w4).comp hx_wn0), trivial⟩
    refine hK _ _ (looks [(0, fun z => Ext no w4 z), (2, fun z => Ext no w4 z), (6, fun z => Ext no w4 z)]) ⟨.inr (.inl (by kernel_rfl)), .inr (.inr (fun x h => h)), .inl (by kernel_rfl), trivial⟩ hT1 ?_
    clear hK K
    try simp only [Act.put, List.setIfInBounds_toArray, List.set_cons_zero, List.set_cons_succ]
    refine wpF_exec 3 rfl (by kernel_rfl) (by rfl) ?_
    intro K hK
    go_simp
    refine (refcheck_any (wn0) o a c (hrw4.ext ((Ext.drew no w4).comp hx_wn0) (fun _ _ h => h)) (by omega) hok.key hok.text).mono ?_
    rintro e wn1 ⟨rfl, hx_wn1⟩
    have hT2 : ∀ k, looks [(0, fun z => Ext no w4 z), (2, fun z => Ext no w4 z), (6, fun z => Ext no w4 z)] k (wn1) := looks_all ⟨(((Ext.drew no w4).comp hx_wn0).comp hx_wn1), (((Ext.drew no w4).comp hx_wn0).comp hx_wn1), (((Ext.drew no w4).comp hx_wn0).comp hx_wn1), trivial⟩
    refine hK _ _ (looks [(0, fun z => Ext no w4 z), (2, fun z => Ext no w4 z), (6, fun z => Ext no w4 z)]) ⟨.inr (.inl (by kernel_rfl)), .inr (.inl (by kernel_rfl)), .inl (by kernel_rfl), trivial⟩ hT2 ?_
    clear hK K
    try simp only [Act.put, List.setIfInBounds_toArray, List.set_cons_zero, List.set_cons_succ]
    refine wpF_take 4 (v := ?_) rfl (by kernel_rfl) (by kernel_rfl) (by kernel_rfl) (fun _ _ _ h => h) hT2 (by rfl) ?_ ?_
    rotate_left
    · (intro wq; go_simp; try with_reducible rfl)
    simp only [Act.put, List.setIfInBounds_toArray, List.set_cons_zero, List.set_cons_succ]
    refine wpF_take 5 (v := ?_) rfl (by kernel_rfl) (by kernel_rfl) (by kernel_rfl) (fun _ _ _ h => h) hT2 (by rfl) ?_ ?_
    rotate_left
    · (intro wq; go_simp; try with_reducible rfl)
    simp only [Act.put, List.setIfInBounds_toArray, List.set_cons_zero, List.set_cons_succ]
    refine wpF_look 6 (v := .agg #[.int .i64 G.dot.dev, .int .i64 G.dot.ep, .int .i64 G.dot.seq, .int .i64 G.coll, .int .i64 G.ver, .int .i64 G.kind, .string (str G.key), .string (str G.text), .int .i64 G.n, .int .i64 G.time, .slice a' G.dots.length c']) rfl rfl (by kernel_rfl) (by kernel_rfl) (by kernel_rfl) (by kernel_rfl) (fun _ _ _ h => h) hT2 (by rfl) (fun w hS => by have hS : Ext no w4 w := hS; have q0 := hS.keeps y0 (fun h => h); have q1 := hS.keeps y1 (fun h => h); have q2 := hS.keeps y2 (fun h => h); have q3 := hS.keeps y3 (fun h => h); have q4 := hS.keeps y4 (fun h => h); have q5 := hS.keeps y5 (fun h => h); have q6 := hS.keeps y6 (fun h => h); have q7 := hS.keeps y7 (fun h => h); have q8 := hS.keeps y8 (fun h => h); have q9 := hS.keeps y9 (fun h => h); have q10 := hS.keeps y10 (fun h => h); go_simp) ?_
    simp only [Act.put, List.setIfInBounds_toArray, List.set_cons_zero, List.set_cons_succ]
    refine wpF_exec 7 rfl (by kernel_rfl) (by rfl) ?_
    intro K hK
    go_simp
    refine (check_any (wn1) G a' c' (hr4.ext (((Ext.drew no w4).comp hx_wn0).comp hx_wn1) (fun _ _ h => h)) (by omega) hG1.key hG1.text).mono ?_
    rintro e wn2 ⟨rfl, hx_wn2⟩
    rw [HC.out]
    have hT3 : ∀ k, looks [(0, fun z => Ext no w4 z), (2, fun z => Ext no w4 z), (6, fun z => Ext no w4 z)] k (wn2) := looks_all ⟨((((Ext.drew no w4).comp hx_wn0).comp hx_wn1).comp hx_wn2), ((((Ext.drew no w4).comp hx_wn0).comp hx_wn1).comp hx_wn2), ((((Ext.drew no w4).comp hx_wn0).comp hx_wn1).comp hx_wn2), trivial⟩
    refine hK _ _ (looks [(0, fun z => Ext no w4 z), (2, fun z => Ext no w4 z), (6, fun z => Ext no w4 z)]) ⟨.inr (.inl (by kernel_rfl)), .inr (.inl (by kernel_rfl)), .inr (.inl (by kernel_rfl)), trivial⟩ hT3 ?_
    clear hK K
    try simp only [Act.put, List.setIfInBounds_toArray, List.set_cons_zero, List.set_cons_succ]
    refine wpF_take 8 (v := ?_) rfl (by kernel_rfl) (by kernel_rfl) (by kernel_rfl) (fun _ _ _ h => h) hT3 (by rfl) ?_ ?_
    rotate_left
    · (intro wq; go_simp; try with_reducible rfl)
    simp only [Act.put, List.setIfInBounds_toArray, List.set_cons_zero, List.set_cons_succ]
    refine wpF_take 9 (v := ?_) rfl (by kernel_rfl) (by kernel_rfl) (by kernel_rfl) (fun _ _ _ h => h) hT3 (by rfl) ?_ ?_
    rotate_left
    · (intro wq; go_simp; try with_reducible rfl)
    simp only [Act.put, List.setIfInBounds_toArray, List.set_cons_zero, List.set_cons_succ]
    refine wpF_done (by kernel_rfl) ?_ _
    have hx5 := hx.comp ((((Ext.drew no w4).comp hx_wn0).comp hx_wn1).comp hx_wn2)
    have hg5 := hg1.ext (by simp [OpR.cells]) ((((Ext.drew no w4).comp hx_wn0).comp hx_wn1).comp hx_wn2) (fun h => h)
    have hb5 := hb4.ext (by simp [OpR.cells]) ((((Ext.drew no w4).comp hx_wn0).comp hx_wn1).comp hx_wn2) (fun h => h)
    have hr5 := hr4.ext ((((Ext.drew no w4).comp hx_wn0).comp hx_wn1).comp hx_wn2) (fun _ _ h => h)
    have hrw5 := hrw4.ext ((((Ext.drew no w4).comp hx_wn0).comp hx_wn1).comp hx_wn2) (fun _ _ h => h)
    clear hx hg1 hb4 hr4 hrw4 b0 y0 b1 y1 b2 y2 b3 y3 b4 y4 b5 y5 b6 y6 b7 y7 b8 y8 b9 y9 b10 y10
    generalize wn2 = w5 at *
    go_wp2_with fail
    refine (within_any which 11 w5 (by omega) (by omega) hwh).mono ?_
    rintro e w6 ⟨rfl, rfl⟩
    have hq : which % 11 = 0 ∨ which % 11 = 1 ∨ which % 11 = 2 ∨ which % 11 = 3 ∨ which % 11 = 4 ∨ which % 11 = 5 ∨ which % 11 = 6 ∨ which % 11 = 7 ∨ which % 11 = 8 ∨ which % 11 = 9 ∨ which % 11 = 10 := by omega
    have d10 := hb5.cell 10 _ rfl
    have e0 := hg5.cell 0 _ rfl
    have e1 := hg5.cell 1 _ rfl
    have e2 := hg5.cell 2 _ rfl
    have e3 := hg5.cell 3 _ rfl
    have e4 := hg5.cell 4 _ rfl
    have e5 := hg5.cell 5 _ rfl
    have e6 := hg5.cell 6 _ rfl
    have e7 := hg5.cell 7 _ rfl
    have e8 := hg5.cell 8 _ rfl
    have e9 := hg5.cell 9 _ rfl
    have e10 := hg5.cell 10 _ rfl
    have f0 := hg5.fr 0
    have f1 := hg5.fr 1
    have f2 := hg5.fr 2
    have f3 := hg5.fr 3
    have f4 := hg5.fr 4
    have f5 := hg5.fr 5
    have f6 := hg5.fr 6
    have f7 := hg5.fr 7
    have f8 := hg5.fr 8
    have f9 := hg5.fr 9
    have f10 := hg5.fr 10
    rcases hq with hq | hq | hq | hq | hq | hq | hq | hq | hq | hq | hq <;> rw [hq] <;> clear hq
    · go_upto_region 31 with fail
      obtain ⟨O, hO⟩ : ∃ O : OpR, O = { G with dot := ⟨n, G.dot.ep, G.dot.seq⟩ } := ⟨_, rfl⟩
      have hg6 : Blk (w5.setCell ⟨g1, 0, none⟩ (.int .i64 n)) g1 (O.cells a' c') := by rw [hO]; exact hg5.set 0 (.int .i64 n) (by simp [OpR.cells])
      have hx6 := hx5.set1 hgg 0 (.int .i64 n)
      have hr6 : Rd (w5.setCell ⟨g1, 0, none⟩ (.int .i64 n)) a' (ds O.dots) := by rw [hO]; exact rd_aside hr5 hfr _ _
      have hO1 : O.dots.length ≤ 1099511627776 := by rw [hO]; show G.dots.length ≤ _; omega
      have hO2 : O.key.length ≤ maxLen := by rw [hO]; exact hG1.key
      have hO3 : O.text.length ≤ maxLen := by rw [hO]; exact hG1.text
      clear hO hg5 hb5 hr5 hrw5 hx5 d10 e0 f0 e1 f1 e2 f2 e3 f3 e4 f4 e5 f5 e6 f6 e7 f7 e8 f8 e9 f9 e10 f10
      generalize w5.setCell ⟨g1, 0, none⟩ (.int .i64 n) = w6 at *
      have y0 := hg6.cell 0 _ rfl
      have y1 := hg6.cell 1 _ rfl
      have y2 := hg6.cell 2 _ rfl
      have y3 := hg6.cell 3 _ rfl
      have y4 := hg6.cell 4 _ rfl
      have y5 := hg6.cell 5 _ rfl
      have y6 := hg6.cell 6 _ rfl
      have y7 := hg6.cell 7 _ rfl
      have y8 := hg6.cell 8 _ rfl
      have y9 := hg6.cell 9 _ rfl
      have y10 := hg6.cell 10 _ rfl
      refine wp_region_F [0, 2] (looks [(0, fun z => Ext no w6 z), (2, fun z => Ext no w6 z)]) (by kernel_rfl) ?_
      have hT0 : ∀ k, looks [(0, fun z => Ext no w6 z), (2, fun z => Ext no w6 z)] k (w6.drew) := looks_all ⟨(Ext.drew no w6), (Ext.drew no w6), trivial⟩
      refine wpF_look 0 (v := .agg #[.int .i64 O.dot.dev, .int .i64 O.dot.ep, .int .i64 O.dot.seq, .int .i64 O.coll, .int .i64 O.ver, .int .i64 O.kind, .string (str O.key), .string (str O.text), .int .i64 O.n, .int .i64 O.time, .slice a' O.dots.length c']) rfl rfl (by kernel_rfl) (by kernel_rfl) (by kernel_rfl) (by kernel_rfl) (fun _ _ _ h => h) hT0 (by rfl) (fun w hS => by have hS : Ext no w6 w := hS; have q0 := hS.keeps y0 (fun h => h); have q1 := hS.keeps y1 (fun h => h); have q2 := hS.keeps y2 (fun h => h); have q3 := hS.keeps y3 (fun h => h); have q4 := hS.keeps y4 (fun h => h); have q5 := hS.keeps y5 (fun h => h); have q6 := hS.keeps y6 (fun h => h); have q7 := hS.keeps y7 (fun h => h); have q8 := hS.keeps y8 (fun h => h); have q9 := hS.keeps y9 (fun h => h); have q10 := hS.keeps y10 (fun h => h); go_simp) ?_
      simp only [Act.put, List.setIfInBounds_toArray, List.set_cons_zero, List.set_cons_succ]
      refine wpF_look 2 (v := .agg #[.int .i64 O.dot.dev, .int .i64 O.dot.ep, .int .i64 O.dot.seq, .int .i64 O.coll, .int .i64 O.ver, .int .i64 O.kind, .string (str O.key), .string (str O.text), .int .i64 O.n, .int .i64 O.time, .slice a' O.dots.length c']) rfl rfl (by kernel_rfl) (by kernel_rfl) (by kernel_rfl) (by kernel_rfl) (fun _ _ _ h => h) hT0 (by rfl) (fun w hS => by have hS : Ext no w6 w := hS; have q0 := hS.keeps y0 (fun h => h); have q1 := hS.keeps y1 (fun h => h); have q2 := hS.keeps y2 (fun h => h); have q3 := hS.keeps y3 (fun h => h); have q4 := hS.keeps y4 (fun h => h); have q5 := hS.keeps y5 (fun h => h); have q6 := hS.keeps y6 (fun h => h); have q7 := hS.keeps y7 (fun h => h); have q8 := hS.keeps y8 (fun h => h); have q9 := hS.keeps y9 (fun h => h); have q10 := hS.keeps y10 (fun h => h); go_simp) ?_
      simp only [Act.put, List.setIfInBounds_toArray, List.set_cons_zero, List.set_cons_succ]
      refine wpF_exec 1 rfl (by kernel_rfl) (by rfl) ?_
      intro K hK
      go_simp
      refine (check_any (w6.drew) O a' c' (hr6.ext (Ext.drew no w6) (fun _ _ h => h)) hO1 hO2 hO3).mono ?_
      rintro e wm0 ⟨rfl, hx_wm0⟩
      have hT1 : ∀ k, looks [(0, fun z => Ext no w6 z), (2, fun z => Ext no w6 z)] k (wm0) := looks_all ⟨((Ext.drew no w6).comp hx_wm0), ((Ext.drew no w6).comp hx_wm0), trivial⟩
      refine hK _ _ (looks [(0, fun z => Ext no w6 z), (2, fun z => Ext no w6 z)]) ⟨.inr (.inl (by kernel_rfl)), .inr (.inr (fun x h => h)), trivial⟩ hT1 ?_
      clear hK K
      try simp only [Act.put, List.setIfInBounds_toArray, List.set_cons_zero, List.set_cons_succ]
      refine wpF_exec 3 rfl (by kernel_rfl) (by rfl) ?_
      intro K hK
      go_simp
      refine (refcheck_any (wm0) O a' c' (hr6.ext ((Ext.drew no w6).comp hx_wm0) (fun _ _ h => h)) hO1 hO2 hO3).mono ?_
      rintro e wm1 ⟨rfl, hx_wm1⟩
      have hT2 : ∀ k, looks [(0, fun z => Ext no w6 z), (2, fun z => Ext no w6 z)] k (wm1) := looks_all ⟨(((Ext.drew no w6).comp hx_wm0).comp hx_wm1), (((Ext.drew no w6).comp hx_wm0).comp hx_wm1), trivial⟩
      refine hK _ _ (looks [(0, fun z => Ext no w6 z), (2, fun z => Ext no w6 z)]) ⟨.inr (.inl (by kernel_rfl)), .inr (.inl (by kernel_rfl)), trivial⟩ hT2 ?_
      clear hK K
      try simp only [Act.put, List.setIfInBounds_toArray, List.set_cons_zero, List.set_cons_succ]
      refine wpF_take 4 (v := ?_) rfl (by kernel_rfl) (by kernel_rfl) (by kernel_rfl) (fun _ _ _ h => h) hT2 (by rfl) ?_ ?_
      rotate_left
      · (intro wq; go_simp; try with_reducible rfl)
      simp only [Act.put, List.setIfInBounds_toArray, List.set_cons_zero, List.set_cons_succ]
      refine wpF_take 5 (v := ?_) rfl (by kernel_rfl) (by kernel_rfl) (by kernel_rfl) (fun _ _ _ h => h) hT2 (by rfl) ?_ ?_
      rotate_left
      · (intro wq; go_simp; try with_reducible rfl)
      simp only [Act.put, List.setIfInBounds_toArray, List.set_cons_zero, List.set_cons_succ]
      refine wpF_done (by kernel_rfl) ?_ _
      go_wp2_with fail
      go_ret
      exact ⟨rfl, hx6.comp (((Ext.drew no w6).comp hx_wm0).comp hx_wm1)⟩
    · go_upto_region 31 with fail
      obtain ⟨O, hO⟩ : ∃ O : OpR, O = { G with dot := ⟨G.dot.dev, n, G.dot.seq⟩ } := ⟨_, rfl⟩
      have hg6 : Blk (w5.setCell ⟨g1, 1, none⟩ (.int .i64 n)) g1 (O.cells a' c') := by rw [hO]; exact hg5.set 1 (.int .i64 n) (by simp [OpR.cells])
      have hx6 := hx5.set1 hgg 1 (.int .i64 n)
      have hr6 : Rd (w5.setCell ⟨g1, 1, none⟩ (.int .i64 n)) a' (ds O.dots) := by rw [hO]; exact rd_aside hr5 hfr _ _
      have hO1 : O.dots.length ≤ 1099511627776 := by rw [hO]; show G.dots.length ≤ _; omega
      have hO2 : O.key.length ≤ maxLen := by rw [hO]; exact hG1.key
      have hO3 : O.text.length ≤ maxLen := by rw [hO]; exact hG1.text
      clear hO hg5 hb5 hr5 hrw5 hx5 d10 e0 f0 e1 f1 e2 f2 e3 f3 e4 f4 e5 f5 e6 f6 e7 f7 e8 f8 e9 f9 e10 f10
      generalize w5.setCell ⟨g1, 1, none⟩ (.int .i64 n) = w6 at *
      have y0 := hg6.cell 0 _ rfl
      have y1 := hg6.cell 1 _ rfl
      have y2 := hg6.cell 2 _ rfl
      have y3 := hg6.cell 3 _ rfl
      have y4 := hg6.cell 4 _ rfl
      have y5 := hg6.cell 5 _ rfl
      have y6 := hg6.cell 6 _ rfl
      have y7 := hg6.cell 7 _ rfl
      have y8 := hg6.cell 8 _ rfl
      have y9 := hg6.cell 9 _ rfl
      have y10 := hg6.cell 10 _ rfl
      refine wp_region_F [0, 2] (looks [(0, fun z => Ext no w6 z), (2, fun z => Ext no w6 z)]) (by kernel_rfl) ?_
      have hT0 : ∀ k, looks [(0, fun z => Ext no w6 z), (2, fun z => Ext no w6 z)] k (w6.drew) := looks_all ⟨(Ext.drew no w6), (Ext.drew no w6), trivial⟩
      refine wpF_look 0 (v := .agg #[.int .i64 O.dot.dev, .int .i64 O.dot.ep, .int .i64 O.dot.seq, .int .i64 O.coll, .int .i64 O.ver, .int .i64 O.kind, .string (str O.key), .string (str O.text), .int .i64 O.n, .int .i64 O.time, .slice a' O.dots.length c']) rfl rfl (by kernel_rfl) (by kernel_rfl) (by kernel_rfl) (by kernel_rfl) (fun _ _ _ h => h) hT0 (by rfl) (fun w hS => by have hS : Ext no w6 w := hS; have q0 := hS.keeps y0 (fun h => h); have q1 := hS.keeps y1 (fun h => h); have q2 := hS.keeps y2 (fun h => h); have q3 := hS.keeps y3 (fun h => h); have q4 := hS.keeps y4 (fun h => h); have q5 := hS.keeps y5 (fun h => h); have q6 := hS.keeps y6 (fun h => h); have q7 := hS.keeps y7 (fun h => h); have q8 := hS.keeps y8 (fun h => h); have q9 := hS.keeps y9 (fun h => h); have q10 := hS.keeps y10 (fun h => h); go_simp) ?_
      simp only [Act.put, List.setIfInBounds_toArray, List.set_cons_zero, List.set_cons_succ]
      refine wpF_look 2 (v := .agg #[.int .i64 O.dot.dev, .int .i64 O.dot.ep, .int .i64 O.dot.seq, .int .i64 O.coll, .int .i64 O.ver, .int .i64 O.kind, .string (str O.key), .string (str O.text), .int .i64 O.n, .int .i64 O.time, .slice a' O.dots.length c']) rfl rfl (by kernel_rfl) (by kernel_rfl) (by kernel_rfl) (by kernel_rfl) (fun _ _ _ h => h) hT0 (by rfl) (fun w hS => by have hS : Ext no w6 w := hS; have q0 := hS.keeps y0 (fun h => h); have q1 := hS.keeps y1 (fun h => h); have q2 := hS.keeps y2 (fun h => h); have q3 := hS.keeps y3 (fun h => h); have q4 := hS.keeps y4 (fun h => h); have q5 := hS.keeps y5 (fun h => h); have q6 := hS.keeps y6 (fun h => h); have q7 := hS.keeps y7 (fun h => h); have q8 := hS.keeps y8 (fun h => h); have q9 := hS.keeps y9 (fun h => h); have q10 := hS.keeps y10 (fun h => h); go_simp) ?_
      simp only [Act.put, List.setIfInBounds_toArray, List.set_cons_zero, List.set_cons_succ]
      refine wpF_exec 1 rfl (by kernel_rfl) (by rfl) ?_
      intro K hK
      go_simp
      refine (check_any (w6.drew) O a' c' (hr6.ext (Ext.drew no w6) (fun _ _ h => h)) hO1 hO2 hO3).mono ?_
      rintro e wm0 ⟨rfl, hx_wm0⟩
      have hT1 : ∀ k, looks [(0, fun z => Ext no w6 z), (2, fun z => Ext no w6 z)] k (wm0) := looks_all ⟨((Ext.drew no w6).comp hx_wm0), ((Ext.drew no w6).comp hx_wm0), trivial⟩
      refine hK _ _ (looks [(0, fun z => Ext no w6 z), (2, fun z => Ext no w6 z)]) ⟨.inr (.inl (by kernel_rfl)), .inr (.inr (fun x h => h)), trivial⟩ hT1 ?_
      clear hK K
      try simp only [Act.put, List.setIfInBounds_toArray, List.set_cons_zero, List.set_cons_succ]
      refine wpF_exec 3 rfl (by kernel_rfl) (by rfl) ?_
      intro K hK
      go_simp
      refine (refcheck_any (wm0) O a' c' (hr6.ext ((Ext.drew no w6).comp hx_wm0) (fun _ _ h => h)) hO1 hO2 hO3).mono ?_
      rintro e wm1 ⟨rfl, hx_wm1⟩
      have hT2 : ∀ k, looks [(0, fun z => Ext no w6 z), (2, fun z => Ext no w6 z)] k (wm1) := looks_all ⟨(((Ext.drew no w6).comp hx_wm0).comp hx_wm1), (((Ext.drew no w6).comp hx_wm0).comp hx_wm1), trivial⟩
      refine hK _ _ (looks [(0, fun z => Ext no w6 z), (2, fun z => Ext no w6 z)]) ⟨.inr (.inl (by kernel_rfl)), .inr (.inl (by kernel_rfl)), trivial⟩ hT2 ?_
      clear hK K
      try simp only [Act.put, List.setIfInBounds_toArray, List.set_cons_zero, List.set_cons_succ]
      refine wpF_take 4 (v := ?_) rfl (by kernel_rfl) (by kernel_rfl) (by kernel_rfl) (fun _ _ _ h => h) hT2 (by rfl) ?_ ?_
      rotate_left
      · (intro wq; go_simp; try with_reducible rfl)
      simp only [Act.put, List.setIfInBounds_toArray, List.set_cons_zero, List.set_cons_succ]
      refine wpF_take 5 (v := ?_) rfl (by kernel_rfl) (by kernel_rfl) (by kernel_rfl) (fun _ _ _ h => h) hT2 (by rfl) ?_ ?_
      rotate_left
      · (intro wq; go_simp; try with_reducible rfl)
      simp only [Act.put, List.setIfInBounds_toArray, List.set_cons_zero, List.set_cons_succ]
      refine wpF_done (by kernel_rfl) ?_ _
      go_wp2_with fail
      go_ret
      exact ⟨rfl, hx6.comp (((Ext.drew no w6).comp hx_wm0).comp hx_wm1)⟩
    · go_upto_region 31 with fail
      obtain ⟨O, hO⟩ : ∃ O : OpR, O = { G with dot := ⟨G.dot.dev, G.dot.ep, n⟩ } := ⟨_, rfl⟩
      have hg6 : Blk (w5.setCell ⟨g1, 2, none⟩ (.int .i64 n)) g1 (O.cells a' c') := by rw [hO]; exact hg5.set 2 (.int .i64 n) (by simp [OpR.cells])
      have hx6 := hx5.set1 hgg 2 (.int .i64 n)
      have hr6 : Rd (w5.setCell ⟨g1, 2, none⟩ (.int .i64 n)) a' (ds O.dots) := by rw [hO]; exact rd_aside hr5 hfr _ _
      have hO1 : O.dots.length ≤ 1099511627776 := by rw [hO]; show G.dots.length ≤ _; omega
      have hO2 : O.key.length ≤ maxLen := by rw [hO]; exact hG1.key
      have hO3 : O.text.length ≤ maxLen := by rw [hO]; exact hG1.text
      clear hO hg5 hb5 hr5 hrw5 hx5 d10 e0 f0 e1 f1 e2 f2 e3 f3 e4 f4 e5 f5 e6 f6 e7 f7 e8 f8 e9 f9 e10 f10
      generalize w5.setCell ⟨g1, 2, none⟩ (.int .i64 n) = w6 at *
      have y0 := hg6.cell 0 _ rfl
      have y1 := hg6.cell 1 _ rfl
      have y2 := hg6.cell 2 _ rfl
      have y3 := hg6.cell 3 _ rfl
      have y4 := hg6.cell 4 _ rfl
      have y5 := hg6.cell 5 _ rfl
      have y6 := hg6.cell 6 _ rfl
      have y7 := hg6.cell 7 _ rfl
      have y8 := hg6.cell 8 _ rfl
      have y9 := hg6.cell 9 _ rfl
      have y10 := hg6.cell 10 _ rfl
      refine wp_region_F [0, 2] (looks [(0, fun z => Ext no w6 z), (2, fun z => Ext no w6 z)]) (by kernel_rfl) ?_
      have hT0 : ∀ k, looks [(0, fun z => Ext no w6 z), (2, fun z => Ext no w6 z)] k (w6.drew) := looks_all ⟨(Ext.drew no w6), (Ext.drew no w6), trivial⟩
      refine wpF_look 0 (v := .agg #[.int .i64 O.dot.dev, .int .i64 O.dot.ep, .int .i64 O.dot.seq, .int .i64 O.coll, .int .i64 O.ver, .int .i64 O.kind, .string (str O.key), .string (str O.text), .int .i64 O.n, .int .i64 O.time, .slice a' O.dots.length c']) rfl rfl (by kernel_rfl) (by kernel_rfl) (by kernel_rfl) (by kernel_rfl) (fun _ _ _ h => h) hT0 (by rfl) (fun w hS => by have hS : Ext no w6 w := hS; have q0 := hS.keeps y0 (fun h => h); have q1 := hS.keeps y1 (fun h => h); have q2 := hS.keeps y2 (fun h => h); have q3 := hS.keeps y3 (fun h => h); have q4 := hS.keeps y4 (fun h => h); have q5 := hS.keeps y5 (fun h => h); have q6 := hS.keeps y6 (fun h => h); have q7 := hS.keeps y7 (fun h => h); have q8 := hS.keeps y8 (fun h => h); have q9 := hS.keeps y9 (fun h => h); have q10 := hS.keeps y10 (fun h => h); go_simp) ?_
      simp only [Act.put, List.setIfInBounds_toArray, List.set_cons_zero, List.set_cons_succ]
      refine wpF_look 2 (v := .agg #[.int .i64 O.dot.dev, .int .i64 O.dot.ep, .int .i64 O.dot.seq, .int .i64 O.coll, .int .i64 O.ver, .int .i64 O.kind, .string (str O.key), .string (str O.text), .int .i64 O.n, .int .i64 O.time, .slice a' O.dots.length c']) rfl rfl (by kernel_rfl) (by kernel_rfl) (by kernel_rfl) (by kernel_rfl) (fun _ _ _ h => h) hT0 (by rfl) (fun w hS => by have hS : Ext no w6 w := hS; have q0 := hS.keeps y0 (fun h => h); have q1 := hS.keeps y1 (fun h => h); have q2 := hS.keeps y2 (fun h => h); have q3 := hS.keeps y3 (fun h => h); have q4 := hS.keeps y4 (fun h => h); have q5 := hS.keeps y5 (fun h => h); have q6 := hS.keeps y6 (fun h => h); have q7 := hS.keeps y7 (fun h => h); have q8 := hS.keeps y8 (fun h => h); have q9 := hS.keeps y9 (fun h => h); have q10 := hS.keeps y10 (fun h => h); go_simp) ?_
      simp only [Act.put, List.setIfInBounds_toArray, List.set_cons_zero, List.set_cons_succ]
      refine wpF_exec 1 rfl (by kernel_rfl) (by rfl) ?_
      intro K hK
      go_simp
      refine (check_any (w6.drew) O a' c' (hr6.ext (Ext.drew no w6) (fun _ _ h => h)) hO1 hO2 hO3).mono ?_
      rintro e wm0 ⟨rfl, hx_wm0⟩
      have hT1 : ∀ k, looks [(0, fun z => Ext no w6 z), (2, fun z => Ext no w6 z)] k (wm0) := looks_all ⟨((Ext.drew no w6).comp hx_wm0), ((Ext.drew no w6).comp hx_wm0), trivial⟩
      refine hK _ _ (looks [(0, fun z => Ext no w6 z), (2, fun z => Ext no w6 z)]) ⟨.inr (.inl (by kernel_rfl)), .inr (.inr (fun x h => h)), trivial⟩ hT1 ?_
      clear hK K
      try simp only [Act.put, List.setIfInBounds_toArray, List.set_cons_zero, List.set_cons_succ]
      refine wpF_exec 3 rfl (by kernel_rfl) (by rfl) ?_
      intro K hK
      go_simp
      refine (refcheck_any (wm0) O a' c' (hr6.ext ((Ext.drew no w6).comp hx_wm0) (fun _ _ h => h)) hO1 hO2 hO3).mono ?_
      rintro e wm1 ⟨rfl, hx_wm1⟩
      have hT2 : ∀ k, looks [(0, fun z => Ext no w6 z), (2, fun z => Ext no w6 z)] k (wm1) := looks_all ⟨(((Ext.drew no w6).comp hx_wm0).comp hx_wm1), (((Ext.drew no w6).comp hx_wm0).comp hx_wm1), trivial⟩
      refine hK _ _ (looks [(0, fun z => Ext no w6 z), (2, fun z => Ext no w6 z)]) ⟨.inr (.inl (by kernel_rfl)), .inr (.inl (by kernel_rfl)), trivial⟩ hT2 ?_
      clear hK K
      try simp only [Act.put, List.setIfInBounds_toArray, List.set_cons_zero, List.set_cons_succ]
      refine wpF_take 4 (v := ?_) rfl (by kernel_rfl) (by kernel_rfl) (by kernel_rfl) (fun _ _ _ h => h) hT2 (by rfl) ?_ ?_
      rotate_left
      · (intro wq; go_simp; try with_reducible rfl)
      simp only [Act.put, List.setIfInBounds_toArray, List.set_cons_zero, List.set_cons_succ]
      refine wpF_take 5 (v := ?_) rfl (by kernel_rfl) (by kernel_rfl) (by kernel_rfl) (fun _ _ _ h => h) hT2 (by rfl) ?_ ?_
      rotate_left
      · (intro wq; go_simp; try with_reducible rfl)
      simp only [Act.put, List.setIfInBounds_toArray, List.set_cons_zero, List.set_cons_succ]
      refine wpF_done (by kernel_rfl) ?_ _
      go_wp2_with fail
      go_ret
      exact ⟨rfl, hx6.comp (((Ext.drew no w6).comp hx_wm0).comp hx_wm1)⟩
    · go_upto_region 31 with fail
      obtain ⟨O, hO⟩ : ∃ O : OpR, O = { G with coll := n } := ⟨_, rfl⟩
      have hg6 : Blk (w5.setCell ⟨g1, 3, none⟩ (.int .i64 n)) g1 (O.cells a' c') := by rw [hO]; exact hg5.set 3 (.int .i64 n) (by simp [OpR.cells])
      have hx6 := hx5.set1 hgg 3 (.int .i64 n)
      have hr6 : Rd (w5.setCell ⟨g1, 3, none⟩ (.int .i64 n)) a' (ds O.dots) := by rw [hO]; exact rd_aside hr5 hfr _ _
      have hO1 : O.dots.length ≤ 1099511627776 := by rw [hO]; show G.dots.length ≤ _; omega
      have hO2 : O.key.length ≤ maxLen := by rw [hO]; exact hG1.key
      have hO3 : O.text.length ≤ maxLen := by rw [hO]; exact hG1.text
      clear hO hg5 hb5 hr5 hrw5 hx5 d10 e0 f0 e1 f1 e2 f2 e3 f3 e4 f4 e5 f5 e6 f6 e7 f7 e8 f8 e9 f9 e10 f10
      generalize w5.setCell ⟨g1, 3, none⟩ (.int .i64 n) = w6 at *
      have y0 := hg6.cell 0 _ rfl
      have y1 := hg6.cell 1 _ rfl
      have y2 := hg6.cell 2 _ rfl
      have y3 := hg6.cell 3 _ rfl
      have y4 := hg6.cell 4 _ rfl
      have y5 := hg6.cell 5 _ rfl
      have y6 := hg6.cell 6 _ rfl
      have y7 := hg6.cell 7 _ rfl
      have y8 := hg6.cell 8 _ rfl
      have y9 := hg6.cell 9 _ rfl
      have y10 := hg6.cell 10 _ rfl
      refine wp_region_F [0, 2] (looks [(0, fun z => Ext no w6 z), (2, fun z => Ext no w6 z)]) (by kernel_rfl) ?_
      have hT0 : ∀ k, looks [(0, fun z => Ext no w6 z), (2, fun z => Ext no w6 z)] k (w6.drew) := looks_all ⟨(Ext.drew no w6), (Ext.drew no w6), trivial⟩
      refine wpF_look 0 (v := .agg #[.int .i64 O.dot.dev, .int .i64 O.dot.ep, .int .i64 O.dot.seq, .int .i64 O.coll, .int .i64 O.ver, .int .i64 O.kind, .string (str O.key), .string (str O.text), .int .i64 O.n, .int .i64 O.time, .slice a' O.dots.length c']) rfl rfl (by kernel_rfl) (by kernel_rfl) (by kernel_rfl) (by kernel_rfl) (fun _ _ _ h => h) hT0 (by rfl) (fun w hS => by have hS : Ext no w6 w := hS; have q0 := hS.keeps y0 (fun h => h); have q1 := hS.keeps y1 (fun h => h); have q2 := hS.keeps y2 (fun h => h); have q3 := hS.keeps y3 (fun h => h); have q4 := hS.keeps y4 (fun h => h); have q5 := hS.keeps y5 (fun h => h); have q6 := hS.keeps y6 (fun h => h); have q7 := hS.keeps y7 (fun h => h); have q8 := hS.keeps y8 (fun h => h); have q9 := hS.keeps y9 (fun h => h); have q10 := hS.keeps y10 (fun h => h); go_simp) ?_
      simp only [Act.put, List.setIfInBounds_toArray, List.set_cons_zero, List.set_cons_succ]
      refine wpF_look 2 (v := .agg #[.int .i64 O.dot.dev, .int .i64 O.dot.ep, .int .i64 O.dot.seq, .int .i64 O.coll, .int .i64 O.ver, .int .i64 O.kind, .string (str O.key), .string (str O.text), .int .i64 O.n, .int .i64 O.time, .slice a' O.dots.length c']) rfl rfl (by kernel_rfl) (by kernel_rfl) (by kernel_rfl) (by kernel_rfl) (fun _ _ _ h => h) hT0 (by rfl) (fun w hS => by have hS : Ext no w6 w := hS; have q0 := hS.keeps y0 (fun h => h); have q1 := hS.keeps y1 (fun h => h); have q2 := hS.keeps y2 (fun h => h); have q3 := hS.keeps y3 (fun h => h); have q4 := hS.keeps y4 (fun h => h); have q5 := hS.keeps y5 (fun h => h); have q6 := hS.keeps y6 (fun h => h); have q7 := hS.keeps y7 (fun h => h); have q8 := hS.keeps y8 (fun h => h); have q9 := hS.keeps y9 (fun h => h); have q10 := hS.keeps y10 (fun h => h); go_simp) ?_
      simp only [Act.put, List.setIfInBounds_toArray, List.set_cons_zero, List.set_cons_succ]
      refine wpF_exec 1 rfl (by kernel_rfl) (by rfl) ?_
      intro K hK
      go_simp
      refine (check_any (w6.drew) O a' c' (hr6.ext (Ext.drew no w6) (fun _ _ h => h)) hO1 hO2 hO3).mono ?_
      rintro e wm0 ⟨rfl, hx_wm0⟩
      have hT1 : ∀ k, looks [(0, fun z => Ext no w6 z), (2, fun z => Ext no w6 z)] k (wm0) := looks_all ⟨((Ext.drew no w6).comp hx_wm0), ((Ext.drew no w6).comp hx_wm0), trivial⟩
      refine hK _ _ (looks [(0, fun z => Ext no w6 z), (2, fun z => Ext no w6 z)]) ⟨.inr (.inl (by kernel_rfl)), .inr (.inr (fun x h => h)), trivial⟩ hT1 ?_
      clear hK K
      try simp only [Act.put, List.setIfInBounds_toArray, List.set_cons_zero, List.set_cons_succ]
      refine wpF_exec 3 rfl (by kernel_rfl) (by rfl) ?_
      intro K hK
      go_simp
      refine (refcheck_any (wm0) O a' c' (hr6.ext ((Ext.drew no w6).comp hx_wm0) (fun _ _ h => h)) hO1 hO2 hO3).mono ?_
      rintro e wm1 ⟨rfl, hx_wm1⟩
      have hT2 : ∀ k, looks [(0, fun z => Ext no w6 z), (2, fun z => Ext no w6 z)] k (wm1) := looks_all ⟨(((Ext.drew no w6).comp hx_wm0).comp hx_wm1), (((Ext.drew no w6).comp hx_wm0).comp hx_wm1), trivial⟩
      refine hK _ _ (looks [(0, fun z => Ext no w6 z), (2, fun z => Ext no w6 z)]) ⟨.inr (.inl (by kernel_rfl)), .inr (.inl (by kernel_rfl)), trivial⟩ hT2 ?_
      clear hK K
      try simp only [Act.put, List.setIfInBounds_toArray, List.set_cons_zero, List.set_cons_succ]
      refine wpF_take 4 (v := ?_) rfl (by kernel_rfl) (by kernel_rfl) (by kernel_rfl) (fun _ _ _ h => h) hT2 (by rfl) ?_ ?_
      rotate_left
      · (intro wq; go_simp; try with_reducible rfl)
      simp only [Act.put, List.setIfInBounds_toArray, List.set_cons_zero, List.set_cons_succ]
      refine wpF_take 5 (v := ?_) rfl (by kernel_rfl) (by kernel_rfl) (by kernel_rfl) (fun _ _ _ h => h) hT2 (by rfl) ?_ ?_
      rotate_left
      · (intro wq; go_simp; try with_reducible rfl)
      simp only [Act.put, List.setIfInBounds_toArray, List.set_cons_zero, List.set_cons_succ]
      refine wpF_done (by kernel_rfl) ?_ _
      go_wp2_with fail
      go_ret
      exact ⟨rfl, hx6.comp (((Ext.drew no w6).comp hx_wm0).comp hx_wm1)⟩
    · go_upto_region 31 with fail
      obtain ⟨O, hO⟩ : ∃ O : OpR, O = { G with ver := n } := ⟨_, rfl⟩
      have hg6 : Blk (w5.setCell ⟨g1, 4, none⟩ (.int .i64 n)) g1 (O.cells a' c') := by rw [hO]; exact hg5.set 4 (.int .i64 n) (by simp [OpR.cells])
      have hx6 := hx5.set1 hgg 4 (.int .i64 n)
      have hr6 : Rd (w5.setCell ⟨g1, 4, none⟩ (.int .i64 n)) a' (ds O.dots) := by rw [hO]; exact rd_aside hr5 hfr _ _
      have hO1 : O.dots.length ≤ 1099511627776 := by rw [hO]; show G.dots.length ≤ _; omega
      have hO2 : O.key.length ≤ maxLen := by rw [hO]; exact hG1.key
      have hO3 : O.text.length ≤ maxLen := by rw [hO]; exact hG1.text
      clear hO hg5 hb5 hr5 hrw5 hx5 d10 e0 f0 e1 f1 e2 f2 e3 f3 e4 f4 e5 f5 e6 f6 e7 f7 e8 f8 e9 f9 e10 f10
      generalize w5.setCell ⟨g1, 4, none⟩ (.int .i64 n) = w6 at *
      have y0 := hg6.cell 0 _ rfl
      have y1 := hg6.cell 1 _ rfl
      have y2 := hg6.cell 2 _ rfl
      have y3 := hg6.cell 3 _ rfl
      have y4 := hg6.cell 4 _ rfl
      have y5 := hg6.cell 5 _ rfl
      have y6 := hg6.cell 6 _ rfl
      have y7 := hg6.cell 7 _ rfl
      have y8 := hg6.cell 8 _ rfl
      have y9 := hg6.cell 9 _ rfl
      have y10 := hg6.cell 10 _ rfl
      refine wp_region_F [0, 2] (looks [(0, fun z => Ext no w6 z), (2, fun z => Ext no w6 z)]) (by kernel_rfl) ?_
      have hT0 : ∀ k, looks [(0, fun z => Ext no w6 z), (2, fun z => Ext no w6 z)] k (w6.drew) := looks_all ⟨(Ext.drew no w6), (Ext.drew no w6), trivial⟩
      refine wpF_look 0 (v := .agg #[.int .i64 O.dot.dev, .int .i64 O.dot.ep, .int .i64 O.dot.seq, .int .i64 O.coll, .int .i64 O.ver, .int .i64 O.kind, .string (str O.key), .string (str O.text), .int .i64 O.n, .int .i64 O.time, .slice a' O.dots.length c']) rfl rfl (by kernel_rfl) (by kernel_rfl) (by kernel_rfl) (by kernel_rfl) (fun _ _ _ h => h) hT0 (by rfl) (fun w hS => by have hS : Ext no w6 w := hS; have q0 := hS.keeps y0 (fun h => h); have q1 := hS.keeps y1 (fun h => h); have q2 := hS.keeps y2 (fun h => h); have q3 := hS.keeps y3 (fun h => h); have q4 := hS.keeps y4 (fun h => h); have q5 := hS.keeps y5 (fun h => h); have q6 := hS.keeps y6 (fun h => h); have q7 := hS.keeps y7 (fun h => h); have q8 := hS.keeps y8 (fun h => h); have q9 := hS.keeps y9 (fun h => h); have q10 := hS.keeps y10 (fun h => h); go_simp) ?_
      simp only [Act.put, List.setIfInBounds_toArray, List.set_cons_zero, List.set_cons_succ]
      refine wpF_look 2 (v := .agg #[.int .i64 O.dot.dev, .int .i64 O.dot.ep, .int .i64 O.dot.seq, .int .i64 O.coll, .int .i64 O.ver, .int .i64 O.kind, .string (str O.key), .string (str O.text), .int .i64 O.n, .int .i64 O.time, .slice a' O.dots.length c']) rfl rfl (by kernel_rfl) (by kernel_rfl) (by kernel_rfl) (by kernel_rfl) (fun _ _ _ h => h) hT0 (by rfl) (fun w hS => by have hS : Ext no w6 w := hS; have q0 := hS.keeps y0 (fun h => h); have q1 := hS.keeps y1 (fun h => h); have q2 := hS.keeps y2 (fun h => h); have q3 := hS.keeps y3 (fun h => h); have q4 := hS.keeps y4 (fun h => h); have q5 := hS.keeps y5 (fun h => h); have q6 := hS.keeps y6 (fun h => h); have q7 := hS.keeps y7 (fun h => h); have q8 := hS.keeps y8 (fun h => h); have q9 := hS.keeps y9 (fun h => h); have q10 := hS.keeps y10 (fun h => h); go_simp) ?_
      simp only [Act.put, List.setIfInBounds_toArray, List.set_cons_zero, List.set_cons_succ]
      refine wpF_exec 1 rfl (by kernel_rfl) (by rfl) ?_
      intro K hK
      go_simp
      refine (check_any (w6.drew) O a' c' (hr6.ext (Ext.drew no w6) (fun _ _ h => h)) hO1 hO2 hO3).mono ?_
      rintro e wm0 ⟨rfl, hx_wm0⟩
      have hT1 : ∀ k, looks [(0, fun z => Ext no w6 z), (2, fun z => Ext no w6 z)] k (wm0) := looks_all ⟨((Ext.drew no w6).comp hx_wm0), ((Ext.drew no w6).comp hx_wm0), trivial⟩
      refine hK _ _ (looks [(0, fun z => Ext no w6 z), (2, fun z => Ext no w6 z)]) ⟨.inr (.inl (by kernel_rfl)), .inr (.inr (fun x h => h)), trivial⟩ hT1 ?_
      clear hK K
      try simp only [Act.put, List.setIfInBounds_toArray, List.set_cons_zero, List.set_cons_succ]
      refine wpF_exec 3 rfl (by kernel_rfl) (by rfl) ?_
      intro K hK
      go_simp
      refine (refcheck_any (wm0) O a' c' (hr6.ext ((Ext.drew no w6).comp hx_wm0) (fun _ _ h => h)) hO1 hO2 hO3).mono ?_
      rintro e wm1 ⟨rfl, hx_wm1⟩
      have hT2 : ∀ k, looks [(0, fun z => Ext no w6 z), (2, fun z => Ext no w6 z)] k (wm1) := looks_all ⟨(((Ext.drew no w6).comp hx_wm0).comp hx_wm1), (((Ext.drew no w6).comp hx_wm0).comp hx_wm1), trivial⟩
      refine hK _ _ (looks [(0, fun z => Ext no w6 z), (2, fun z => Ext no w6 z)]) ⟨.inr (.inl (by kernel_rfl)), .inr (.inl (by kernel_rfl)), trivial⟩ hT2 ?_
      clear hK K
      try simp only [Act.put, List.setIfInBounds_toArray, List.set_cons_zero, List.set_cons_succ]
      refine wpF_take 4 (v := ?_) rfl (by kernel_rfl) (by kernel_rfl) (by kernel_rfl) (fun _ _ _ h => h) hT2 (by rfl) ?_ ?_
      rotate_left
      · (intro wq; go_simp; try with_reducible rfl)
      simp only [Act.put, List.setIfInBounds_toArray, List.set_cons_zero, List.set_cons_succ]
      refine wpF_take 5 (v := ?_) rfl (by kernel_rfl) (by kernel_rfl) (by kernel_rfl) (fun _ _ _ h => h) hT2 (by rfl) ?_ ?_
      rotate_left
      · (intro wq; go_simp; try with_reducible rfl)
      simp only [Act.put, List.setIfInBounds_toArray, List.set_cons_zero, List.set_cons_succ]
      refine wpF_done (by kernel_rfl) ?_ _
      go_wp2_with fail
      go_ret
      exact ⟨rfl, hx6.comp (((Ext.drew no w6).comp hx_wm0).comp hx_wm1)⟩
    · go_upto_region 31 with fail
      obtain ⟨O, hO⟩ : ∃ O : OpR, O = { G with kind := n } := ⟨_, rfl⟩
      have hg6 : Blk (w5.setCell ⟨g1, 5, none⟩ (.int .i64 n)) g1 (O.cells a' c') := by rw [hO]; exact hg5.set 5 (.int .i64 n) (by simp [OpR.cells])
      have hx6 := hx5.set1 hgg 5 (.int .i64 n)
      have hr6 : Rd (w5.setCell ⟨g1, 5, none⟩ (.int .i64 n)) a' (ds O.dots) := by rw [hO]; exact rd_aside hr5 hfr _ _
      have hO1 : O.dots.length ≤ 1099511627776 := by rw [hO]; show G.dots.length ≤ _; omega
      have hO2 : O.key.length ≤ maxLen := by rw [hO]; exact hG1.key
      have hO3 : O.text.length ≤ maxLen := by rw [hO]; exact hG1.text
      clear hO hg5 hb5 hr5 hrw5 hx5 d10 e0 f0 e1 f1 e2 f2 e3 f3 e4 f4 e5 f5 e6 f6 e7 f7 e8 f8 e9 f9 e10 f10
      generalize w5.setCell ⟨g1, 5, none⟩ (.int .i64 n) = w6 at *
      have y0 := hg6.cell 0 _ rfl
      have y1 := hg6.cell 1 _ rfl
      have y2 := hg6.cell 2 _ rfl
      have y3 := hg6.cell 3 _ rfl
      have y4 := hg6.cell 4 _ rfl
      have y5 := hg6.cell 5 _ rfl
      have y6 := hg6.cell 6 _ rfl
      have y7 := hg6.cell 7 _ rfl
      have y8 := hg6.cell 8 _ rfl
      have y9 := hg6.cell 9 _ rfl
      have y10 := hg6.cell 10 _ rfl
      refine wp_region_F [0, 2] (looks [(0, fun z => Ext no w6 z), (2, fun z => Ext no w6 z)]) (by kernel_rfl) ?_
      have hT0 : ∀ k, looks [(0, fun z => Ext no w6 z), (2, fun z => Ext no w6 z)] k (w6.drew) := looks_all ⟨(Ext.drew no w6), (Ext.drew no w6), trivial⟩
      refine wpF_look 0 (v := .agg #[.int .i64 O.dot.dev, .int .i64 O.dot.ep, .int .i64 O.dot.seq, .int .i64 O.coll, .int .i64 O.ver, .int .i64 O.kind, .string (str O.key), .string (str O.text), .int .i64 O.n, .int .i64 O.time, .slice a' O.dots.length c']) rfl rfl (by kernel_rfl) (by kernel_rfl) (by kernel_rfl) (by kernel_rfl) (fun _ _ _ h => h) hT0 (by rfl) (fun w hS => by have hS : Ext no w6 w := hS; have q0 := hS.keeps y0 (fun h => h); have q1 := hS.keeps y1 (fun h => h); have q2 := hS.keeps y2 (fun h => h); have q3 := hS.keeps y3 (fun h => h); have q4 := hS.keeps y4 (fun h => h); have q5 := hS.keeps y5 (fun h => h); have q6 := hS.keeps y6 (fun h => h); have q7 := hS.keeps y7 (fun h => h); have q8 := hS.keeps y8 (fun h => h); have q9 := hS.keeps y9 (fun h => h); have q10 := hS.keeps y10 (fun h => h); go_simp) ?_
      simp only [Act.put, List.setIfInBounds_toArray, List.set_cons_zero, List.set_cons_succ]
      refine wpF_look 2 (v := .agg #[.int .i64 O.dot.dev, .int .i64 O.dot.ep, .int .i64 O.dot.seq, .int .i64 O.coll, .int .i64 O.ver, .int .i64 O.kind, .string (str O.key), .string (str O.text), .int .i64 O.n, .int .i64 O.time, .slice a' O.dots.length c']) rfl rfl (by kernel_rfl) (by kernel_rfl) (by kernel_rfl) (by kernel_rfl) (fun _ _ _ h => h) hT0 (by rfl) (fun w hS => by have hS : Ext no w6 w := hS; have q0 := hS.keeps y0 (fun h => h); have q1 := hS.keeps y1 (fun h => h); have q2 := hS.keeps y2 (fun h => h); have q3 := hS.keeps y3 (fun h => h); have q4 := hS.keeps y4 (fun h => h); have q5 := hS.keeps y5 (fun h => h); have q6 := hS.keeps y6 (fun h => h); have q7 := hS.keeps y7 (fun h => h); have q8 := hS.keeps y8 (fun h => h); have q9 := hS.keeps y9 (fun h => h); have q10 := hS.keeps y10 (fun h => h); go_simp) ?_
      simp only [Act.put, List.setIfInBounds_toArray, List.set_cons_zero, List.set_cons_succ]
      refine wpF_exec 1 rfl (by kernel_rfl) (by rfl) ?_
      intro K hK
      go_simp
      refine (check_any (w6.drew) O a' c' (hr6.ext (Ext.drew no w6) (fun _ _ h => h)) hO1 hO2 hO3).mono ?_
      rintro e wm0 ⟨rfl, hx_wm0⟩
      have hT1 : ∀ k, looks [(0, fun z => Ext no w6 z), (2, fun z => Ext no w6 z)] k (wm0) := looks_all ⟨((Ext.drew no w6).comp hx_wm0), ((Ext.drew no w6).comp hx_wm0), trivial⟩
      refine hK _ _ (looks [(0, fun z => Ext no w6 z), (2, fun z => Ext no w6 z)]) ⟨.inr (.inl (by kernel_rfl)), .inr (.inr (fun x h => h)), trivial⟩ hT1 ?_
      clear hK K
      try simp only [Act.put, List.setIfInBounds_toArray, List.set_cons_zero, List.set_cons_succ]
      refine wpF_exec 3 rfl (by kernel_rfl) (by rfl) ?_
      intro K hK
      go_simp
      refine (refcheck_any (wm0) O a' c' (hr6.ext ((Ext.drew no w6).comp hx_wm0) (fun _ _ h => h)) hO1 hO2 hO3).mono ?_
      rintro e wm1 ⟨rfl, hx_wm1⟩
      have hT2 : ∀ k, looks [(0, fun z => Ext no w6 z), (2, fun z => Ext no w6 z)] k (wm1) := looks_all ⟨(((Ext.drew no w6).comp hx_wm0).comp hx_wm1), (((Ext.drew no w6).comp hx_wm0).comp hx_wm1), trivial⟩
      refine hK _ _ (looks [(0, fun z => Ext no w6 z), (2, fun z => Ext no w6 z)]) ⟨.inr (.inl (by kernel_rfl)), .inr (.inl (by kernel_rfl)), trivial⟩ hT2 ?_
      clear hK K
      try simp only [Act.put, List.setIfInBounds_toArray, List.set_cons_zero, List.set_cons_succ]
      refine wpF_take 4 (v := ?_) rfl (by kernel_rfl) (by kernel_rfl) (by kernel_rfl) (fun _ _ _ h => h) hT2 (by rfl) ?_ ?_
      rotate_left
      · (intro wq; go_simp; try with_reducible rfl)
      simp only [Act.put, List.setIfInBounds_toArray, List.set_cons_zero, List.set_cons_succ]
      refine wpF_take 5 (v := ?_) rfl (by kernel_rfl) (by kernel_rfl) (by kernel_rfl) (fun _ _ _ h => h) hT2 (by rfl) ?_ ?_
      rotate_left
      · (intro wq; go_simp; try with_reducible rfl)
      simp only [Act.put, List.setIfInBounds_toArray, List.set_cons_zero, List.set_cons_succ]
      refine wpF_done (by kernel_rfl) ?_ _
      go_wp2_with fail
      go_ret
      exact ⟨rfl, hx6.comp (((Ext.drew no w6).comp hx_wm0).comp hx_wm1)⟩
    · go_upto_region 31 with fail
      obtain ⟨O, hO⟩ : ∃ O : OpR, O = { G with time := n } := ⟨_, rfl⟩
      have hg6 : Blk (w5.setCell ⟨g1, 9, none⟩ (.int .i64 n)) g1 (O.cells a' c') := by rw [hO]; exact hg5.set 9 (.int .i64 n) (by simp [OpR.cells])
      have hx6 := hx5.set1 hgg 9 (.int .i64 n)
      have hr6 : Rd (w5.setCell ⟨g1, 9, none⟩ (.int .i64 n)) a' (ds O.dots) := by rw [hO]; exact rd_aside hr5 hfr _ _
      have hO1 : O.dots.length ≤ 1099511627776 := by rw [hO]; show G.dots.length ≤ _; omega
      have hO2 : O.key.length ≤ maxLen := by rw [hO]; exact hG1.key
      have hO3 : O.text.length ≤ maxLen := by rw [hO]; exact hG1.text
      clear hO hg5 hb5 hr5 hrw5 hx5 d10 e0 f0 e1 f1 e2 f2 e3 f3 e4 f4 e5 f5 e6 f6 e7 f7 e8 f8 e9 f9 e10 f10
      generalize w5.setCell ⟨g1, 9, none⟩ (.int .i64 n) = w6 at *
      have y0 := hg6.cell 0 _ rfl
      have y1 := hg6.cell 1 _ rfl
      have y2 := hg6.cell 2 _ rfl
      have y3 := hg6.cell 3 _ rfl
      have y4 := hg6.cell 4 _ rfl
      have y5 := hg6.cell 5 _ rfl
      have y6 := hg6.cell 6 _ rfl
      have y7 := hg6.cell 7 _ rfl
      have y8 := hg6.cell 8 _ rfl
      have y9 := hg6.cell 9 _ rfl
      have y10 := hg6.cell 10 _ rfl
      refine wp_region_F [0, 2] (looks [(0, fun z => Ext no w6 z), (2, fun z => Ext no w6 z)]) (by kernel_rfl) ?_
      have hT0 : ∀ k, looks [(0, fun z => Ext no w6 z), (2, fun z => Ext no w6 z)] k (w6.drew) := looks_all ⟨(Ext.drew no w6), (Ext.drew no w6), trivial⟩
      refine wpF_look 0 (v := .agg #[.int .i64 O.dot.dev, .int .i64 O.dot.ep, .int .i64 O.dot.seq, .int .i64 O.coll, .int .i64 O.ver, .int .i64 O.kind, .string (str O.key), .string (str O.text), .int .i64 O.n, .int .i64 O.time, .slice a' O.dots.length c']) rfl rfl (by kernel_rfl) (by kernel_rfl) (by kernel_rfl) (by kernel_rfl) (fun _ _ _ h => h) hT0 (by rfl) (fun w hS => by have hS : Ext no w6 w := hS; have q0 := hS.keeps y0 (fun h => h); have q1 := hS.keeps y1 (fun h => h); have q2 := hS.keeps y2 (fun h => h); have q3 := hS.keeps y3 (fun h => h); have q4 := hS.keeps y4 (fun h => h); have q5 := hS.keeps y5 (fun h => h); have q6 := hS.keeps y6 (fun h => h); have q7 := hS.keeps y7 (fun h => h); have q8 := hS.keeps y8 (fun h => h); have q9 := hS.keeps y9 (fun h => h); have q10 := hS.keeps y10 (fun h => h); go_simp) ?_
      simp only [Act.put, List.setIfInBounds_toArray, List.set_cons_zero, List.set_cons_succ]
      refine wpF_look 2 (v := .agg #[.int .i64 O.dot.dev, .int .i64 O.dot.ep, .int .i64 O.dot.seq, .int .i64 O.coll, .int .i64 O.ver, .int .i64 O.kind, .string (str O.key), .string (str O.text), .int .i64 O.n, .int .i64 O.time, .slice a' O.dots.length c']) rfl rfl (by kernel_rfl) (by kernel_rfl) (by kernel_rfl) (by kernel_rfl) (fun _ _ _ h => h) hT0 (by rfl) (fun w hS => by have hS : Ext no w6 w := hS; have q0 := hS.keeps y0 (fun h => h); have q1 := hS.keeps y1 (fun h => h); have q2 := hS.keeps y2 (fun h => h); have q3 := hS.keeps y3 (fun h => h); have q4 := hS.keeps y4 (fun h => h); have q5 := hS.keeps y5 (fun h => h); have q6 := hS.keeps y6 (fun h => h); have q7 := hS.keeps y7 (fun h => h); have q8 := hS.keeps y8 (fun h => h); have q9 := hS.keeps y9 (fun h => h); have q10 := hS.keeps y10 (fun h => h); go_simp) ?_
      simp only [Act.put, List.setIfInBounds_toArray, List.set_cons_zero, List.set_cons_succ]
      refine wpF_exec 1 rfl (by kernel_rfl) (by rfl) ?_
      intro K hK
      go_simp
      refine (check_any (w6.drew) O a' c' (hr6.ext (Ext.drew no w6) (fun _ _ h => h)) hO1 hO2 hO3).mono ?_
      rintro e wm0 ⟨rfl, hx_wm0⟩
      have hT1 : ∀ k, looks [(0, fun z => Ext no w6 z), (2, fun z => Ext no w6 z)] k (wm0) := looks_all ⟨((Ext.drew no w6).comp hx_wm0), ((Ext.drew no w6).comp hx_wm0), trivial⟩
      refine hK _ _ (looks [(0, fun z => Ext no w6 z), (2, fun z => Ext no w6 z)]) ⟨.inr (.inl (by kernel_rfl)), .inr (.inr (fun x h => h)), trivial⟩ hT1 ?_
      clear hK K
      try simp only [Act.put, List.setIfInBounds_toArray, List.set_cons_zero, List.set_cons_succ]
      refine wpF_exec 3 rfl (by kernel_rfl) (by rfl) ?_
      intro K hK
      go_simp
      refine (refcheck_any (wm0) O a' c' (hr6.ext ((Ext.drew no w6).comp hx_wm0) (fun _ _ h => h)) hO1 hO2 hO3).mono ?_
      rintro e wm1 ⟨rfl, hx_wm1⟩
      have hT2 : ∀ k, looks [(0, fun z => Ext no w6 z), (2, fun z => Ext no w6 z)] k (wm1) := looks_all ⟨(((Ext.drew no w6).comp hx_wm0).comp hx_wm1), (((Ext.drew no w6).comp hx_wm0).comp hx_wm1), trivial⟩
      refine hK _ _ (looks [(0, fun z => Ext no w6 z), (2, fun z => Ext no w6 z)]) ⟨.inr (.inl (by kernel_rfl)), .inr (.inl (by kernel_rfl)), trivial⟩ hT2 ?_
      clear hK K
      try simp only [Act.put, List.setIfInBounds_toArray, List.set_cons_zero, List.set_cons_succ]
      refine wpF_take 4 (v := ?_) rfl (by kernel_rfl) (by kernel_rfl) (by kernel_rfl) (fun _ _ _ h => h) hT2 (by rfl) ?_ ?_
      rotate_left
      · (intro wq; go_simp; try with_reducible rfl)
      simp only [Act.put, List.setIfInBounds_toArray, List.set_cons_zero, List.set_cons_succ]
      refine wpF_take 5 (v := ?_) rfl (by kernel_rfl) (by kernel_rfl) (by kernel_rfl) (fun _ _ _ h => h) hT2 (by rfl) ?_ ?_
      rotate_left
      · (intro wq; go_simp; try with_reducible rfl)
      simp only [Act.put, List.setIfInBounds_toArray, List.set_cons_zero, List.set_cons_succ]
      refine wpF_done (by kernel_rfl) ?_ _
      go_wp2_with fail
      go_ret
      exact ⟨rfl, hx6.comp (((Ext.drew no w6).comp hx_wm0).comp hx_wm1)⟩
    · go_upto_region 31 with fail
      obtain ⟨O, hO⟩ : ∃ O : OpR, O = { G with key := s } := ⟨_, rfl⟩
      have hg6 : Blk (w5.setCell ⟨g1, 6, none⟩ (.string (str s))) g1 (O.cells a' c') := by rw [hO]; exact hg5.set 6 (.string (str s)) (by simp [OpR.cells])
      have hx6 := hx5.set1 hgg 6 (.string (str s))
      have hr6 : Rd (w5.setCell ⟨g1, 6, none⟩ (.string (str s))) a' (ds O.dots) := by rw [hO]; exact rd_aside hr5 hfr _ _
      have hO1 : O.dots.length ≤ 1099511627776 := by rw [hO]; show G.dots.length ≤ _; omega
      have hO2 : O.key.length ≤ maxLen := by rw [hO]; exact hs
      have hO3 : O.text.length ≤ maxLen := by rw [hO]; exact hG1.text
      clear hO hg5 hb5 hr5 hrw5 hx5 d10 e0 f0 e1 f1 e2 f2 e3 f3 e4 f4 e5 f5 e6 f6 e7 f7 e8 f8 e9 f9 e10 f10
      generalize w5.setCell ⟨g1, 6, none⟩ (.string (str s)) = w6 at *
      have y0 := hg6.cell 0 _ rfl
      have y1 := hg6.cell 1 _ rfl
      have y2 := hg6.cell 2 _ rfl
      have y3 := hg6.cell 3 _ rfl
      have y4 := hg6.cell 4 _ rfl
      have y5 := hg6.cell 5 _ rfl
      have y6 := hg6.cell 6 _ rfl
      have y7 := hg6.cell 7 _ rfl
      have y8 := hg6.cell 8 _ rfl
      have y9 := hg6.cell 9 _ rfl
      have y10 := hg6.cell 10 _ rfl
      refine wp_region_F [0, 2] (looks [(0, fun z => Ext no w6 z), (2, fun z => Ext no w6 z)]) (by kernel_rfl) ?_
      have hT0 : ∀ k, looks [(0, fun z => Ext no w6 z), (2, fun z => Ext no w6 z)] k (w6.drew) := looks_all ⟨(Ext.drew no w6), (Ext.drew no w6), trivial⟩
      refine wpF_look 0 (v := .agg #[.int .i64 O.dot.dev, .int .i64 O.dot.ep, .int .i64 O.dot.seq, .int .i64 O.coll, .int .i64 O.ver, .int .i64 O.kind, .string (str O.key), .string (str O.text), .int .i64 O.n, .int .i64 O.time, .slice a' O.dots.length c']) rfl rfl (by kernel_rfl) (by kernel_rfl) (by kernel_rfl) (by kernel_rfl) (fun _ _ _ h => h) hT0 (by rfl) (fun w hS => by have hS : Ext no w6 w := hS; have q0 := hS.keeps y0 (fun h => h); have q1 := hS.keeps y1 (fun h => h); have q2 := hS.keeps y2 (fun h => h); have q3 := hS.keeps y3 (fun h => h); have q4 := hS.keeps y4 (fun h => h); have q5 := hS.keeps y5 (fun h => h); have q6 := hS.keeps y6 (fun h => h); have q7 := hS.keeps y7 (fun h => h); have q8 := hS.keeps y8 (fun h => h); have q9 := hS.keeps y9 (fun h => h); have q10 := hS.keeps y10 (fun h => h); go_simp) ?_
      simp only [Act.put, List.setIfInBounds_toArray, List.set_cons_zero, List.set_cons_succ]
      refine wpF_look 2 (v := .agg #[.int .i64 O.dot.dev, .int .i64 O.dot.ep, .int .i64 O.dot.seq, .int .i64 O.coll, .int .i64 O.ver, .int .i64 O.kind, .string (str O.key), .string (str O.text), .int .i64 O.n, .int .i64 O.time, .slice a' O.dots.length c']) rfl rfl (by kernel_rfl) (by kernel_rfl) (by kernel_rfl) (by kernel_rfl) (fun _ _ _ h => h) hT0 (by rfl) (fun w hS => by have hS : Ext no w6 w := hS; have q0 := hS.keeps y0 (fun h => h); have q1 := hS.keeps y1 (fun h => h); have q2 := hS.keeps y2 (fun h => h); have q3 := hS.keeps y3 (fun h => h); have q4 := hS.keeps y4 (fun h => h); have q5 := hS.keeps y5 (fun h => h); have q6 := hS.keeps y6 (fun h => h); have q7 := hS.keeps y7 (fun h => h); have q8 := hS.keeps y8 (fun h => h); have q9 := hS.keeps y9 (fun h => h); have q10 := hS.keeps y10 (fun h => h); go_simp) ?_
      simp only [Act.put, List.setIfInBounds_toArray, List.set_cons_zero, List.set_cons_succ]
      refine wpF_exec 1 rfl (by kernel_rfl) (by rfl) ?_
      intro K hK
      go_simp
      refine (check_any (w6.drew) O a' c' (hr6.ext (Ext.drew no w6) (fun _ _ h => h)) hO1 hO2 hO3).mono ?_
      rintro e wm0 ⟨rfl, hx_wm0⟩
      have hT1 : ∀ k, looks [(0, fun z => Ext no w6 z), (2, fun z => Ext no w6 z)] k (wm0) := looks_all ⟨((Ext.drew no w6).comp hx_wm0), ((Ext.drew no w6).comp hx_wm0), trivial⟩
      refine hK _ _ (looks [(0, fun z => Ext no w6 z), (2, fun z => Ext no w6 z)]) ⟨.inr (.inl (by kernel_rfl)), .inr (.inr (fun x h => h)), trivial⟩ hT1 ?_
      clear hK K
      try simp only [Act.put, List.setIfInBounds_toArray, List.set_cons_zero, List.set_cons_succ]
      refine wpF_exec 3 rfl (by kernel_rfl) (by rfl) ?_
      intro K hK
      go_simp
      refine (refcheck_any (wm0) O a' c' (hr6.ext ((Ext.drew no w6).comp hx_wm0) (fun _ _ h => h)) hO1 hO2 hO3).mono ?_
      rintro e wm1 ⟨rfl, hx_wm1⟩
      have hT2 : ∀ k, looks [(0, fun z => Ext no w6 z), (2, fun z => Ext no w6 z)] k (wm1) := looks_all ⟨(((Ext.drew no w6).comp hx_wm0).comp hx_wm1), (((Ext.drew no w6).comp hx_wm0).comp hx_wm1), trivial⟩
      refine hK _ _ (looks [(0, fun z => Ext no w6 z), (2, fun z => Ext no w6 z)]) ⟨.inr (.inl (by kernel_rfl)), .inr (.inl (by kernel_rfl)), trivial⟩ hT2 ?_
      clear hK K
      try simp only [Act.put, List.setIfInBounds_toArray, List.set_cons_zero, List.set_cons_succ]
      refine wpF_take 4 (v := ?_) rfl (by kernel_rfl) (by kernel_rfl) (by kernel_rfl) (fun _ _ _ h => h) hT2 (by rfl) ?_ ?_
      rotate_left
      · (intro wq; go_simp; try with_reducible rfl)
      simp only [Act.put, List.setIfInBounds_toArray, List.set_cons_zero, List.set_cons_succ]
      refine wpF_take 5 (v := ?_) rfl (by kernel_rfl) (by kernel_rfl) (by kernel_rfl) (fun _ _ _ h => h) hT2 (by rfl) ?_ ?_
      rotate_left
      · (intro wq; go_simp; try with_reducible rfl)
      simp only [Act.put, List.setIfInBounds_toArray, List.set_cons_zero, List.set_cons_succ]
      refine wpF_done (by kernel_rfl) ?_ _
      go_wp2_with fail
      go_ret
      exact ⟨rfl, hx6.comp (((Ext.drew no w6).comp hx_wm0).comp hx_wm1)⟩
    · go_upto_region 31 with fail
      obtain ⟨O, hO⟩ : ∃ O : OpR, O = { G with text := s } := ⟨_, rfl⟩
      have hg6 : Blk (w5.setCell ⟨g1, 7, none⟩ (.string (str s))) g1 (O.cells a' c') := by rw [hO]; exact hg5.set 7 (.string (str s)) (by simp [OpR.cells])
      have hx6 := hx5.set1 hgg 7 (.string (str s))
      have hr6 : Rd (w5.setCell ⟨g1, 7, none⟩ (.string (str s))) a' (ds O.dots) := by rw [hO]; exact rd_aside hr5 hfr _ _
      have hO1 : O.dots.length ≤ 1099511627776 := by rw [hO]; show G.dots.length ≤ _; omega
      have hO2 : O.key.length ≤ maxLen := by rw [hO]; exact hG1.key
      have hO3 : O.text.length ≤ maxLen := by rw [hO]; exact hs
      clear hO hg5 hb5 hr5 hrw5 hx5 d10 e0 f0 e1 f1 e2 f2 e3 f3 e4 f4 e5 f5 e6 f6 e7 f7 e8 f8 e9 f9 e10 f10
      generalize w5.setCell ⟨g1, 7, none⟩ (.string (str s)) = w6 at *
      have y0 := hg6.cell 0 _ rfl
      have y1 := hg6.cell 1 _ rfl
      have y2 := hg6.cell 2 _ rfl
      have y3 := hg6.cell 3 _ rfl
      have y4 := hg6.cell 4 _ rfl
      have y5 := hg6.cell 5 _ rfl
      have y6 := hg6.cell 6 _ rfl
      have y7 := hg6.cell 7 _ rfl
      have y8 := hg6.cell 8 _ rfl
      have y9 := hg6.cell 9 _ rfl
      have y10 := hg6.cell 10 _ rfl
      refine wp_region_F [0, 2] (looks [(0, fun z => Ext no w6 z), (2, fun z => Ext no w6 z)]) (by kernel_rfl) ?_
      have hT0 : ∀ k, looks [(0, fun z => Ext no w6 z), (2, fun z => Ext no w6 z)] k (w6.drew) := looks_all ⟨(Ext.drew no w6), (Ext.drew no w6), trivial⟩
      refine wpF_look 0 (v := .agg #[.int .i64 O.dot.dev, .int .i64 O.dot.ep, .int .i64 O.dot.seq, .int .i64 O.coll, .int .i64 O.ver, .int .i64 O.kind, .string (str O.key), .string (str O.text), .int .i64 O.n, .int .i64 O.time, .slice a' O.dots.length c']) rfl rfl (by kernel_rfl) (by kernel_rfl) (by kernel_rfl) (by kernel_rfl) (fun _ _ _ h => h) hT0 (by rfl) (fun w hS => by have hS : Ext no w6 w := hS; have q0 := hS.keeps y0 (fun h => h); have q1 := hS.keeps y1 (fun h => h); have q2 := hS.keeps y2 (fun h => h); have q3 := hS.keeps y3 (fun h => h); have q4 := hS.keeps y4 (fun h => h); have q5 := hS.keeps y5 (fun h => h); have q6 := hS.keeps y6 (fun h => h); have q7 := hS.keeps y7 (fun h => h); have q8 := hS.keeps y8 (fun h => h); have q9 := hS.keeps y9 (fun h => h); have q10 := hS.keeps y10 (fun h => h); go_simp) ?_
      simp only [Act.put, List.setIfInBounds_toArray, List.set_cons_zero, List.set_cons_succ]
      refine wpF_look 2 (v := .agg #[.int .i64 O.dot.dev, .int .i64 O.dot.ep, .int .i64 O.dot.seq, .int .i64 O.coll, .int .i64 O.ver, .int .i64 O.kind, .string (str O.key), .string (str O.text), .int .i64 O.n, .int .i64 O.time, .slice a' O.dots.length c']) rfl rfl (by kernel_rfl) (by kernel_rfl) (by kernel_rfl) (by kernel_rfl) (fun _ _ _ h => h) hT0 (by rfl) (fun w hS => by have hS : Ext no w6 w := hS; have q0 := hS.keeps y0 (fun h => h); have q1 := hS.keeps y1 (fun h => h); have q2 := hS.keeps y2 (fun h => h); have q3 := hS.keeps y3 (fun h => h); have q4 := hS.keeps y4 (fun h => h); have q5 := hS.keeps y5 (fun h => h); have q6 := hS.keeps y6 (fun h => h); have q7 := hS.keeps y7 (fun h => h); have q8 := hS.keeps y8 (fun h => h); have q9 := hS.keeps y9 (fun h => h); have q10 := hS.keeps y10 (fun h => h); go_simp) ?_
      simp only [Act.put, List.setIfInBounds_toArray, List.set_cons_zero, List.set_cons_succ]
      refine wpF_exec 1 rfl (by kernel_rfl) (by rfl) ?_
      intro K hK
      go_simp
      refine (check_any (w6.drew) O a' c' (hr6.ext (Ext.drew no w6) (fun _ _ h => h)) hO1 hO2 hO3).mono ?_
      rintro e wm0 ⟨rfl, hx_wm0⟩
      have hT1 : ∀ k, looks [(0, fun z => Ext no w6 z), (2, fun z => Ext no w6 z)] k (wm0) := looks_all ⟨((Ext.drew no w6).comp hx_wm0), ((Ext.drew no w6).comp hx_wm0), trivial⟩
      refine hK _ _ (looks [(0, fun z => Ext no w6 z), (2, fun z => Ext no w6 z)]) ⟨.inr (.inl (by kernel_rfl)), .inr (.inr (fun x h => h)), trivial⟩ hT1 ?_
      clear hK K
      try simp only [Act.put, List.setIfInBounds_toArray, List.set_cons_zero, List.set_cons_succ]
      refine wpF_exec 3 rfl (by kernel_rfl) (by rfl) ?_
      intro K hK
      go_simp
      refine (refcheck_any (wm0) O a' c' (hr6.ext ((Ext.drew no w6).comp hx_wm0) (fun _ _ h => h)) hO1 hO2 hO3).mono ?_
      rintro e wm1 ⟨rfl, hx_wm1⟩
      have hT2 : ∀ k, looks [(0, fun z => Ext no w6 z), (2, fun z => Ext no w6 z)] k (wm1) := looks_all ⟨(((Ext.drew no w6).comp hx_wm0).comp hx_wm1), (((Ext.drew no w6).comp hx_wm0).comp hx_wm1), trivial⟩
      refine hK _ _ (looks [(0, fun z => Ext no w6 z), (2, fun z => Ext no w6 z)]) ⟨.inr (.inl (by kernel_rfl)), .inr (.inl (by kernel_rfl)), trivial⟩ hT2 ?_
      clear hK K
      try simp only [Act.put, List.setIfInBounds_toArray, List.set_cons_zero, List.set_cons_succ]
      refine wpF_take 4 (v := ?_) rfl (by kernel_rfl) (by kernel_rfl) (by kernel_rfl) (fun _ _ _ h => h) hT2 (by rfl) ?_ ?_
      rotate_left
      · (intro wq; go_simp; try with_reducible rfl)
      simp only [Act.put, List.setIfInBounds_toArray, List.set_cons_zero, List.set_cons_succ]
      refine wpF_take 5 (v := ?_) rfl (by kernel_rfl) (by kernel_rfl) (by kernel_rfl) (fun _ _ _ h => h) hT2 (by rfl) ?_ ?_
      rotate_left
      · (intro wq; go_simp; try with_reducible rfl)
      simp only [Act.put, List.setIfInBounds_toArray, List.set_cons_zero, List.set_cons_succ]
      refine wpF_done (by kernel_rfl) ?_ _
      go_wp2_with fail
      go_ret
      exact ⟨rfl, hx6.comp (((Ext.drew no w6).comp hx_wm0).comp hx_wm1)⟩
    · go_upto_region 31 with fail
      obtain ⟨O, hO⟩ : ∃ O : OpR, O = { G with n := n } := ⟨_, rfl⟩
      have hg6 : Blk (w5.setCell ⟨g1, 8, none⟩ (.int .i64 n)) g1 (O.cells a' c') := by rw [hO]; exact hg5.set 8 (.int .i64 n) (by simp [OpR.cells])
      have hx6 := hx5.set1 hgg 8 (.int .i64 n)
      have hr6 : Rd (w5.setCell ⟨g1, 8, none⟩ (.int .i64 n)) a' (ds O.dots) := by rw [hO]; exact rd_aside hr5 hfr _ _
      have hO1 : O.dots.length ≤ 1099511627776 := by rw [hO]; show G.dots.length ≤ _; omega
      have hO2 : O.key.length ≤ maxLen := by rw [hO]; exact hG1.key
      have hO3 : O.text.length ≤ maxLen := by rw [hO]; exact hG1.text
      clear hO hg5 hb5 hr5 hrw5 hx5 d10 e0 f0 e1 f1 e2 f2 e3 f3 e4 f4 e5 f5 e6 f6 e7 f7 e8 f8 e9 f9 e10 f10
      generalize w5.setCell ⟨g1, 8, none⟩ (.int .i64 n) = w6 at *
      have y0 := hg6.cell 0 _ rfl
      have y1 := hg6.cell 1 _ rfl
      have y2 := hg6.cell 2 _ rfl
      have y3 := hg6.cell 3 _ rfl
      have y4 := hg6.cell 4 _ rfl
      have y5 := hg6.cell 5 _ rfl
      have y6 := hg6.cell 6 _ rfl
      have y7 := hg6.cell 7 _ rfl
      have y8 := hg6.cell 8 _ rfl
      have y9 := hg6.cell 9 _ rfl
      have y10 := hg6.cell 10 _ rfl
      refine wp_region_F [0, 2] (looks [(0, fun z => Ext no w6 z), (2, fun z => Ext no w6 z)]) (by kernel_rfl) ?_
      have hT0 : ∀ k, looks [(0, fun z => Ext no w6 z), (2, fun z => Ext no w6 z)] k (w6.drew) := looks_all ⟨(Ext.drew no w6), (Ext.drew no w6), trivial⟩
      refine wpF_look 0 (v := .agg #[.int .i64 O.dot.dev, .int .i64 O.dot.ep, .int .i64 O.dot.seq, .int .i64 O.coll, .int .i64 O.ver, .int .i64 O.kind, .string (str O.key), .string (str O.text), .int .i64 O.n, .int .i64 O.time, .slice a' O.dots.length c']) rfl rfl (by kernel_rfl) (by kernel_rfl) (by kernel_rfl) (by kernel_rfl) (fun _ _ _ h => h) hT0 (by rfl) (fun w hS => by have hS : Ext no w6 w := hS; have q0 := hS.keeps y0 (fun h => h); have q1 := hS.keeps y1 (fun h => h); have q2 := hS.keeps y2 (fun h => h); have q3 := hS.keeps y3 (fun h => h); have q4 := hS.keeps y4 (fun h => h); have q5 := hS.keeps y5 (fun h => h); have q6 := hS.keeps y6 (fun h => h); have q7 := hS.keeps y7 (fun h => h); have q8 := hS.keeps y8 (fun h => h); have q9 := hS.keeps y9 (fun h => h); have q10 := hS.keeps y10 (fun h => h); go_simp) ?_
      simp only [Act.put, List.setIfInBounds_toArray, List.set_cons_zero, List.set_cons_succ]
      refine wpF_look 2 (v := .agg #[.int .i64 O.dot.dev, .int .i64 O.dot.ep, .int .i64 O.dot.seq, .int .i64 O.coll, .int .i64 O.ver, .int .i64 O.kind, .string (str O.key), .string (str O.text), .int .i64 O.n, .int .i64 O.time, .slice a' O.dots.length c']) rfl rfl (by kernel_rfl) (by kernel_rfl) (by kernel_rfl) (by kernel_rfl) (fun _ _ _ h => h) hT0 (by rfl) (fun w hS => by have hS : Ext no w6 w := hS; have q0 := hS.keeps y0 (fun h => h); have q1 := hS.keeps y1 (fun h => h); have q2 := hS.keeps y2 (fun h => h); have q3 := hS.keeps y3 (fun h => h); have q4 := hS.keeps y4 (fun h => h); have q5 := hS.keeps y5 (fun h => h); have q6 := hS.keeps y6 (fun h => h); have q7 := hS.keeps y7 (fun h => h); have q8 := hS.keeps y8 (fun h => h); have q9 := hS.keeps y9 (fun h => h); have q10 := hS.keeps y10 (fun h => h); go_simp) ?_
      simp only [Act.put, List.setIfInBounds_toArray, List.set_cons_zero, List.set_cons_succ]
      refine wpF_exec 1 rfl (by kernel_rfl) (by rfl) ?_
      intro K hK
      go_simp
      refine (check_any (w6.drew) O a' c' (hr6.ext (Ext.drew no w6) (fun _ _ h => h)) hO1 hO2 hO3).mono ?_
      rintro e wm0 ⟨rfl, hx_wm0⟩
      have hT1 : ∀ k, looks [(0, fun z => Ext no w6 z), (2, fun z => Ext no w6 z)] k (wm0) := looks_all ⟨((Ext.drew no w6).comp hx_wm0), ((Ext.drew no w6).comp hx_wm0), trivial⟩
      refine hK _ _ (looks [(0, fun z => Ext no w6 z), (2, fun z => Ext no w6 z)]) ⟨.inr (.inl (by kernel_rfl)), .inr (.inr (fun x h => h)), trivial⟩ hT1 ?_
      clear hK K
      try simp only [Act.put, List.setIfInBounds_toArray, List.set_cons_zero, List.set_cons_succ]
      refine wpF_exec 3 rfl (by kernel_rfl) (by rfl) ?_
      intro K hK
      go_simp
      refine (refcheck_any (wm0) O a' c' (hr6.ext ((Ext.drew no w6).comp hx_wm0) (fun _ _ h => h)) hO1 hO2 hO3).mono ?_
      rintro e wm1 ⟨rfl, hx_wm1⟩
      have hT2 : ∀ k, looks [(0, fun z => Ext no w6 z), (2, fun z => Ext no w6 z)] k (wm1) := looks_all ⟨(((Ext.drew no w6).comp hx_wm0).comp hx_wm1), (((Ext.drew no w6).comp hx_wm0).comp hx_wm1), trivial⟩
      refine hK _ _ (looks [(0, fun z => Ext no w6 z), (2, fun z => Ext no w6 z)]) ⟨.inr (.inl (by kernel_rfl)), .inr (.inl (by kernel_rfl)), trivial⟩ hT2 ?_
      clear hK K
      try simp only [Act.put, List.setIfInBounds_toArray, List.set_cons_zero, List.set_cons_succ]
      refine wpF_take 4 (v := ?_) rfl (by kernel_rfl) (by kernel_rfl) (by kernel_rfl) (fun _ _ _ h => h) hT2 (by rfl) ?_ ?_
      rotate_left
      · (intro wq; go_simp; try with_reducible rfl)
      simp only [Act.put, List.setIfInBounds_toArray, List.set_cons_zero, List.set_cons_succ]
      refine wpF_take 5 (v := ?_) rfl (by kernel_rfl) (by kernel_rfl) (by kernel_rfl) (fun _ _ _ h => h) hT2 (by rfl) ?_ ?_
      rotate_left
      · (intro wq; go_simp; try with_reducible rfl)
      simp only [Act.put, List.setIfInBounds_toArray, List.set_cons_zero, List.set_cons_succ]
      refine wpF_done (by kernel_rfl) ?_ _
      go_wp2_with fail
      go_ret
      exact ⟨rfl, hx6.comp (((Ext.drew no w6).comp hx_wm0).comp hx_wm1)⟩
    · go_upto_region 31 with fail
      obtain ⟨O, hO⟩ : ∃ O : OpR, O = { G with dots := o.dots } := ⟨_, rfl⟩
      have hg6 : Blk (w5.setCell ⟨g1, 10, none⟩ (.slice a o.dots.length c)) g1 (O.cells a c) := by rw [hO]; exact hg5.set 10 (.slice a o.dots.length c) (by simp [OpR.cells])
      have hx6 := hx5.set1 hgg 10 (.slice a o.dots.length c)
      have hr6 : Rd (w5.setCell ⟨g1, 10, none⟩ (.slice a o.dots.length c)) a (ds O.dots) := by rw [hO]; exact hrw.ext hx6 (fun _ _ h => h)
      have hO1 : O.dots.length ≤ 1099511627776 := by rw [hO]; show o.dots.length ≤ _; omega
      have hO2 : O.key.length ≤ maxLen := by rw [hO]; exact hG1.key
      have hO3 : O.text.length ≤ maxLen := by rw [hO]; exact hG1.text
      clear hO hg5 hb5 hr5 hrw5 hx5 d10 e0 f0 e1 f1 e2 f2 e3 f3 e4 f4 e5 f5 e6 f6 e7 f7 e8 f8 e9 f9 e10 f10
      generalize w5.setCell ⟨g1, 10, none⟩ (.slice a o.dots.length c) = w6 at *
      have y0 := hg6.cell 0 _ rfl
      have y1 := hg6.cell 1 _ rfl
      have y2 := hg6.cell 2 _ rfl
      have y3 := hg6.cell 3 _ rfl
      have y4 := hg6.cell 4 _ rfl
      have y5 := hg6.cell 5 _ rfl
      have y6 := hg6.cell 6 _ rfl
      have y7 := hg6.cell 7 _ rfl
      have y8 := hg6.cell 8 _ rfl
      have y9 := hg6.cell 9 _ rfl
      have y10 := hg6.cell 10 _ rfl
      refine wp_region_F [0, 2] (looks [(0, fun z => Ext no w6 z), (2, fun z => Ext no w6 z)]) (by kernel_rfl) ?_
      have hT0 : ∀ k, looks [(0, fun z => Ext no w6 z), (2, fun z => Ext no w6 z)] k (w6.drew) := looks_all ⟨(Ext.drew no w6), (Ext.drew no w6), trivial⟩
      refine wpF_look 0 (v := .agg #[.int .i64 O.dot.dev, .int .i64 O.dot.ep, .int .i64 O.dot.seq, .int .i64 O.coll, .int .i64 O.ver, .int .i64 O.kind, .string (str O.key), .string (str O.text), .int .i64 O.n, .int .i64 O.time, .slice a O.dots.length c]) rfl rfl (by kernel_rfl) (by kernel_rfl) (by kernel_rfl) (by kernel_rfl) (fun _ _ _ h => h) hT0 (by rfl) (fun w hS => by have hS : Ext no w6 w := hS; have q0 := hS.keeps y0 (fun h => h); have q1 := hS.keeps y1 (fun h => h); have q2 := hS.keeps y2 (fun h => h); have q3 := hS.keeps y3 (fun h => h); have q4 := hS.keeps y4 (fun h => h); have q5 := hS.keeps y5 (fun h => h); have q6 := hS.keeps y6 (fun h => h); have q7 := hS.keeps y7 (fun h => h); have q8 := hS.keeps y8 (fun h => h); have q9 := hS.keeps y9 (fun h => h); have q10 := hS.keeps y10 (fun h => h); go_simp) ?_
      simp only [Act.put, List.setIfInBounds_toArray, List.set_cons_zero, List.set_cons_succ]
      refine wpF_look 2 (v := .agg #[.int .i64 O.dot.dev, .int .i64 O.dot.ep, .int .i64 O.dot.seq, .int .i64 O.coll, .int .i64 O.ver, .int .i64 O.kind, .string (str O.key), .string (str O.text), .int .i64 O.n, .int .i64 O.time, .slice a O.dots.length c]) rfl rfl (by kernel_rfl) (by kernel_rfl) (by kernel_rfl) (by kernel_rfl) (fun _ _ _ h => h) hT0 (by rfl) (fun w hS => by have hS : Ext no w6 w := hS; have q0 := hS.keeps y0 (fun h => h); have q1 := hS.keeps y1 (fun h => h); have q2 := hS.keeps y2 (fun h => h); have q3 := hS.keeps y3 (fun h => h); have q4 := hS.keeps y4 (fun h => h); have q5 := hS.keeps y5 (fun h => h); have q6 := hS.keeps y6 (fun h => h); have q7 := hS.keeps y7 (fun h => h); have q8 := hS.keeps y8 (fun h => h); have q9 := hS.keeps y9 (fun h => h); have q10 := hS.keeps y10 (fun h => h); go_simp) ?_
      simp only [Act.put, List.setIfInBounds_toArray, List.set_cons_zero, List.set_cons_succ]
      refine wpF_exec 1 rfl (by kernel_rfl) (by rfl) ?_
      intro K hK
      go_simp
      refine (check_any (w6.drew) O a c (hr6.ext (Ext.drew no w6) (fun _ _ h => h)) hO1 hO2 hO3).mono ?_
      rintro e wm0 ⟨rfl, hx_wm0⟩
      have hT1 : ∀ k, looks [(0, fun z => Ext no w6 z), (2, fun z => Ext no w6 z)] k (wm0) := looks_all ⟨((Ext.drew no w6).comp hx_wm0), ((Ext.drew no w6).comp hx_wm0), trivial⟩
      refine hK _ _ (looks [(0, fun z => Ext no w6 z), (2, fun z => Ext no w6 z)]) ⟨.inr (.inl (by kernel_rfl)), .inr (.inr (fun x h => h)), trivial⟩ hT1 ?_
      clear hK K
      try simp only [Act.put, List.setIfInBounds_toArray, List.set_cons_zero, List.set_cons_succ]
      refine wpF_exec 3 rfl (by kernel_rfl) (by rfl) ?_
      intro K hK
      go_simp
      refine (refcheck_any (wm0) O a c (hr6.ext ((Ext.drew no w6).comp hx_wm0) (fun _ _ h => h)) hO1 hO2 hO3).mono ?_
      rintro e wm1 ⟨rfl, hx_wm1⟩
      have hT2 : ∀ k, looks [(0, fun z => Ext no w6 z), (2, fun z => Ext no w6 z)] k (wm1) := looks_all ⟨(((Ext.drew no w6).comp hx_wm0).comp hx_wm1), (((Ext.drew no w6).comp hx_wm0).comp hx_wm1), trivial⟩
      refine hK _ _ (looks [(0, fun z => Ext no w6 z), (2, fun z => Ext no w6 z)]) ⟨.inr (.inl (by kernel_rfl)), .inr (.inl (by kernel_rfl)), trivial⟩ hT2 ?_
      clear hK K
      try simp only [Act.put, List.setIfInBounds_toArray, List.set_cons_zero, List.set_cons_succ]
      refine wpF_take 4 (v := ?_) rfl (by kernel_rfl) (by kernel_rfl) (by kernel_rfl) (fun _ _ _ h => h) hT2 (by rfl) ?_ ?_
      rotate_left
      · (intro wq; go_simp; try with_reducible rfl)
      simp only [Act.put, List.setIfInBounds_toArray, List.set_cons_zero, List.set_cons_succ]
      refine wpF_take 5 (v := ?_) rfl (by kernel_rfl) (by kernel_rfl) (by kernel_rfl) (fun _ _ _ h => h) hT2 (by rfl) ?_ ?_
      rotate_left
      · (intro wq; go_simp; try with_reducible rfl)
      simp only [Act.put, List.setIfInBounds_toArray, List.set_cons_zero, List.set_cons_succ]
      refine wpF_done (by kernel_rfl) ?_ _
      go_wp2_with fail
      go_ret
      exact ⟨rfl, hx6.comp (((Ext.drew no w6).comp hx_wm0).comp hx_wm1)⟩
    -->A
end Go.Proofs.Ytfelipkbbefhhaa
