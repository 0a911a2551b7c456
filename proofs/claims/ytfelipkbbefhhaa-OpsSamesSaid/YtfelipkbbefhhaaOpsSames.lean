/- The walk of the law OpsSames. -/
import Derived.Test.YtfelipkbbefhhaaOpG
import Derived.Test.YtfelipkbbefhhaaOpO
import Derived.Test.YtfelipkbbefhhaaOpT
import Derived.Test.YtfelipkbbefhhaaOpV
namespace Go.Proofs.Ytfelipkbbefhhaa
open Go.RowKit Go.Esc
set_option linter.unusedVariables false
set_option linter.unusedSimpArgs false

theorem rd_low2 {w : World} {a : Option Addr} {cs : List Value} (h : Rd w a cs) (hn : cs ≠ []) (ad : Addr) (ha : a = some ad) : ad.block < w.heap.size := by
  obtain ⟨ad2, h2, h3⟩ := h.ne (List.length_pos_iff.2 hn)
  rw [ha] at h2
  cases h2
  exact h3
theorem rd_not {w w' : World} {a : Option Addr} {cs : List Value} {g : Nat} (h : Rd w a cs) (hn : cs ≠ [] → ∀ ad, a = some ad → ad.block ≠ g) (hx : Ext (just g) w w') : Rd w' a cs := by
  by_cases hc : cs = []
  · subst hc; exact Rd.nil _ _
  · exact h.ext hx (fun ad ha e => hn hc ad ha (by simpa only [Esc.just] using e))
theorem rd_gt {a : Option Addr} {cs : List Value} {g m : Nat} (h : cs ≠ [] → ∀ ad, a = some ad → ad.block < m) (hg : m ≤ g) : cs ≠ [] → ∀ ad, a = some ad → ad.block ≠ g := fun hc ad ha => by have := h hc ad ha; omega
theorem wrap_ok (x : Int) : I64ok (wrap64 x) := by unfold I64ok wrap64; omega
theorem wrap_ne (x : Int) (h : I64ok x) : wrap64 (x + 1) ≠ x := by unfold I64ok at h; unfold wrap64; omega
theorem opbytes_nil (w : World) (o : OpR) (a : Option Addr) (c : Nat) (hok : o.ok) (hr : Rd w a (ds o.dots)) (hdl : o.dots.length ≤ 1000) (hkl : o.key.length ≤ 1000) (htl : o.text.length ≤ 1000) :
    Calls Try.prog 18 #[.slice none 0 0, o.v a c] w fun e w' => ∃ a' c', e = .returned (.slice a' (opEnc o).length c') ∧ Rd w' a' (bs (opEnc o)) ∧ Ext no w w' := by
  have := opbytes_any w o a none c 0 [] hok hr hdl hkl htl (Rd.nil _ _) (by simp)
  simpa using this

set_option maxRecDepth 100000 in
set_option maxHeartbeats 16000000 in
theorem sames_walk (w : World) (o : OpR) (a : Option Addr) (c : Nat) (which : Int) (hok : o.ok) (hrw : Rd w a (ds o.dots)) (hl : o.dots.length ≤ c) (hc : c ≤ maxLen) (hwh : I64ok which) :
    Calls Try.prog 7 #[o.v a c, .int .i64 which] w fun e w' => e = .returned (.bool true) ∧ Ext no w w' := by
  go_enter Try.func7, Try.ntmps7
  unfold OpR.v
  go_upto_region 1 with fail
  have hb0 : Blk (w.alloc (.cells #[.int .i64 o.dot.dev, .int .i64 o.dot.ep, .int .i64 o.dot.seq, .int .i64 o.coll, .int .i64 o.ver, .int .i64 o.kind, .string (str o.key), .string (str o.text), .int .i64 o.n, .int .i64 o.time, .slice a o.dots.length c] 26)) w.heap.size (o.cells a c) := Blk.lit w #[.int .i64 o.dot.dev, .int .i64 o.dot.ep, .int .i64 o.dot.seq, .int .i64 o.coll, .int .i64 o.ver, .int .i64 o.kind, .string (str o.key), .string (str o.text), .int .i64 o.n, .int .i64 o.time, .slice a o.dots.length c] 26
  have hx0 := Ext.alloc no w (.cells #[.int .i64 o.dot.dev, .int .i64 o.dot.ep, .int .i64 o.dot.seq, .int .i64 o.coll, .int .i64 o.ver, .int .i64 o.kind, .string (str o.key), .string (str o.text), .int .i64 o.n, .int .i64 o.time, .slice a o.dots.length c] 26)
  generalize w.alloc (.cells #[.int .i64 o.dot.dev, .int .i64 o.dot.ep, .int .i64 o.dot.seq, .int .i64 o.coll, .int .i64 o.ver, .int .i64 o.kind, .string (str o.key), .string (str o.text), .int .i64 o.n, .int .i64 o.time, .slice a o.dots.length c] 26) = w0 at *
  go_wp2_with fail
  refine (known_any w0).mono ?_
  rintro e w1 ⟨rfl, hx1⟩
  have hb1 := hb0.ext (by simp [OpR.cells]) hx1 (fun h => h)
  have hx := hx0.comp hx1
  clear hb0 hx0 hx1
  have hg0 := hb1.lt (by simp [OpR.cells])
  generalize w.heap.size = g0 at hb1 hg0 ⊢
  have b0 := hb1.cell 0 _ rfl
  have b1 := hb1.cell 1 _ rfl
  have b2 := hb1.cell 2 _ rfl
  have b3 := hb1.cell 3 _ rfl
  have b4 := hb1.cell 4 _ rfl
  have b5 := hb1.cell 5 _ rfl
  have b6 := hb1.cell 6 _ rfl
  have b7 := hb1.cell 7 _ rfl
  have b8 := hb1.cell 8 _ rfl
  have b9 := hb1.cell 9 _ rfl
  have b10 := hb1.cell 10 _ rfl
  go_wp2_with fail
  refine (few_any w1 o a c (by omega) hok.key hok.text).mono ?_
  rintro e w3 ⟨rfl, hx2⟩
  cases hfew : fewB o with
  | false =>
    go_wp2_with fail
    go_ret
    exact ⟨rfl, hx.comp hx2⟩
  | true =>
    clear hfew
    have hb2 := hb1.ext (by simp [OpR.cells]) hx2 (fun h => h)
    replace hx := hx.comp hx2
    clear hb1 hx2 b0 b1 b2 b3 b4 b5 b6 b7 b8 b9 b10
    have b0 := hb2.cell 0 _ rfl
    have b1 := hb2.cell 1 _ rfl
    have b2 := hb2.cell 2 _ rfl
    have b3 := hb2.cell 3 _ rfl
    have b4 := hb2.cell 4 _ rfl
    have b5 := hb2.cell 5 _ rfl
    have b6 := hb2.cell 6 _ rfl
    have b7 := hb2.cell 7 _ rfl
    have b8 := hb2.cell 8 _ rfl
    have b9 := hb2.cell 9 _ rfl
    have b10 := hb2.cell 10 _ rfl
    obtain ⟨G, hG⟩ : ∃ G, G = goodOp o := ⟨_, rfl⟩
    have hG1 : G.ok := by rw [hG]; exact goodOp_ok o hok
    have hG3 : G.dots.length ≤ 8 := by rw [hG]; exact goodOp_len o
    have hG4 : G.key.length ≤ 1 := by rw [hG]; exact Nat.le_of_eq (goodKey_ok o.key).2.2
    have hG5 : G.text.length ≤ 2 := by rw [hG]; exact (goodText_ok o.text).2
    have HG := Lib.hid hG
    clear hG
    have hxw := hx.comp (Ext.drew no w3)
    go_upto_region 5 with fail
    go_cut [5, 6] (fun s5 s6 wx => ∃ (gA gB : Nat) (a1 a2 : Option Addr) (c1 c2 : Nat), s5 = .pointer (some ⟨gA, 0, none⟩) ∧ s6 = .pointer (some ⟨gB, 0, none⟩) ∧ gA ≠ gB ∧ w.heap.size ≤ gA ∧ w.heap.size ≤ gB ∧ Blk wx gA (G.cells a1 c1) ∧ Blk wx gB (G.cells a2 c2) ∧ Rd wx a1 (ds G.dots) ∧ Rd wx a2 (ds G.dots) ∧ (ds G.dots ≠ [] → ∀ ad, a1 = some ad → ad.block ≠ gB) ∧ (ds G.dots ≠ [] → ∀ ad, a2 = some ad → ad.block ≠ gB) ∧ Ext no w wx)
    case first =>
      --<A
      refine wp_region_F [0, 2] (looks [(0, fun z => Ext no w3 z), (2, fun z => Ext no w3 z)]) (by kernel_rfl) ?_
      have hx3 := Ext.drew no w3
      have hT0 : ∀ k, looks [(0, fun z => Ext no w3 z), (2, fun z => Ext no w3 z)] k (w3.drew) := looks_all ⟨hx3, hx3, trivial⟩
      refine wpF_look 0 (v := .agg #[.int .i64 o.dot.dev, .int .i64 o.dot.ep, .int .i64 o.dot.seq, .int .i64 o.coll, .int .i64 o.ver, .int .i64 o.kind, .string (str o.key), .string (str o.text), .int .i64 o.n, .int .i64 o.time, .slice a o.dots.length c]) rfl rfl (by kernel_rfl) (by kernel_rfl) (by kernel_rfl) (by kernel_rfl) (fun _ _ _ h => h) hT0 (by rfl) (fun w hS => by have hS : Ext no w3 w := hS; have q0 := hS.keeps b0 (fun h => h); have q1 := hS.keeps b1 (fun h => h); have q2 := hS.keeps b2 (fun h => h); have q3 := hS.keeps b3 (fun h => h); have q4 := hS.keeps b4 (fun h => h); have q5 := hS.keeps b5 (fun h => h); have q6 := hS.keeps b6 (fun h => h); have q7 := hS.keeps b7 (fun h => h); have q8 := hS.keeps b8 (fun h => h); have q9 := hS.keeps b9 (fun h => h); have q10 := hS.keeps b10 (fun h => h); go_simp) ?_
      simp only [Act.put, List.setIfInBounds_toArray, List.set_cons_zero, List.set_cons_succ]
      refine wpF_look 2 (v := .agg #[.int .i64 o.dot.dev, .int .i64 o.dot.ep, .int .i64 o.dot.seq, .int .i64 o.coll, .int .i64 o.ver, .int .i64 o.kind, .string (str o.key), .string (str o.text), .int .i64 o.n, .int .i64 o.time, .slice a o.dots.length c]) rfl rfl (by kernel_rfl) (by kernel_rfl) (by kernel_rfl) (by kernel_rfl) (fun _ _ _ h => h) hT0 (by rfl) (fun w hS => by have hS : Ext no w3 w := hS; have q0 := hS.keeps b0 (fun h => h); have q1 := hS.keeps b1 (fun h => h); have q2 := hS.keeps b2 (fun h => h); have q3 := hS.keeps b3 (fun h => h); have q4 := hS.keeps b4 (fun h => h); have q5 := hS.keeps b5 (fun h => h); have q6 := hS.keeps b6 (fun h => h); have q7 := hS.keeps b7 (fun h => h); have q8 := hS.keeps b8 (fun h => h); have q9 := hS.keeps b9 (fun h => h); have q10 := hS.keeps b10 (fun h => h); go_simp) ?_
      simp only [Act.put, List.setIfInBounds_toArray, List.set_cons_zero, List.set_cons_succ]
      refine wpF_execs [1, 4, 5] (by kernel_rfl) (by simp) ?_
      intro j hj
      simp only [List.mem_cons, List.not_mem_nil, or_false] at hj
      rcases hj with rfl | rfl | rfl
      · refine ⟨_, rfl, by rfl, ?_⟩
        intro K hK
        go_simp
        refine (good_any (w3.drew) o a c hok (hrw.ext hxw (fun _ _ h => h)) hl hc).mono ?_
        rintro e wv1 ⟨a1, c1, rfl, r1, l1, m1, xg, fz1⟩
        rw [← HG.out] at r1 l1 ⊢
        unfold OpR.v
        have hxw := hxw.comp xg
        have hx3 := hx3.comp xg
        have hT1 : ∀ k, looks [(0, fun z => Ext no w3 z), (2, fun z => Ext no w3 z)] k (wv1) := looks_all ⟨hx3, hx3, trivial⟩
        refine hK _ _ (looks [(0, fun z => Ext no w3 z), (2, fun z => Ext no w3 z)]) ⟨.inr (.inl (by kernel_rfl)), .inr (.inr (fun x h => h)), trivial⟩ hT1 ?_
        clear hK K
        try simp only [Act.put, List.setIfInBounds_toArray, List.set_cons_zero, List.set_cons_succ]
        refine wpF_execs [3, 4, 5] (by kernel_rfl) (by simp) ?_
        intro j hj
        simp only [List.mem_cons, List.not_mem_nil, or_false] at hj
        rcases hj with rfl | rfl | rfl
        · refine ⟨_, rfl, by rfl, ?_⟩
          intro K hK
          go_simp
          refine (good_any (wv1) o a c hok (hrw.ext hxw (fun _ _ h => h)) hl hc).mono ?_
          rintro e wv2 ⟨a2, c2, rfl, r2, l2, m2, xg, fz2⟩
          rw [← HG.out] at r2 l2 ⊢
          unfold OpR.v
          have r1 := r1.ext xg (fun _ _ h => h)
          have hxw := hxw.comp xg
          have hx3 := hx3.comp xg
          have hT2 : ∀ k, looks [(0, fun z => Ext no w3 z), (2, fun z => Ext no w3 z)] k (wv2) := looks_all ⟨hx3, hx3, trivial⟩
          refine hK _ _ (looks [(0, fun z => Ext no w3 z), (2, fun z => Ext no w3 z)]) ⟨.inr (.inl (by kernel_rfl)), .inr (.inl (by kernel_rfl)), trivial⟩ hT2 ?_
          clear hK K
          try simp only [Act.put, List.setIfInBounds_toArray, List.set_cons_zero, List.set_cons_succ]
          refine wpF_execs [4, 5] (by kernel_rfl) (by simp) ?_
          intro j hj
          simp only [List.mem_cons, List.not_mem_nil, or_false] at hj
          rcases hj with rfl | rfl
          · refine ⟨_, rfl, by rfl, ?_⟩
            intro K hK
            go_simp
            have zA : Blk ((wv2.alloc (.cells #[.int .i64 0, .int .i64 0, .int .i64 0, .int .i64 0, .int .i64 0, .int .i64 0, .string { data := #[] }, .string { data := #[] }, .int .i64 0, .int .i64 0, .slice none 0 0] 26))) (wv2.heap.size) [.int .i64 0, .int .i64 0, .int .i64 0, .int .i64 0, .int .i64 0, .int .i64 0, .string { data := #[] }, .string { data := #[] }, .int .i64 0, .int .i64 0, .slice none 0 0] := Blk.lit wv2 _ _
            have d1A := rd_gt (rd_low2 r1) (Nat.le_refl (wv2.heap.size))
            have r1 := r1.ext (Ext.alloc no wv2 (.cells #[.int .i64 0, .int .i64 0, .int .i64 0, .int .i64 0, .int .i64 0, .int .i64 0, .string { data := #[] }, .string { data := #[] }, .int .i64 0, .int .i64 0, .slice none 0 0] 26)) (fun _ _ h => h)
            have d2A := rd_gt (rd_low2 r2) (Nat.le_refl (wv2.heap.size))
            have r2 := r2.ext (Ext.alloc no wv2 (.cells #[.int .i64 0, .int .i64 0, .int .i64 0, .int .i64 0, .int .i64 0, .int .i64 0, .string { data := #[] }, .string { data := #[] }, .int .i64 0, .int .i64 0, .slice none 0 0] 26)) (fun _ _ h => h)
            have hsA : w.heap.size ≤ wv2.heap.size := hxw.size
            have hxw := hxw.comp (Ext.alloc no wv2 (.cells #[.int .i64 0, .int .i64 0, .int .i64 0, .int .i64 0, .int .i64 0, .int .i64 0, .string { data := #[] }, .string { data := #[] }, .int .i64 0, .int .i64 0, .slice none 0 0] 26))
            have hx3 := hx3.comp (Ext.alloc no wv2 (.cells #[.int .i64 0, .int .i64 0, .int .i64 0, .int .i64 0, .int .i64 0, .int .i64 0, .string { data := #[] }, .string { data := #[] }, .int .i64 0, .int .i64 0, .slice none 0 0] 26))
            have hT3 : ∀ k, looks [(0, fun z => Ext no w3 z), (2, fun z => Ext no w3 z)] k ((wv2.alloc (.cells #[.int .i64 0, .int .i64 0, .int .i64 0, .int .i64 0, .int .i64 0, .int .i64 0, .string { data := #[] }, .string { data := #[] }, .int .i64 0, .int .i64 0, .slice none 0 0] 26))) := looks_all ⟨hx3, hx3, trivial⟩
            refine hK _ _ (looks [(0, fun z => Ext no w3 z), (2, fun z => Ext no w3 z)]) ⟨.inr (.inr (fun x h => h)), .inr (.inr (fun x h => h)), trivial⟩ hT3 ?_
            clear hK K
            try simp only [Act.put, List.setIfInBounds_toArray, List.set_cons_zero, List.set_cons_succ]
            obtain ⟨gA, hgA⟩ : ∃ g, g = wv2.heap.size := ⟨_, rfl⟩
            rw [← hgA] at zA hsA d1A d2A ⊢
            clear hgA
            generalize (wv2.alloc (.cells #[.int .i64 0, .int .i64 0, .int .i64 0, .int .i64 0, .int .i64 0, .int .i64 0, .string { data := #[] }, .string { data := #[] }, .int .i64 0, .int .i64 0, .slice none 0 0] 26)) = wv3 at *
            refine wpF_exec 5 rfl (by kernel_rfl) (by rfl) ?_
            intro K hK
            go_simp
            have zB : Blk ((wv3.alloc (.cells #[.int .i64 0, .int .i64 0, .int .i64 0, .int .i64 0, .int .i64 0, .int .i64 0, .string { data := #[] }, .string { data := #[] }, .int .i64 0, .int .i64 0, .slice none 0 0] 26))) (wv3.heap.size) [.int .i64 0, .int .i64 0, .int .i64 0, .int .i64 0, .int .i64 0, .int .i64 0, .string { data := #[] }, .string { data := #[] }, .int .i64 0, .int .i64 0, .slice none 0 0] := Blk.lit wv3 _ _
            have nAB : gA < wv3.heap.size := zA.lt (by simp)
            have zA := zA.ext (by simp) (Ext.alloc no wv3 (.cells #[.int .i64 0, .int .i64 0, .int .i64 0, .int .i64 0, .int .i64 0, .int .i64 0, .string { data := #[] }, .string { data := #[] }, .int .i64 0, .int .i64 0, .slice none 0 0] 26)) (fun h => h)
            have d1B := rd_gt (rd_low2 r1) (Nat.le_refl (wv3.heap.size))
            have r1 := r1.ext (Ext.alloc no wv3 (.cells #[.int .i64 0, .int .i64 0, .int .i64 0, .int .i64 0, .int .i64 0, .int .i64 0, .string { data := #[] }, .string { data := #[] }, .int .i64 0, .int .i64 0, .slice none 0 0] 26)) (fun _ _ h => h)
            have d2B := rd_gt (rd_low2 r2) (Nat.le_refl (wv3.heap.size))
            have r2 := r2.ext (Ext.alloc no wv3 (.cells #[.int .i64 0, .int .i64 0, .int .i64 0, .int .i64 0, .int .i64 0, .int .i64 0, .string { data := #[] }, .string { data := #[] }, .int .i64 0, .int .i64 0, .slice none 0 0] 26)) (fun _ _ h => h)
            have hsB : w.heap.size ≤ wv3.heap.size := hxw.size
            have hxw := hxw.comp (Ext.alloc no wv3 (.cells #[.int .i64 0, .int .i64 0, .int .i64 0, .int .i64 0, .int .i64 0, .int .i64 0, .string { data := #[] }, .string { data := #[] }, .int .i64 0, .int .i64 0, .slice none 0 0] 26))
            have hx3 := hx3.comp (Ext.alloc no wv3 (.cells #[.int .i64 0, .int .i64 0, .int .i64 0, .int .i64 0, .int .i64 0, .int .i64 0, .string { data := #[] }, .string { data := #[] }, .int .i64 0, .int .i64 0, .slice none 0 0] 26))
            have hT4 : ∀ k, looks [(0, fun z => Ext no w3 z), (2, fun z => Ext no w3 z)] k ((wv3.alloc (.cells #[.int .i64 0, .int .i64 0, .int .i64 0, .int .i64 0, .int .i64 0, .int .i64 0, .string { data := #[] }, .string { data := #[] }, .int .i64 0, .int .i64 0, .slice none 0 0] 26))) := looks_all ⟨hx3, hx3, trivial⟩
            refine hK _ _ (looks [(0, fun z => Ext no w3 z), (2, fun z => Ext no w3 z)]) ⟨.inr (.inr (fun x h => h)), .inr (.inr (fun x h => h)), trivial⟩ hT4 ?_
            clear hK K
            try simp only [Act.put, List.setIfInBounds_toArray, List.set_cons_zero, List.set_cons_succ]
            obtain ⟨gB, hgB⟩ : ∃ g, g = wv3.heap.size := ⟨_, rfl⟩
            rw [← hgB] at zB hsB nAB d1B d2B ⊢
            clear hgB
            generalize (wv3.alloc (.cells #[.int .i64 0, .int .i64 0, .int .i64 0, .int .i64 0, .int .i64 0, .int .i64 0, .string { data := #[] }, .string { data := #[] }, .int .i64 0, .int .i64 0, .slice none 0 0] 26)) = wv4 at *
            refine wpF_exec 6 rfl (by kernel_rfl) (by rfl) ?_
            intro K hK
            have p0 := zA.cell 0 _ rfl
            have p1 := zA.cell 1 _ rfl
            have p2 := zA.cell 2 _ rfl
            have p3 := zA.cell 3 _ rfl
            have p4 := zA.cell 4 _ rfl
            have p5 := zA.cell 5 _ rfl
            have p6 := zA.cell 6 _ rfl
            have p7 := zA.cell 7 _ rfl
            have p8 := zA.cell 8 _ rfl
            have p9 := zA.cell 9 _ rfl
            have p10 := zA.cell 10 _ rfl
            have f0 := zA.fr 0
            have f1 := zA.fr 1
            have f2 := zA.fr 2
            have f3 := zA.fr 3
            have f4 := zA.fr 4
            have f5 := zA.fr 5
            have f6 := zA.fr 6
            have f7 := zA.fr 7
            have f8 := zA.fr 8
            have f9 := zA.fr 9
            have f10 := zA.fr 10
            go_simp
            clear p0 f0 p1 f1 p2 f2 p3 f3 p4 f4 p5 f5 p6 f6 p7 f7 p8 f8 p9 f9 p10 f10
            have xs : Ext (just gA) wv4 ((((((((((((wv4.setCell ⟨gA, 0, none⟩ (.int .i64 G.dot.dev)).setCell ⟨gA, 1, none⟩ (.int .i64 G.dot.ep)).setCell ⟨gA, 2, none⟩ (.int .i64 G.dot.seq)).setCell ⟨gA, 3, none⟩ (.int .i64 G.coll)).setCell ⟨gA, 4, none⟩ (.int .i64 G.ver)).setCell ⟨gA, 5, none⟩ (.int .i64 G.kind)).setCell ⟨gA, 6, none⟩ (.string (str G.key))).setCell ⟨gA, 7, none⟩ (.string (str G.text))).setCell ⟨gA, 8, none⟩ (.int .i64 G.n)).setCell ⟨gA, 9, none⟩ (.int .i64 G.time)).setCell ⟨gA, 10, none⟩ (.slice a1 G.dots.length c1))) := ((((((((((((Ext.refl (just gA) wv4).comp (Ext.setCell _ ⟨gA, 0, none⟩ (.int .i64 G.dot.dev) rfl)).comp (Ext.setCell _ ⟨gA, 1, none⟩ (.int .i64 G.dot.ep) rfl)).comp (Ext.setCell _ ⟨gA, 2, none⟩ (.int .i64 G.dot.seq) rfl)).comp (Ext.setCell _ ⟨gA, 3, none⟩ (.int .i64 G.coll) rfl)).comp (Ext.setCell _ ⟨gA, 4, none⟩ (.int .i64 G.ver) rfl)).comp (Ext.setCell _ ⟨gA, 5, none⟩ (.int .i64 G.kind) rfl)).comp (Ext.setCell _ ⟨gA, 6, none⟩ (.string (str G.key)) rfl)).comp (Ext.setCell _ ⟨gA, 7, none⟩ (.string (str G.text)) rfl)).comp (Ext.setCell _ ⟨gA, 8, none⟩ (.int .i64 G.n) rfl)).comp (Ext.setCell _ ⟨gA, 9, none⟩ (.int .i64 G.time) rfl)).comp (Ext.setCell _ ⟨gA, 10, none⟩ (.slice a1 G.dots.length c1) rfl))
            have zA : Blk ((((((((((((wv4.setCell ⟨gA, 0, none⟩ (.int .i64 G.dot.dev)).setCell ⟨gA, 1, none⟩ (.int .i64 G.dot.ep)).setCell ⟨gA, 2, none⟩ (.int .i64 G.dot.seq)).setCell ⟨gA, 3, none⟩ (.int .i64 G.coll)).setCell ⟨gA, 4, none⟩ (.int .i64 G.ver)).setCell ⟨gA, 5, none⟩ (.int .i64 G.kind)).setCell ⟨gA, 6, none⟩ (.string (str G.key))).setCell ⟨gA, 7, none⟩ (.string (str G.text))).setCell ⟨gA, 8, none⟩ (.int .i64 G.n)).setCell ⟨gA, 9, none⟩ (.int .i64 G.time)).setCell ⟨gA, 10, none⟩ (.slice a1 G.dots.length c1))) gA (G.cells a1 c1) := (((((((((((zA.set 0 (.int .i64 G.dot.dev) (by simp)).set 1 (.int .i64 G.dot.ep) (by simp)).set 2 (.int .i64 G.dot.seq) (by simp)).set 3 (.int .i64 G.coll) (by simp)).set 4 (.int .i64 G.ver) (by simp)).set 5 (.int .i64 G.kind) (by simp)).set 6 (.string (str G.key)) (by simp)).set 7 (.string (str G.text)) (by simp)).set 8 (.int .i64 G.n) (by simp)).set 9 (.int .i64 G.time) (by simp)).set 10 (.slice a1 G.dots.length c1) (by simp))
            have hxw := (((((((((((hxw.set1 hsA 0 (.int .i64 G.dot.dev)).set1 hsA 1 (.int .i64 G.dot.ep)).set1 hsA 2 (.int .i64 G.dot.seq)).set1 hsA 3 (.int .i64 G.coll)).set1 hsA 4 (.int .i64 G.ver)).set1 hsA 5 (.int .i64 G.kind)).set1 hsA 6 (.string (str G.key))).set1 hsA 7 (.string (str G.text))).set1 hsA 8 (.int .i64 G.n)).set1 hsA 9 (.int .i64 G.time)).set1 hsA 10 (.slice a1 G.dots.length c1))
            have zB := zB.ext (by simp [OpR.cells]) xs (by simp only [Esc.just]; omega)
            have r1 := rd_not r1 d1A xs
            have r2 := rd_not r2 d2A xs
            clear xs
            have hT5 : ∀ k, looks [(0, fun z => True), (2, fun z => True)] k ((((((((((((wv4.setCell ⟨gA, 0, none⟩ (.int .i64 G.dot.dev)).setCell ⟨gA, 1, none⟩ (.int .i64 G.dot.ep)).setCell ⟨gA, 2, none⟩ (.int .i64 G.dot.seq)).setCell ⟨gA, 3, none⟩ (.int .i64 G.coll)).setCell ⟨gA, 4, none⟩ (.int .i64 G.ver)).setCell ⟨gA, 5, none⟩ (.int .i64 G.kind)).setCell ⟨gA, 6, none⟩ (.string (str G.key))).setCell ⟨gA, 7, none⟩ (.string (str G.text))).setCell ⟨gA, 8, none⟩ (.int .i64 G.n)).setCell ⟨gA, 9, none⟩ (.int .i64 G.time)).setCell ⟨gA, 10, none⟩ (.slice a1 G.dots.length c1))) := looks_all ⟨trivial, trivial, trivial⟩
            refine hK _ _ (looks [(0, fun z => True), (2, fun z => True)]) ⟨.inr (.inl (by kernel_rfl)), .inr (.inl (by kernel_rfl)), trivial⟩ hT5 ?_
            clear hK K
            try simp only [Act.put, List.setIfInBounds_toArray, List.set_cons_zero, List.set_cons_succ]
            generalize (((((((((((wv4.setCell ⟨gA, 0, none⟩ (.int .i64 G.dot.dev)).setCell ⟨gA, 1, none⟩ (.int .i64 G.dot.ep)).setCell ⟨gA, 2, none⟩ (.int .i64 G.dot.seq)).setCell ⟨gA, 3, none⟩ (.int .i64 G.coll)).setCell ⟨gA, 4, none⟩ (.int .i64 G.ver)).setCell ⟨gA, 5, none⟩ (.int .i64 G.kind)).setCell ⟨gA, 6, none⟩ (.string (str G.key))).setCell ⟨gA, 7, none⟩ (.string (str G.text))).setCell ⟨gA, 8, none⟩ (.int .i64 G.n)).setCell ⟨gA, 9, none⟩ (.int .i64 G.time)).setCell ⟨gA, 10, none⟩ (.slice a1 G.dots.length c1)) = wv5 at *
            refine wpF_exec 7 rfl (by kernel_rfl) (by rfl) ?_
            intro K hK
            have p0 := zB.cell 0 _ rfl
            have p1 := zB.cell 1 _ rfl
            have p2 := zB.cell 2 _ rfl
            have p3 := zB.cell 3 _ rfl
            have p4 := zB.cell 4 _ rfl
            have p5 := zB.cell 5 _ rfl
            have p6 := zB.cell 6 _ rfl
            have p7 := zB.cell 7 _ rfl
            have p8 := zB.cell 8 _ rfl
            have p9 := zB.cell 9 _ rfl
            have p10 := zB.cell 10 _ rfl
            have f0 := zB.fr 0
            have f1 := zB.fr 1
            have f2 := zB.fr 2
            have f3 := zB.fr 3
            have f4 := zB.fr 4
            have f5 := zB.fr 5
            have f6 := zB.fr 6
            have f7 := zB.fr 7
            have f8 := zB.fr 8
            have f9 := zB.fr 9
            have f10 := zB.fr 10
            go_simp
            clear p0 f0 p1 f1 p2 f2 p3 f3 p4 f4 p5 f5 p6 f6 p7 f7 p8 f8 p9 f9 p10 f10
            have xs : Ext (just gB) wv5 ((((((((((((wv5.setCell ⟨gB, 0, none⟩ (.int .i64 G.dot.dev)).setCell ⟨gB, 1, none⟩ (.int .i64 G.dot.ep)).setCell ⟨gB, 2, none⟩ (.int .i64 G.dot.seq)).setCell ⟨gB, 3, none⟩ (.int .i64 G.coll)).setCell ⟨gB, 4, none⟩ (.int .i64 G.ver)).setCell ⟨gB, 5, none⟩ (.int .i64 G.kind)).setCell ⟨gB, 6, none⟩ (.string (str G.key))).setCell ⟨gB, 7, none⟩ (.string (str G.text))).setCell ⟨gB, 8, none⟩ (.int .i64 G.n)).setCell ⟨gB, 9, none⟩ (.int .i64 G.time)).setCell ⟨gB, 10, none⟩ (.slice a2 G.dots.length c2))) := ((((((((((((Ext.refl (just gB) wv5).comp (Ext.setCell _ ⟨gB, 0, none⟩ (.int .i64 G.dot.dev) rfl)).comp (Ext.setCell _ ⟨gB, 1, none⟩ (.int .i64 G.dot.ep) rfl)).comp (Ext.setCell _ ⟨gB, 2, none⟩ (.int .i64 G.dot.seq) rfl)).comp (Ext.setCell _ ⟨gB, 3, none⟩ (.int .i64 G.coll) rfl)).comp (Ext.setCell _ ⟨gB, 4, none⟩ (.int .i64 G.ver) rfl)).comp (Ext.setCell _ ⟨gB, 5, none⟩ (.int .i64 G.kind) rfl)).comp (Ext.setCell _ ⟨gB, 6, none⟩ (.string (str G.key)) rfl)).comp (Ext.setCell _ ⟨gB, 7, none⟩ (.string (str G.text)) rfl)).comp (Ext.setCell _ ⟨gB, 8, none⟩ (.int .i64 G.n) rfl)).comp (Ext.setCell _ ⟨gB, 9, none⟩ (.int .i64 G.time) rfl)).comp (Ext.setCell _ ⟨gB, 10, none⟩ (.slice a2 G.dots.length c2) rfl))
            have zB : Blk ((((((((((((wv5.setCell ⟨gB, 0, none⟩ (.int .i64 G.dot.dev)).setCell ⟨gB, 1, none⟩ (.int .i64 G.dot.ep)).setCell ⟨gB, 2, none⟩ (.int .i64 G.dot.seq)).setCell ⟨gB, 3, none⟩ (.int .i64 G.coll)).setCell ⟨gB, 4, none⟩ (.int .i64 G.ver)).setCell ⟨gB, 5, none⟩ (.int .i64 G.kind)).setCell ⟨gB, 6, none⟩ (.string (str G.key))).setCell ⟨gB, 7, none⟩ (.string (str G.text))).setCell ⟨gB, 8, none⟩ (.int .i64 G.n)).setCell ⟨gB, 9, none⟩ (.int .i64 G.time)).setCell ⟨gB, 10, none⟩ (.slice a2 G.dots.length c2))) gB (G.cells a2 c2) := (((((((((((zB.set 0 (.int .i64 G.dot.dev) (by simp)).set 1 (.int .i64 G.dot.ep) (by simp)).set 2 (.int .i64 G.dot.seq) (by simp)).set 3 (.int .i64 G.coll) (by simp)).set 4 (.int .i64 G.ver) (by simp)).set 5 (.int .i64 G.kind) (by simp)).set 6 (.string (str G.key)) (by simp)).set 7 (.string (str G.text)) (by simp)).set 8 (.int .i64 G.n) (by simp)).set 9 (.int .i64 G.time) (by simp)).set 10 (.slice a2 G.dots.length c2) (by simp))
            have hxw := (((((((((((hxw.set1 hsB 0 (.int .i64 G.dot.dev)).set1 hsB 1 (.int .i64 G.dot.ep)).set1 hsB 2 (.int .i64 G.dot.seq)).set1 hsB 3 (.int .i64 G.coll)).set1 hsB 4 (.int .i64 G.ver)).set1 hsB 5 (.int .i64 G.kind)).set1 hsB 6 (.string (str G.key))).set1 hsB 7 (.string (str G.text))).set1 hsB 8 (.int .i64 G.n)).set1 hsB 9 (.int .i64 G.time)).set1 hsB 10 (.slice a2 G.dots.length c2))
            have zA := zA.ext (by simp [OpR.cells]) xs (by simp only [Esc.just]; omega)
            have r1 := rd_not r1 d1B xs
            have r2 := rd_not r2 d2B xs
            clear xs
            have hT6 : ∀ k, looks [(0, fun z => True), (2, fun z => True)] k ((((((((((((wv5.setCell ⟨gB, 0, none⟩ (.int .i64 G.dot.dev)).setCell ⟨gB, 1, none⟩ (.int .i64 G.dot.ep)).setCell ⟨gB, 2, none⟩ (.int .i64 G.dot.seq)).setCell ⟨gB, 3, none⟩ (.int .i64 G.coll)).setCell ⟨gB, 4, none⟩ (.int .i64 G.ver)).setCell ⟨gB, 5, none⟩ (.int .i64 G.kind)).setCell ⟨gB, 6, none⟩ (.string (str G.key))).setCell ⟨gB, 7, none⟩ (.string (str G.text))).setCell ⟨gB, 8, none⟩ (.int .i64 G.n)).setCell ⟨gB, 9, none⟩ (.int .i64 G.time)).setCell ⟨gB, 10, none⟩ (.slice a2 G.dots.length c2))) := looks_all ⟨trivial, trivial, trivial⟩
            refine hK _ _ (looks [(0, fun z => True), (2, fun z => True)]) ⟨.inr (.inl (by kernel_rfl)), .inr (.inl (by kernel_rfl)), trivial⟩ hT6 ?_
            clear hK K
            try simp only [Act.put, List.setIfInBounds_toArray, List.set_cons_zero, List.set_cons_succ]
            generalize (((((((((((wv5.setCell ⟨gB, 0, none⟩ (.int .i64 G.dot.dev)).setCell ⟨gB, 1, none⟩ (.int .i64 G.dot.ep)).setCell ⟨gB, 2, none⟩ (.int .i64 G.dot.seq)).setCell ⟨gB, 3, none⟩ (.int .i64 G.coll)).setCell ⟨gB, 4, none⟩ (.int .i64 G.ver)).setCell ⟨gB, 5, none⟩ (.int .i64 G.kind)).setCell ⟨gB, 6, none⟩ (.string (str G.key))).setCell ⟨gB, 7, none⟩ (.string (str G.text))).setCell ⟨gB, 8, none⟩ (.int .i64 G.n)).setCell ⟨gB, 9, none⟩ (.int .i64 G.time)).setCell ⟨gB, 10, none⟩ (.slice a2 G.dots.length c2)) = wv6 at *
            refine wpF_done (by kernel_rfl) ?_ _
            go_wp2_with fail
            go_meet
            exact ⟨gA, gB, a1, a2, c1, c2, rfl, rfl, by omega, hsA, hsB, zA, zB, r1, r2, d1B, d2B, hxw⟩
          · refine ⟨_, rfl, by rfl, ?_⟩
            intro K hK
            go_simp
            have zB : Blk ((wv2.alloc (.cells #[.int .i64 0, .int .i64 0, .int .i64 0, .int .i64 0, .int .i64 0, .int .i64 0, .string { data := #[] }, .string { data := #[] }, .int .i64 0, .int .i64 0, .slice none 0 0] 26))) (wv2.heap.size) [.int .i64 0, .int .i64 0, .int .i64 0, .int .i64 0, .int .i64 0, .int .i64 0, .string { data := #[] }, .string { data := #[] }, .int .i64 0, .int .i64 0, .slice none 0 0] := Blk.lit wv2 _ _
            have d1B := rd_gt (rd_low2 r1) (Nat.le_refl (wv2.heap.size))
            have r1 := r1.ext (Ext.alloc no wv2 (.cells #[.int .i64 0, .int .i64 0, .int .i64 0, .int .i64 0, .int .i64 0, .int .i64 0, .string { data := #[] }, .string { data := #[] }, .int .i64 0, .int .i64 0, .slice none 0 0] 26)) (fun _ _ h => h)
            have d2B := rd_gt (rd_low2 r2) (Nat.le_refl (wv2.heap.size))
            have r2 := r2.ext (Ext.alloc no wv2 (.cells #[.int .i64 0, .int .i64 0, .int .i64 0, .int .i64 0, .int .i64 0, .int .i64 0, .string { data := #[] }, .string { data := #[] }, .int .i64 0, .int .i64 0, .slice none 0 0] 26)) (fun _ _ h => h)
            have hsB : w.heap.size ≤ wv2.heap.size := hxw.size
            have hxw := hxw.comp (Ext.alloc no wv2 (.cells #[.int .i64 0, .int .i64 0, .int .i64 0, .int .i64 0, .int .i64 0, .int .i64 0, .string { data := #[] }, .string { data := #[] }, .int .i64 0, .int .i64 0, .slice none 0 0] 26))
            have hx3 := hx3.comp (Ext.alloc no wv2 (.cells #[.int .i64 0, .int .i64 0, .int .i64 0, .int .i64 0, .int .i64 0, .int .i64 0, .string { data := #[] }, .string { data := #[] }, .int .i64 0, .int .i64 0, .slice none 0 0] 26))
            have hT3 : ∀ k, looks [(0, fun z => Ext no w3 z), (2, fun z => Ext no w3 z)] k ((wv2.alloc (.cells #[.int .i64 0, .int .i64 0, .int .i64 0, .int .i64 0, .int .i64 0, .int .i64 0, .string { data := #[] }, .string { data := #[] }, .int .i64 0, .int .i64 0, .slice none 0 0] 26))) := looks_all ⟨hx3, hx3, trivial⟩
            refine hK _ _ (looks [(0, fun z => Ext no w3 z), (2, fun z => Ext no w3 z)]) ⟨.inr (.inr (fun x h => h)), .inr (.inr (fun x h => h)), trivial⟩ hT3 ?_
            clear hK K
            try simp only [Act.put, List.setIfInBounds_toArray, List.set_cons_zero, List.set_cons_succ]
            obtain ⟨gB, hgB⟩ : ∃ g, g = wv2.heap.size := ⟨_, rfl⟩
            rw [← hgB] at zB hsB d1B d2B ⊢
            clear hgB
            generalize (wv2.alloc (.cells #[.int .i64 0, .int .i64 0, .int .i64 0, .int .i64 0, .int .i64 0, .int .i64 0, .string { data := #[] }, .string { data := #[] }, .int .i64 0, .int .i64 0, .slice none 0 0] 26)) = wv7 at *
            refine wpF_exec 4 rfl (by kernel_rfl) (by rfl) ?_
            intro K hK
            go_simp
            have zA : Blk ((wv7.alloc (.cells #[.int .i64 0, .int .i64 0, .int .i64 0, .int .i64 0, .int .i64 0, .int .i64 0, .string { data := #[] }, .string { data := #[] }, .int .i64 0, .int .i64 0, .slice none 0 0] 26))) (wv7.heap.size) [.int .i64 0, .int .i64 0, .int .i64 0, .int .i64 0, .int .i64 0, .int .i64 0, .string { data := #[] }, .string { data := #[] }, .int .i64 0, .int .i64 0, .slice none 0 0] := Blk.lit wv7 _ _
            have nBA : gB < wv7.heap.size := zB.lt (by simp)
            have zB := zB.ext (by simp) (Ext.alloc no wv7 (.cells #[.int .i64 0, .int .i64 0, .int .i64 0, .int .i64 0, .int .i64 0, .int .i64 0, .string { data := #[] }, .string { data := #[] }, .int .i64 0, .int .i64 0, .slice none 0 0] 26)) (fun h => h)
            have d1A := rd_gt (rd_low2 r1) (Nat.le_refl (wv7.heap.size))
            have r1 := r1.ext (Ext.alloc no wv7 (.cells #[.int .i64 0, .int .i64 0, .int .i64 0, .int .i64 0, .int .i64 0, .int .i64 0, .string { data := #[] }, .string { data := #[] }, .int .i64 0, .int .i64 0, .slice none 0 0] 26)) (fun _ _ h => h)
            have d2A := rd_gt (rd_low2 r2) (Nat.le_refl (wv7.heap.size))
            have r2 := r2.ext (Ext.alloc no wv7 (.cells #[.int .i64 0, .int .i64 0, .int .i64 0, .int .i64 0, .int .i64 0, .int .i64 0, .string { data := #[] }, .string { data := #[] }, .int .i64 0, .int .i64 0, .slice none 0 0] 26)) (fun _ _ h => h)
            have hsA : w.heap.size ≤ wv7.heap.size := hxw.size
            have hxw := hxw.comp (Ext.alloc no wv7 (.cells #[.int .i64 0, .int .i64 0, .int .i64 0, .int .i64 0, .int .i64 0, .int .i64 0, .string { data := #[] }, .string { data := #[] }, .int .i64 0, .int .i64 0, .slice none 0 0] 26))
            have hx3 := hx3.comp (Ext.alloc no wv7 (.cells #[.int .i64 0, .int .i64 0, .int .i64 0, .int .i64 0, .int .i64 0, .int .i64 0, .string { data := #[] }, .string { data := #[] }, .int .i64 0, .int .i64 0, .slice none 0 0] 26))
            have hT4 : ∀ k, looks [(0, fun z => Ext no w3 z), (2, fun z => Ext no w3 z)] k ((wv7.alloc (.cells #[.int .i64 0, .int .i64 0, .int .i64 0, .int .i64 0, .int .i64 0, .int .i64 0, .string { data := #[] }, .string { data := #[] }, .int .i64 0, .int .i64 0, .slice none 0 0] 26))) := looks_all ⟨hx3, hx3, trivial⟩
            refine hK _ _ (looks [(0, fun z => Ext no w3 z), (2, fun z => Ext no w3 z)]) ⟨.inr (.inr (fun x h => h)), .inr (.inr (fun x h => h)), trivial⟩ hT4 ?_
            clear hK K
            try simp only [Act.put, List.setIfInBounds_toArray, List.set_cons_zero, List.set_cons_succ]
            obtain ⟨gA, hgA⟩ : ∃ g, g = wv7.heap.size := ⟨_, rfl⟩
            rw [← hgA] at zA hsA nBA d1A d2A ⊢
            clear hgA
            generalize (wv7.alloc (.cells #[.int .i64 0, .int .i64 0, .int .i64 0, .int .i64 0, .int .i64 0, .int .i64 0, .string { data := #[] }, .string { data := #[] }, .int .i64 0, .int .i64 0, .slice none 0 0] 26)) = wv8 at *
            refine wpF_exec 6 rfl (by kernel_rfl) (by rfl) ?_
            intro K hK
            have p0 := zA.cell 0 _ rfl
            have p1 := zA.cell 1 _ rfl
            have p2 := zA.cell 2 _ rfl
            have p3 := zA.cell 3 _ rfl
            have p4 := zA.cell 4 _ rfl
            have p5 := zA.cell 5 _ rfl
            have p6 := zA.cell 6 _ rfl
            have p7 := zA.cell 7 _ rfl
            have p8 := zA.cell 8 _ rfl
            have p9 := zA.cell 9 _ rfl
            have p10 := zA.cell 10 _ rfl
            have f0 := zA.fr 0
            have f1 := zA.fr 1
            have f2 := zA.fr 2
            have f3 := zA.fr 3
            have f4 := zA.fr 4
            have f5 := zA.fr 5
            have f6 := zA.fr 6
            have f7 := zA.fr 7
            have f8 := zA.fr 8
            have f9 := zA.fr 9
            have f10 := zA.fr 10
            go_simp
            clear p0 f0 p1 f1 p2 f2 p3 f3 p4 f4 p5 f5 p6 f6 p7 f7 p8 f8 p9 f9 p10 f10
            have xs : Ext (just gA) wv8 ((((((((((((wv8.setCell ⟨gA, 0, none⟩ (.int .i64 G.dot.dev)).setCell ⟨gA, 1, none⟩ (.int .i64 G.dot.ep)).setCell ⟨gA, 2, none⟩ (.int .i64 G.dot.seq)).setCell ⟨gA, 3, none⟩ (.int .i64 G.coll)).setCell ⟨gA, 4, none⟩ (.int .i64 G.ver)).setCell ⟨gA, 5, none⟩ (.int .i64 G.kind)).setCell ⟨gA, 6, none⟩ (.string (str G.key))).setCell ⟨gA, 7, none⟩ (.string (str G.text))).setCell ⟨gA, 8, none⟩ (.int .i64 G.n)).setCell ⟨gA, 9, none⟩ (.int .i64 G.time)).setCell ⟨gA, 10, none⟩ (.slice a1 G.dots.length c1))) := ((((((((((((Ext.refl (just gA) wv8).comp (Ext.setCell _ ⟨gA, 0, none⟩ (.int .i64 G.dot.dev) rfl)).comp (Ext.setCell _ ⟨gA, 1, none⟩ (.int .i64 G.dot.ep) rfl)).comp (Ext.setCell _ ⟨gA, 2, none⟩ (.int .i64 G.dot.seq) rfl)).comp (Ext.setCell _ ⟨gA, 3, none⟩ (.int .i64 G.coll) rfl)).comp (Ext.setCell _ ⟨gA, 4, none⟩ (.int .i64 G.ver) rfl)).comp (Ext.setCell _ ⟨gA, 5, none⟩ (.int .i64 G.kind) rfl)).comp (Ext.setCell _ ⟨gA, 6, none⟩ (.string (str G.key)) rfl)).comp (Ext.setCell _ ⟨gA, 7, none⟩ (.string (str G.text)) rfl)).comp (Ext.setCell _ ⟨gA, 8, none⟩ (.int .i64 G.n) rfl)).comp (Ext.setCell _ ⟨gA, 9, none⟩ (.int .i64 G.time) rfl)).comp (Ext.setCell _ ⟨gA, 10, none⟩ (.slice a1 G.dots.length c1) rfl))
            have zA : Blk ((((((((((((wv8.setCell ⟨gA, 0, none⟩ (.int .i64 G.dot.dev)).setCell ⟨gA, 1, none⟩ (.int .i64 G.dot.ep)).setCell ⟨gA, 2, none⟩ (.int .i64 G.dot.seq)).setCell ⟨gA, 3, none⟩ (.int .i64 G.coll)).setCell ⟨gA, 4, none⟩ (.int .i64 G.ver)).setCell ⟨gA, 5, none⟩ (.int .i64 G.kind)).setCell ⟨gA, 6, none⟩ (.string (str G.key))).setCell ⟨gA, 7, none⟩ (.string (str G.text))).setCell ⟨gA, 8, none⟩ (.int .i64 G.n)).setCell ⟨gA, 9, none⟩ (.int .i64 G.time)).setCell ⟨gA, 10, none⟩ (.slice a1 G.dots.length c1))) gA (G.cells a1 c1) := (((((((((((zA.set 0 (.int .i64 G.dot.dev) (by simp)).set 1 (.int .i64 G.dot.ep) (by simp)).set 2 (.int .i64 G.dot.seq) (by simp)).set 3 (.int .i64 G.coll) (by simp)).set 4 (.int .i64 G.ver) (by simp)).set 5 (.int .i64 G.kind) (by simp)).set 6 (.string (str G.key)) (by simp)).set 7 (.string (str G.text)) (by simp)).set 8 (.int .i64 G.n) (by simp)).set 9 (.int .i64 G.time) (by simp)).set 10 (.slice a1 G.dots.length c1) (by simp))
            have hxw := (((((((((((hxw.set1 hsA 0 (.int .i64 G.dot.dev)).set1 hsA 1 (.int .i64 G.dot.ep)).set1 hsA 2 (.int .i64 G.dot.seq)).set1 hsA 3 (.int .i64 G.coll)).set1 hsA 4 (.int .i64 G.ver)).set1 hsA 5 (.int .i64 G.kind)).set1 hsA 6 (.string (str G.key))).set1 hsA 7 (.string (str G.text))).set1 hsA 8 (.int .i64 G.n)).set1 hsA 9 (.int .i64 G.time)).set1 hsA 10 (.slice a1 G.dots.length c1))
            have zB := zB.ext (by simp [OpR.cells]) xs (by simp only [Esc.just]; omega)
            have r1 := rd_not r1 d1A xs
            have r2 := rd_not r2 d2A xs
            clear xs
            have hT5 : ∀ k, looks [(0, fun z => True), (2, fun z => True)] k ((((((((((((wv8.setCell ⟨gA, 0, none⟩ (.int .i64 G.dot.dev)).setCell ⟨gA, 1, none⟩ (.int .i64 G.dot.ep)).setCell ⟨gA, 2, none⟩ (.int .i64 G.dot.seq)).setCell ⟨gA, 3, none⟩ (.int .i64 G.coll)).setCell ⟨gA, 4, none⟩ (.int .i64 G.ver)).setCell ⟨gA, 5, none⟩ (.int .i64 G.kind)).setCell ⟨gA, 6, none⟩ (.string (str G.key))).setCell ⟨gA, 7, none⟩ (.string (str G.text))).setCell ⟨gA, 8, none⟩ (.int .i64 G.n)).setCell ⟨gA, 9, none⟩ (.int .i64 G.time)).setCell ⟨gA, 10, none⟩ (.slice a1 G.dots.length c1))) := looks_all ⟨trivial, trivial, trivial⟩
            refine hK _ _ (looks [(0, fun z => True), (2, fun z => True)]) ⟨.inr (.inl (by kernel_rfl)), .inr (.inl (by kernel_rfl)), trivial⟩ hT5 ?_
            clear hK K
            try simp only [Act.put, List.setIfInBounds_toArray, List.set_cons_zero, List.set_cons_succ]
            generalize (((((((((((wv8.setCell ⟨gA, 0, none⟩ (.int .i64 G.dot.dev)).setCell ⟨gA, 1, none⟩ (.int .i64 G.dot.ep)).setCell ⟨gA, 2, none⟩ (.int .i64 G.dot.seq)).setCell ⟨gA, 3, none⟩ (.int .i64 G.coll)).setCell ⟨gA, 4, none⟩ (.int .i64 G.ver)).setCell ⟨gA, 5, none⟩ (.int .i64 G.kind)).setCell ⟨gA, 6, none⟩ (.string (str G.key))).setCell ⟨gA, 7, none⟩ (.string (str G.text))).setCell ⟨gA, 8, none⟩ (.int .i64 G.n)).setCell ⟨gA, 9, none⟩ (.int .i64 G.time)).setCell ⟨gA, 10, none⟩ (.slice a1 G.dots.length c1)) = wv9 at *
            refine wpF_exec 7 rfl (by kernel_rfl) (by rfl) ?_
            intro K hK
            have p0 := zB.cell 0 _ rfl
            have p1 := zB.cell 1 _ rfl
            have p2 := zB.cell 2 _ rfl
            have p3 := zB.cell 3 _ rfl
            have p4 := zB.cell 4 _ rfl
            have p5 := zB.cell 5 _ rfl
            have p6 := zB.cell 6 _ rfl
            have p7 := zB.cell 7 _ rfl
            have p8 := zB.cell 8 _ rfl
            have p9 := zB.cell 9 _ rfl
            have p10 := zB.cell 10 _ rfl
            have f0 := zB.fr 0
            have f1 := zB.fr 1
            have f2 := zB.fr 2
            have f3 := zB.fr 3
            have f4 := zB.fr 4
            have f5 := zB.fr 5
            have f6 := zB.fr 6
            have f7 := zB.fr 7
            have f8 := zB.fr 8
            have f9 := zB.fr 9
            have f10 := zB.fr 10
            go_simp
            clear p0 f0 p1 f1 p2 f2 p3 f3 p4 f4 p5 f5 p6 f6 p7 f7 p8 f8 p9 f9 p10 f10
            have xs : Ext (just gB) wv9 ((((((((((((wv9.setCell ⟨gB, 0, none⟩ (.int .i64 G.dot.dev)).setCell ⟨gB, 1, none⟩ (.int .i64 G.dot.ep)).setCell ⟨gB, 2, none⟩ (.int .i64 G.dot.seq)).setCell ⟨gB, 3, none⟩ (.int .i64 G.coll)).setCell ⟨gB, 4, none⟩ (.int .i64 G.ver)).setCell ⟨gB, 5, none⟩ (.int .i64 G.kind)).setCell ⟨gB, 6, none⟩ (.string (str G.key))).setCell ⟨gB, 7, none⟩ (.string (str G.text))).setCell ⟨gB, 8, none⟩ (.int .i64 G.n)).setCell ⟨gB, 9, none⟩ (.int .i64 G.time)).setCell ⟨gB, 10, none⟩ (.slice a2 G.dots.length c2))) := ((((((((((((Ext.refl (just gB) wv9).comp (Ext.setCell _ ⟨gB, 0, none⟩ (.int .i64 G.dot.dev) rfl)).comp (Ext.setCell _ ⟨gB, 1, none⟩ (.int .i64 G.dot.ep) rfl)).comp (Ext.setCell _ ⟨gB, 2, none⟩ (.int .i64 G.dot.seq) rfl)).comp (Ext.setCell _ ⟨gB, 3, none⟩ (.int .i64 G.coll) rfl)).comp (Ext.setCell _ ⟨gB, 4, none⟩ (.int .i64 G.ver) rfl)).comp (Ext.setCell _ ⟨gB, 5, none⟩ (.int .i64 G.kind) rfl)).comp (Ext.setCell _ ⟨gB, 6, none⟩ (.string (str G.key)) rfl)).comp (Ext.setCell _ ⟨gB, 7, none⟩ (.string (str G.text)) rfl)).comp (Ext.setCell _ ⟨gB, 8, none⟩ (.int .i64 G.n) rfl)).comp (Ext.setCell _ ⟨gB, 9, none⟩ (.int .i64 G.time) rfl)).comp (Ext.setCell _ ⟨gB, 10, none⟩ (.slice a2 G.dots.length c2) rfl))
            have zB : Blk ((((((((((((wv9.setCell ⟨gB, 0, none⟩ (.int .i64 G.dot.dev)).setCell ⟨gB, 1, none⟩ (.int .i64 G.dot.ep)).setCell ⟨gB, 2, none⟩ (.int .i64 G.dot.seq)).setCell ⟨gB, 3, none⟩ (.int .i64 G.coll)).setCell ⟨gB, 4, none⟩ (.int .i64 G.ver)).setCell ⟨gB, 5, none⟩ (.int .i64 G.kind)).setCell ⟨gB, 6, none⟩ (.string (str G.key))).setCell ⟨gB, 7, none⟩ (.string (str G.text))).setCell ⟨gB, 8, none⟩ (.int .i64 G.n)).setCell ⟨gB, 9, none⟩ (.int .i64 G.time)).setCell ⟨gB, 10, none⟩ (.slice a2 G.dots.length c2))) gB (G.cells a2 c2) := (((((((((((zB.set 0 (.int .i64 G.dot.dev) (by simp)).set 1 (.int .i64 G.dot.ep) (by simp)).set 2 (.int .i64 G.dot.seq) (by simp)).set 3 (.int .i64 G.coll) (by simp)).set 4 (.int .i64 G.ver) (by simp)).set 5 (.int .i64 G.kind) (by simp)).set 6 (.string (str G.key)) (by simp)).set 7 (.string (str G.text)) (by simp)).set 8 (.int .i64 G.n) (by simp)).set 9 (.int .i64 G.time) (by simp)).set 10 (.slice a2 G.dots.length c2) (by simp))
            have hxw := (((((((((((hxw.set1 hsB 0 (.int .i64 G.dot.dev)).set1 hsB 1 (.int .i64 G.dot.ep)).set1 hsB 2 (.int .i64 G.dot.seq)).set1 hsB 3 (.int .i64 G.coll)).set1 hsB 4 (.int .i64 G.ver)).set1 hsB 5 (.int .i64 G.kind)).set1 hsB 6 (.string (str G.key))).set1 hsB 7 (.string (str G.text))).set1 hsB 8 (.int .i64 G.n)).set1 hsB 9 (.int .i64 G.time)).set1 hsB 10 (.slice a2 G.dots.length c2))
            have zA := zA.ext (by simp [OpR.cells]) xs (by simp only [Esc.just]; omega)
            have r1 := rd_not r1 d1B xs
            have r2 := rd_not r2 d2B xs
            clear xs
            have hT6 : ∀ k, looks [(0, fun z => True), (2, fun z => True)] k ((((((((((((wv9.setCell ⟨gB, 0, none⟩ (.int .i64 G.dot.dev)).setCell ⟨gB, 1, none⟩ (.int .i64 G.dot.ep)).setCell ⟨gB, 2, none⟩ (.int .i64 G.dot.seq)).setCell ⟨gB, 3, none⟩ (.int .i64 G.coll)).setCell ⟨gB, 4, none⟩ (.int .i64 G.ver)).setCell ⟨gB, 5, none⟩ (.int .i64 G.kind)).setCell ⟨gB, 6, none⟩ (.string (str G.key))).setCell ⟨gB, 7, none⟩ (.string (str G.text))).setCell ⟨gB, 8, none⟩ (.int .i64 G.n)).setCell ⟨gB, 9, none⟩ (.int .i64 G.time)).setCell ⟨gB, 10, none⟩ (.slice a2 G.dots.length c2))) := looks_all ⟨trivial, trivial, trivial⟩
            refine hK _ _ (looks [(0, fun z => True), (2, fun z => True)]) ⟨.inr (.inl (by kernel_rfl)), .inr (.inl (by kernel_rfl)), trivial⟩ hT6 ?_
            clear hK K
            try simp only [Act.put, List.setIfInBounds_toArray, List.set_cons_zero, List.set_cons_succ]
            generalize (((((((((((wv9.setCell ⟨gB, 0, none⟩ (.int .i64 G.dot.dev)).setCell ⟨gB, 1, none⟩ (.int .i64 G.dot.ep)).setCell ⟨gB, 2, none⟩ (.int .i64 G.dot.seq)).setCell ⟨gB, 3, none⟩ (.int .i64 G.coll)).setCell ⟨gB, 4, none⟩ (.int .i64 G.ver)).setCell ⟨gB, 5, none⟩ (.int .i64 G.kind)).setCell ⟨gB, 6, none⟩ (.string (str G.key))).setCell ⟨gB, 7, none⟩ (.string (str G.text))).setCell ⟨gB, 8, none⟩ (.int .i64 G.n)).setCell ⟨gB, 9, none⟩ (.int .i64 G.time)).setCell ⟨gB, 10, none⟩ (.slice a2 G.dots.length c2)) = wv10 at *
            refine wpF_done (by kernel_rfl) ?_ _
            go_wp2_with fail
            go_meet
            exact ⟨gA, gB, a1, a2, c1, c2, rfl, rfl, by omega, hsA, hsB, zA, zB, r1, r2, d1B, d2B, hxw⟩
        · refine ⟨_, rfl, by rfl, ?_⟩
          intro K hK
          go_simp
          have zA : Blk ((wv1.alloc (.cells #[.int .i64 0, .int .i64 0, .int .i64 0, .int .i64 0, .int .i64 0, .int .i64 0, .string { data := #[] }, .string { data := #[] }, .int .i64 0, .int .i64 0, .slice none 0 0] 26))) (wv1.heap.size) [.int .i64 0, .int .i64 0, .int .i64 0, .int .i64 0, .int .i64 0, .int .i64 0, .string { data := #[] }, .string { data := #[] }, .int .i64 0, .int .i64 0, .slice none 0 0] := Blk.lit wv1 _ _
          have d1A := rd_gt (rd_low2 r1) (Nat.le_refl (wv1.heap.size))
          have r1 := r1.ext (Ext.alloc no wv1 (.cells #[.int .i64 0, .int .i64 0, .int .i64 0, .int .i64 0, .int .i64 0, .int .i64 0, .string { data := #[] }, .string { data := #[] }, .int .i64 0, .int .i64 0, .slice none 0 0] 26)) (fun _ _ h => h)
          have hsA : w.heap.size ≤ wv1.heap.size := hxw.size
          have hxw := hxw.comp (Ext.alloc no wv1 (.cells #[.int .i64 0, .int .i64 0, .int .i64 0, .int .i64 0, .int .i64 0, .int .i64 0, .string { data := #[] }, .string { data := #[] }, .int .i64 0, .int .i64 0, .slice none 0 0] 26))
          have hx3 := hx3.comp (Ext.alloc no wv1 (.cells #[.int .i64 0, .int .i64 0, .int .i64 0, .int .i64 0, .int .i64 0, .int .i64 0, .string { data := #[] }, .string { data := #[] }, .int .i64 0, .int .i64 0, .slice none 0 0] 26))
          have hT2 : ∀ k, looks [(0, fun z => Ext no w3 z), (2, fun z => Ext no w3 z)] k ((wv1.alloc (.cells #[.int .i64 0, .int .i64 0, .int .i64 0, .int .i64 0, .int .i64 0, .int .i64 0, .string { data := #[] }, .string { data := #[] }, .int .i64 0, .int .i64 0, .slice none 0 0] 26))) := looks_all ⟨hx3, hx3, trivial⟩
          refine hK _ _ (looks [(0, fun z => Ext no w3 z), (2, fun z => Ext no w3 z)]) ⟨.inr (.inr (fun x h => h)), .inr (.inr (fun x h => h)), trivial⟩ hT2 ?_
          clear hK K
          try simp only [Act.put, List.setIfInBounds_toArray, List.set_cons_zero, List.set_cons_succ]
          obtain ⟨gA, hgA⟩ : ∃ g, g = wv1.heap.size := ⟨_, rfl⟩
          rw [← hgA] at zA hsA d1A ⊢
          clear hgA
          generalize (wv1.alloc (.cells #[.int .i64 0, .int .i64 0, .int .i64 0, .int .i64 0, .int .i64 0, .int .i64 0, .string { data := #[] }, .string { data := #[] }, .int .i64 0, .int .i64 0, .slice none 0 0] 26)) = wv11 at *
          refine wpF_execs [3, 5] (by kernel_rfl) (by simp) ?_
          intro j hj
          simp only [List.mem_cons, List.not_mem_nil, or_false] at hj
          rcases hj with rfl | rfl
          · refine ⟨_, rfl, by rfl, ?_⟩
            intro K hK
            go_simp
            refine (good_any (wv11) o a c hok (hrw.ext hxw (fun _ _ h => h)) hl hc).mono ?_
            rintro e wv12 ⟨a2, c2, rfl, r2, l2, m2, xg, fz2⟩
            rw [← HG.out] at r2 l2 ⊢
            unfold OpR.v
            have d2A : ds G.dots ≠ [] → ∀ ad, a2 = some ad → ad.block ≠ gA := fun _ ad h => by have := fz2 ad h; have := zA.lt (by simp); omega
            have zA := zA.ext (by simp) xg (fun h => h)
            have r1 := r1.ext xg (fun _ _ h => h)
            have hxw := hxw.comp xg
            have hx3 := hx3.comp xg
            have hT3 : ∀ k, looks [(0, fun z => Ext no w3 z), (2, fun z => Ext no w3 z)] k (wv12) := looks_all ⟨hx3, hx3, trivial⟩
            refine hK _ _ (looks [(0, fun z => Ext no w3 z), (2, fun z => Ext no w3 z)]) ⟨.inr (.inl (by kernel_rfl)), .inr (.inl (by kernel_rfl)), trivial⟩ hT3 ?_
            clear hK K
            try simp only [Act.put, List.setIfInBounds_toArray, List.set_cons_zero, List.set_cons_succ]
            refine wpF_exec 5 rfl (by kernel_rfl) (by rfl) ?_
            intro K hK
            go_simp
            have zB : Blk ((wv12.alloc (.cells #[.int .i64 0, .int .i64 0, .int .i64 0, .int .i64 0, .int .i64 0, .int .i64 0, .string { data := #[] }, .string { data := #[] }, .int .i64 0, .int .i64 0, .slice none 0 0] 26))) (wv12.heap.size) [.int .i64 0, .int .i64 0, .int .i64 0, .int .i64 0, .int .i64 0, .int .i64 0, .string { data := #[] }, .string { data := #[] }, .int .i64 0, .int .i64 0, .slice none 0 0] := Blk.lit wv12 _ _
            have nAB : gA < wv12.heap.size := zA.lt (by simp)
            have zA := zA.ext (by simp) (Ext.alloc no wv12 (.cells #[.int .i64 0, .int .i64 0, .int .i64 0, .int .i64 0, .int .i64 0, .int .i64 0, .string { data := #[] }, .string { data := #[] }, .int .i64 0, .int .i64 0, .slice none 0 0] 26)) (fun h => h)
            have d1B := rd_gt (rd_low2 r1) (Nat.le_refl (wv12.heap.size))
            have r1 := r1.ext (Ext.alloc no wv12 (.cells #[.int .i64 0, .int .i64 0, .int .i64 0, .int .i64 0, .int .i64 0, .int .i64 0, .string { data := #[] }, .string { data := #[] }, .int .i64 0, .int .i64 0, .slice none 0 0] 26)) (fun _ _ h => h)
            have d2B := rd_gt (rd_low2 r2) (Nat.le_refl (wv12.heap.size))
            have r2 := r2.ext (Ext.alloc no wv12 (.cells #[.int .i64 0, .int .i64 0, .int .i64 0, .int .i64 0, .int .i64 0, .int .i64 0, .string { data := #[] }, .string { data := #[] }, .int .i64 0, .int .i64 0, .slice none 0 0] 26)) (fun _ _ h => h)
            have hsB : w.heap.size ≤ wv12.heap.size := hxw.size
            have hxw := hxw.comp (Ext.alloc no wv12 (.cells #[.int .i64 0, .int .i64 0, .int .i64 0, .int .i64 0, .int .i64 0, .int .i64 0, .string { data := #[] }, .string { data := #[] }, .int .i64 0, .int .i64 0, .slice none 0 0] 26))
            have hx3 := hx3.comp (Ext.alloc no wv12 (.cells #[.int .i64 0, .int .i64 0, .int .i64 0, .int .i64 0, .int .i64 0, .int .i64 0, .string { data := #[] }, .string { data := #[] }, .int .i64 0, .int .i64 0, .slice none 0 0] 26))
            have hT4 : ∀ k, looks [(0, fun z => Ext no w3 z), (2, fun z => Ext no w3 z)] k ((wv12.alloc (.cells #[.int .i64 0, .int .i64 0, .int .i64 0, .int .i64 0, .int .i64 0, .int .i64 0, .string { data := #[] }, .string { data := #[] }, .int .i64 0, .int .i64 0, .slice none 0 0] 26))) := looks_all ⟨hx3, hx3, trivial⟩
            refine hK _ _ (looks [(0, fun z => Ext no w3 z), (2, fun z => Ext no w3 z)]) ⟨.inr (.inr (fun x h => h)), .inr (.inr (fun x h => h)), trivial⟩ hT4 ?_
            clear hK K
            try simp only [Act.put, List.setIfInBounds_toArray, List.set_cons_zero, List.set_cons_succ]
            obtain ⟨gB, hgB⟩ : ∃ g, g = wv12.heap.size := ⟨_, rfl⟩
            rw [← hgB] at zB hsB nAB d1B d2B ⊢
            clear hgB
            generalize (wv12.alloc (.cells #[.int .i64 0, .int .i64 0, .int .i64 0, .int .i64 0, .int .i64 0, .int .i64 0, .string { data := #[] }, .string { data := #[] }, .int .i64 0, .int .i64 0, .slice none 0 0] 26)) = wv13 at *
            refine wpF_exec 6 rfl (by kernel_rfl) (by rfl) ?_
            intro K hK
            have p0 := zA.cell 0 _ rfl
            have p1 := zA.cell 1 _ rfl
            have p2 := zA.cell 2 _ rfl
            have p3 := zA.cell 3 _ rfl
            have p4 := zA.cell 4 _ rfl
            have p5 := zA.cell 5 _ rfl
            have p6 := zA.cell 6 _ rfl
            have p7 := zA.cell 7 _ rfl
            have p8 := zA.cell 8 _ rfl
            have p9 := zA.cell 9 _ rfl
            have p10 := zA.cell 10 _ rfl
            have f0 := zA.fr 0
            have f1 := zA.fr 1
            have f2 := zA.fr 2
            have f3 := zA.fr 3
            have f4 := zA.fr 4
            have f5 := zA.fr 5
            have f6 := zA.fr 6
            have f7 := zA.fr 7
            have f8 := zA.fr 8
            have f9 := zA.fr 9
            have f10 := zA.fr 10
            go_simp
            clear p0 f0 p1 f1 p2 f2 p3 f3 p4 f4 p5 f5 p6 f6 p7 f7 p8 f8 p9 f9 p10 f10
            have xs : Ext (just gA) wv13 ((((((((((((wv13.setCell ⟨gA, 0, none⟩ (.int .i64 G.dot.dev)).setCell ⟨gA, 1, none⟩ (.int .i64 G.dot.ep)).setCell ⟨gA, 2, none⟩ (.int .i64 G.dot.seq)).setCell ⟨gA, 3, none⟩ (.int .i64 G.coll)).setCell ⟨gA, 4, none⟩ (.int .i64 G.ver)).setCell ⟨gA, 5, none⟩ (.int .i64 G.kind)).setCell ⟨gA, 6, none⟩ (.string (str G.key))).setCell ⟨gA, 7, none⟩ (.string (str G.text))).setCell ⟨gA, 8, none⟩ (.int .i64 G.n)).setCell ⟨gA, 9, none⟩ (.int .i64 G.time)).setCell ⟨gA, 10, none⟩ (.slice a1 G.dots.length c1))) := ((((((((((((Ext.refl (just gA) wv13).comp (Ext.setCell _ ⟨gA, 0, none⟩ (.int .i64 G.dot.dev) rfl)).comp (Ext.setCell _ ⟨gA, 1, none⟩ (.int .i64 G.dot.ep) rfl)).comp (Ext.setCell _ ⟨gA, 2, none⟩ (.int .i64 G.dot.seq) rfl)).comp (Ext.setCell _ ⟨gA, 3, none⟩ (.int .i64 G.coll) rfl)).comp (Ext.setCell _ ⟨gA, 4, none⟩ (.int .i64 G.ver) rfl)).comp (Ext.setCell _ ⟨gA, 5, none⟩ (.int .i64 G.kind) rfl)).comp (Ext.setCell _ ⟨gA, 6, none⟩ (.string (str G.key)) rfl)).comp (Ext.setCell _ ⟨gA, 7, none⟩ (.string (str G.text)) rfl)).comp (Ext.setCell _ ⟨gA, 8, none⟩ (.int .i64 G.n) rfl)).comp (Ext.setCell _ ⟨gA, 9, none⟩ (.int .i64 G.time) rfl)).comp (Ext.setCell _ ⟨gA, 10, none⟩ (.slice a1 G.dots.length c1) rfl))
            have zA : Blk ((((((((((((wv13.setCell ⟨gA, 0, none⟩ (.int .i64 G.dot.dev)).setCell ⟨gA, 1, none⟩ (.int .i64 G.dot.ep)).setCell ⟨gA, 2, none⟩ (.int .i64 G.dot.seq)).setCell ⟨gA, 3, none⟩ (.int .i64 G.coll)).setCell ⟨gA, 4, none⟩ (.int .i64 G.ver)).setCell ⟨gA, 5, none⟩ (.int .i64 G.kind)).setCell ⟨gA, 6, none⟩ (.string (str G.key))).setCell ⟨gA, 7, none⟩ (.string (str G.text))).setCell ⟨gA, 8, none⟩ (.int .i64 G.n)).setCell ⟨gA, 9, none⟩ (.int .i64 G.time)).setCell ⟨gA, 10, none⟩ (.slice a1 G.dots.length c1))) gA (G.cells a1 c1) := (((((((((((zA.set 0 (.int .i64 G.dot.dev) (by simp)).set 1 (.int .i64 G.dot.ep) (by simp)).set 2 (.int .i64 G.dot.seq) (by simp)).set 3 (.int .i64 G.coll) (by simp)).set 4 (.int .i64 G.ver) (by simp)).set 5 (.int .i64 G.kind) (by simp)).set 6 (.string (str G.key)) (by simp)).set 7 (.string (str G.text)) (by simp)).set 8 (.int .i64 G.n) (by simp)).set 9 (.int .i64 G.time) (by simp)).set 10 (.slice a1 G.dots.length c1) (by simp))
            have hxw := (((((((((((hxw.set1 hsA 0 (.int .i64 G.dot.dev)).set1 hsA 1 (.int .i64 G.dot.ep)).set1 hsA 2 (.int .i64 G.dot.seq)).set1 hsA 3 (.int .i64 G.coll)).set1 hsA 4 (.int .i64 G.ver)).set1 hsA 5 (.int .i64 G.kind)).set1 hsA 6 (.string (str G.key))).set1 hsA 7 (.string (str G.text))).set1 hsA 8 (.int .i64 G.n)).set1 hsA 9 (.int .i64 G.time)).set1 hsA 10 (.slice a1 G.dots.length c1))
            have zB := zB.ext (by simp [OpR.cells]) xs (by simp only [Esc.just]; omega)
            have r1 := rd_not r1 d1A xs
            have r2 := rd_not r2 d2A xs
            clear xs
            have hT5 : ∀ k, looks [(0, fun z => True), (2, fun z => True)] k ((((((((((((wv13.setCell ⟨gA, 0, none⟩ (.int .i64 G.dot.dev)).setCell ⟨gA, 1, none⟩ (.int .i64 G.dot.ep)).setCell ⟨gA, 2, none⟩ (.int .i64 G.dot.seq)).setCell ⟨gA, 3, none⟩ (.int .i64 G.coll)).setCell ⟨gA, 4, none⟩ (.int .i64 G.ver)).setCell ⟨gA, 5, none⟩ (.int .i64 G.kind)).setCell ⟨gA, 6, none⟩ (.string (str G.key))).setCell ⟨gA, 7, none⟩ (.string (str G.text))).setCell ⟨gA, 8, none⟩ (.int .i64 G.n)).setCell ⟨gA, 9, none⟩ (.int .i64 G.time)).setCell ⟨gA, 10, none⟩ (.slice a1 G.dots.length c1))) := looks_all ⟨trivial, trivial, trivial⟩
            refine hK _ _ (looks [(0, fun z => True), (2, fun z => True)]) ⟨.inr (.inl (by kernel_rfl)), .inr (.inl (by kernel_rfl)), trivial⟩ hT5 ?_
            clear hK K
            try simp only [Act.put, List.setIfInBounds_toArray, List.set_cons_zero, List.set_cons_succ]
            generalize (((((((((((wv13.setCell ⟨gA, 0, none⟩ (.int .i64 G.dot.dev)).setCell ⟨gA, 1, none⟩ (.int .i64 G.dot.ep)).setCell ⟨gA, 2, none⟩ (.int .i64 G.dot.seq)).setCell ⟨gA, 3, none⟩ (.int .i64 G.coll)).setCell ⟨gA, 4, none⟩ (.int .i64 G.ver)).setCell ⟨gA, 5, none⟩ (.int .i64 G.kind)).setCell ⟨gA, 6, none⟩ (.string (str G.key))).setCell ⟨gA, 7, none⟩ (.string (str G.text))).setCell ⟨gA, 8, none⟩ (.int .i64 G.n)).setCell ⟨gA, 9, none⟩ (.int .i64 G.time)).setCell ⟨gA, 10, none⟩ (.slice a1 G.dots.length c1)) = wv14 at *
            refine wpF_exec 7 rfl (by kernel_rfl) (by rfl) ?_
            intro K hK
            have p0 := zB.cell 0 _ rfl
            have p1 := zB.cell 1 _ rfl
            have p2 := zB.cell 2 _ rfl
            have p3 := zB.cell 3 _ rfl
            have p4 := zB.cell 4 _ rfl
            have p5 := zB.cell 5 _ rfl
            have p6 := zB.cell 6 _ rfl
            have p7 := zB.cell 7 _ rfl
            have p8 := zB.cell 8 _ rfl
            have p9 := zB.cell 9 _ rfl
            have p10 := zB.cell 10 _ rfl
            have f0 := zB.fr 0
            have f1 := zB.fr 1
            have f2 := zB.fr 2
            have f3 := zB.fr 3
            have f4 := zB.fr 4
            have f5 := zB.fr 5
            have f6 := zB.fr 6
            have f7 := zB.fr 7
            have f8 := zB.fr 8
            have f9 := zB.fr 9
            have f10 := zB.fr 10
            go_simp
            clear p0 f0 p1 f1 p2 f2 p3 f3 p4 f4 p5 f5 p6 f6 p7 f7 p8 f8 p9 f9 p10 f10
            have xs : Ext (just gB) wv14 ((((((((((((wv14.setCell ⟨gB, 0, none⟩ (.int .i64 G.dot.dev)).setCell ⟨gB, 1, none⟩ (.int .i64 G.dot.ep)).setCell ⟨gB, 2, none⟩ (.int .i64 G.dot.seq)).setCell ⟨gB, 3, none⟩ (.int .i64 G.coll)).setCell ⟨gB, 4, none⟩ (.int .i64 G.ver)).setCell ⟨gB, 5, none⟩ (.int .i64 G.kind)).setCell ⟨gB, 6, none⟩ (.string (str G.key))).setCell ⟨gB, 7, none⟩ (.string (str G.text))).setCell ⟨gB, 8, none⟩ (.int .i64 G.n)).setCell ⟨gB, 9, none⟩ (.int .i64 G.time)).setCell ⟨gB, 10, none⟩ (.slice a2 G.dots.length c2))) := ((((((((((((Ext.refl (just gB) wv14).comp (Ext.setCell _ ⟨gB, 0, none⟩ (.int .i64 G.dot.dev) rfl)).comp (Ext.setCell _ ⟨gB, 1, none⟩ (.int .i64 G.dot.ep) rfl)).comp (Ext.setCell _ ⟨gB, 2, none⟩ (.int .i64 G.dot.seq) rfl)).comp (Ext.setCell _ ⟨gB, 3, none⟩ (.int .i64 G.coll) rfl)).comp (Ext.setCell _ ⟨gB, 4, none⟩ (.int .i64 G.ver) rfl)).comp (Ext.setCell _ ⟨gB, 5, none⟩ (.int .i64 G.kind) rfl)).comp (Ext.setCell _ ⟨gB, 6, none⟩ (.string (str G.key)) rfl)).comp (Ext.setCell _ ⟨gB, 7, none⟩ (.string (str G.text)) rfl)).comp (Ext.setCell _ ⟨gB, 8, none⟩ (.int .i64 G.n) rfl)).comp (Ext.setCell _ ⟨gB, 9, none⟩ (.int .i64 G.time) rfl)).comp (Ext.setCell _ ⟨gB, 10, none⟩ (.slice a2 G.dots.length c2) rfl))
            have zB : Blk ((((((((((((wv14.setCell ⟨gB, 0, none⟩ (.int .i64 G.dot.dev)).setCell ⟨gB, 1, none⟩ (.int .i64 G.dot.ep)).setCell ⟨gB, 2, none⟩ (.int .i64 G.dot.seq)).setCell ⟨gB, 3, none⟩ (.int .i64 G.coll)).setCell ⟨gB, 4, none⟩ (.int .i64 G.ver)).setCell ⟨gB, 5, none⟩ (.int .i64 G.kind)).setCell ⟨gB, 6, none⟩ (.string (str G.key))).setCell ⟨gB, 7, none⟩ (.string (str G.text))).setCell ⟨gB, 8, none⟩ (.int .i64 G.n)).setCell ⟨gB, 9, none⟩ (.int .i64 G.time)).setCell ⟨gB, 10, none⟩ (.slice a2 G.dots.length c2))) gB (G.cells a2 c2) := (((((((((((zB.set 0 (.int .i64 G.dot.dev) (by simp)).set 1 (.int .i64 G.dot.ep) (by simp)).set 2 (.int .i64 G.dot.seq) (by simp)).set 3 (.int .i64 G.coll) (by simp)).set 4 (.int .i64 G.ver) (by simp)).set 5 (.int .i64 G.kind) (by simp)).set 6 (.string (str G.key)) (by simp)).set 7 (.string (str G.text)) (by simp)).set 8 (.int .i64 G.n) (by simp)).set 9 (.int .i64 G.time) (by simp)).set 10 (.slice a2 G.dots.length c2) (by simp))
            have hxw := (((((((((((hxw.set1 hsB 0 (.int .i64 G.dot.dev)).set1 hsB 1 (.int .i64 G.dot.ep)).set1 hsB 2 (.int .i64 G.dot.seq)).set1 hsB 3 (.int .i64 G.coll)).set1 hsB 4 (.int .i64 G.ver)).set1 hsB 5 (.int .i64 G.kind)).set1 hsB 6 (.string (str G.key))).set1 hsB 7 (.string (str G.text))).set1 hsB 8 (.int .i64 G.n)).set1 hsB 9 (.int .i64 G.time)).set1 hsB 10 (.slice a2 G.dots.length c2))
            have zA := zA.ext (by simp [OpR.cells]) xs (by simp only [Esc.just]; omega)
            have r1 := rd_not r1 d1B xs
            have r2 := rd_not r2 d2B xs
            clear xs
            have hT6 : ∀ k, looks [(0, fun z => True), (2, fun z => True)] k ((((((((((((wv14.setCell ⟨gB, 0, none⟩ (.int .i64 G.dot.dev)).setCell ⟨gB, 1, none⟩ (.int .i64 G.dot.ep)).setCell ⟨gB, 2, none⟩ (.int .i64 G.dot.seq)).setCell ⟨gB, 3, none⟩ (.int .i64 G.coll)).setCell ⟨gB, 4, none⟩ (.int .i64 G.ver)).setCell ⟨gB, 5, none⟩ (.int .i64 G.kind)).setCell ⟨gB, 6, none⟩ (.string (str G.key))).setCell ⟨gB, 7, none⟩ (.string (str G.text))).setCell ⟨gB, 8, none⟩ (.int .i64 G.n)).setCell ⟨gB, 9, none⟩ (.int .i64 G.time)).setCell ⟨gB, 10, none⟩ (.slice a2 G.dots.length c2))) := looks_all ⟨trivial, trivial, trivial⟩
            refine hK _ _ (looks [(0, fun z => True), (2, fun z => True)]) ⟨.inr (.inl (by kernel_rfl)), .inr (.inl (by kernel_rfl)), trivial⟩ hT6 ?_
            clear hK K
            try simp only [Act.put, List.setIfInBounds_toArray, List.set_cons_zero, List.set_cons_succ]
            generalize (((((((((((wv14.setCell ⟨gB, 0, none⟩ (.int .i64 G.dot.dev)).setCell ⟨gB, 1, none⟩ (.int .i64 G.dot.ep)).setCell ⟨gB, 2, none⟩ (.int .i64 G.dot.seq)).setCell ⟨gB, 3, none⟩ (.int .i64 G.coll)).setCell ⟨gB, 4, none⟩ (.int .i64 G.ver)).setCell ⟨gB, 5, none⟩ (.int .i64 G.kind)).setCell ⟨gB, 6, none⟩ (.string (str G.key))).setCell ⟨gB, 7, none⟩ (.string (str G.text))).setCell ⟨gB, 8, none⟩ (.int .i64 G.n)).setCell ⟨gB, 9, none⟩ (.int .i64 G.time)).setCell ⟨gB, 10, none⟩ (.slice a2 G.dots.length c2)) = wv15 at *
            refine wpF_done (by kernel_rfl) ?_ _
            go_wp2_with fail
            go_meet
            exact ⟨gA, gB, a1, a2, c1, c2, rfl, rfl, by omega, hsA, hsB, zA, zB, r1, r2, d1B, d2B, hxw⟩
          · refine ⟨_, rfl, by rfl, ?_⟩
            intro K hK
            go_simp
            have zB : Blk ((wv11.alloc (.cells #[.int .i64 0, .int .i64 0, .int .i64 0, .int .i64 0, .int .i64 0, .int .i64 0, .string { data := #[] }, .string { data := #[] }, .int .i64 0, .int .i64 0, .slice none 0 0] 26))) (wv11.heap.size) [.int .i64 0, .int .i64 0, .int .i64 0, .int .i64 0, .int .i64 0, .int .i64 0, .string { data := #[] }, .string { data := #[] }, .int .i64 0, .int .i64 0, .slice none 0 0] := Blk.lit wv11 _ _
            have nAB : gA < wv11.heap.size := zA.lt (by simp)
            have zA := zA.ext (by simp) (Ext.alloc no wv11 (.cells #[.int .i64 0, .int .i64 0, .int .i64 0, .int .i64 0, .int .i64 0, .int .i64 0, .string { data := #[] }, .string { data := #[] }, .int .i64 0, .int .i64 0, .slice none 0 0] 26)) (fun h => h)
            have d1B := rd_gt (rd_low2 r1) (Nat.le_refl (wv11.heap.size))
            have r1 := r1.ext (Ext.alloc no wv11 (.cells #[.int .i64 0, .int .i64 0, .int .i64 0, .int .i64 0, .int .i64 0, .int .i64 0, .string { data := #[] }, .string { data := #[] }, .int .i64 0, .int .i64 0, .slice none 0 0] 26)) (fun _ _ h => h)
            have hsB : w.heap.size ≤ wv11.heap.size := hxw.size
            have hxw := hxw.comp (Ext.alloc no wv11 (.cells #[.int .i64 0, .int .i64 0, .int .i64 0, .int .i64 0, .int .i64 0, .int .i64 0, .string { data := #[] }, .string { data := #[] }, .int .i64 0, .int .i64 0, .slice none 0 0] 26))
            have hx3 := hx3.comp (Ext.alloc no wv11 (.cells #[.int .i64 0, .int .i64 0, .int .i64 0, .int .i64 0, .int .i64 0, .int .i64 0, .string { data := #[] }, .string { data := #[] }, .int .i64 0, .int .i64 0, .slice none 0 0] 26))
            have hT3 : ∀ k, looks [(0, fun z => Ext no w3 z), (2, fun z => Ext no w3 z)] k ((wv11.alloc (.cells #[.int .i64 0, .int .i64 0, .int .i64 0, .int .i64 0, .int .i64 0, .int .i64 0, .string { data := #[] }, .string { data := #[] }, .int .i64 0, .int .i64 0, .slice none 0 0] 26))) := looks_all ⟨hx3, hx3, trivial⟩
            refine hK _ _ (looks [(0, fun z => Ext no w3 z), (2, fun z => Ext no w3 z)]) ⟨.inr (.inr (fun x h => h)), .inr (.inr (fun x h => h)), trivial⟩ hT3 ?_
            clear hK K
            try simp only [Act.put, List.setIfInBounds_toArray, List.set_cons_zero, List.set_cons_succ]
            obtain ⟨gB, hgB⟩ : ∃ g, g = wv11.heap.size := ⟨_, rfl⟩
            rw [← hgB] at zB hsB nAB d1B ⊢
            clear hgB
            generalize (wv11.alloc (.cells #[.int .i64 0, .int .i64 0, .int .i64 0, .int .i64 0, .int .i64 0, .int .i64 0, .string { data := #[] }, .string { data := #[] }, .int .i64 0, .int .i64 0, .slice none 0 0] 26)) = wv16 at *
            refine wpF_exec 3 rfl (by kernel_rfl) (by rfl) ?_
            intro K hK
            go_simp
            refine (good_any (wv16) o a c hok (hrw.ext hxw (fun _ _ h => h)) hl hc).mono ?_
            rintro e wv17 ⟨a2, c2, rfl, r2, l2, m2, xg, fz2⟩
            rw [← HG.out] at r2 l2 ⊢
            unfold OpR.v
            have d2A : ds G.dots ≠ [] → ∀ ad, a2 = some ad → ad.block ≠ gA := fun _ ad h => by have := fz2 ad h; have := zA.lt (by simp); omega
            have zA := zA.ext (by simp) xg (fun h => h)
            have d2B : ds G.dots ≠ [] → ∀ ad, a2 = some ad → ad.block ≠ gB := fun _ ad h => by have := fz2 ad h; have := zB.lt (by simp); omega
            have zB := zB.ext (by simp) xg (fun h => h)
            have r1 := r1.ext xg (fun _ _ h => h)
            have hxw := hxw.comp xg
            have hx3 := hx3.comp xg
            have hT4 : ∀ k, looks [(0, fun z => Ext no w3 z), (2, fun z => Ext no w3 z)] k (wv17) := looks_all ⟨hx3, hx3, trivial⟩
            refine hK _ _ (looks [(0, fun z => Ext no w3 z), (2, fun z => Ext no w3 z)]) ⟨.inr (.inl (by kernel_rfl)), .inr (.inl (by kernel_rfl)), trivial⟩ hT4 ?_
            clear hK K
            try simp only [Act.put, List.setIfInBounds_toArray, List.set_cons_zero, List.set_cons_succ]
            refine wpF_exec 6 rfl (by kernel_rfl) (by rfl) ?_
            intro K hK
            have p0 := zA.cell 0 _ rfl
            have p1 := zA.cell 1 _ rfl
            have p2 := zA.cell 2 _ rfl
            have p3 := zA.cell 3 _ rfl
            have p4 := zA.cell 4 _ rfl
            have p5 := zA.cell 5 _ rfl
            have p6 := zA.cell 6 _ rfl
            have p7 := zA.cell 7 _ rfl
            have p8 := zA.cell 8 _ rfl
            have p9 := zA.cell 9 _ rfl
            have p10 := zA.cell 10 _ rfl
            have f0 := zA.fr 0
            have f1 := zA.fr 1
            have f2 := zA.fr 2
            have f3 := zA.fr 3
            have f4 := zA.fr 4
            have f5 := zA.fr 5
            have f6 := zA.fr 6
            have f7 := zA.fr 7
            have f8 := zA.fr 8
            have f9 := zA.fr 9
            have f10 := zA.fr 10
            go_simp
            clear p0 f0 p1 f1 p2 f2 p3 f3 p4 f4 p5 f5 p6 f6 p7 f7 p8 f8 p9 f9 p10 f10
            have xs : Ext (just gA) wv17 ((((((((((((wv17.setCell ⟨gA, 0, none⟩ (.int .i64 G.dot.dev)).setCell ⟨gA, 1, none⟩ (.int .i64 G.dot.ep)).setCell ⟨gA, 2, none⟩ (.int .i64 G.dot.seq)).setCell ⟨gA, 3, none⟩ (.int .i64 G.coll)).setCell ⟨gA, 4, none⟩ (.int .i64 G.ver)).setCell ⟨gA, 5, none⟩ (.int .i64 G.kind)).setCell ⟨gA, 6, none⟩ (.string (str G.key))).setCell ⟨gA, 7, none⟩ (.string (str G.text))).setCell ⟨gA, 8, none⟩ (.int .i64 G.n)).setCell ⟨gA, 9, none⟩ (.int .i64 G.time)).setCell ⟨gA, 10, none⟩ (.slice a1 G.dots.length c1))) := ((((((((((((Ext.refl (just gA) wv17).comp (Ext.setCell _ ⟨gA, 0, none⟩ (.int .i64 G.dot.dev) rfl)).comp (Ext.setCell _ ⟨gA, 1, none⟩ (.int .i64 G.dot.ep) rfl)).comp (Ext.setCell _ ⟨gA, 2, none⟩ (.int .i64 G.dot.seq) rfl)).comp (Ext.setCell _ ⟨gA, 3, none⟩ (.int .i64 G.coll) rfl)).comp (Ext.setCell _ ⟨gA, 4, none⟩ (.int .i64 G.ver) rfl)).comp (Ext.setCell _ ⟨gA, 5, none⟩ (.int .i64 G.kind) rfl)).comp (Ext.setCell _ ⟨gA, 6, none⟩ (.string (str G.key)) rfl)).comp (Ext.setCell _ ⟨gA, 7, none⟩ (.string (str G.text)) rfl)).comp (Ext.setCell _ ⟨gA, 8, none⟩ (.int .i64 G.n) rfl)).comp (Ext.setCell _ ⟨gA, 9, none⟩ (.int .i64 G.time) rfl)).comp (Ext.setCell _ ⟨gA, 10, none⟩ (.slice a1 G.dots.length c1) rfl))
            have zA : Blk ((((((((((((wv17.setCell ⟨gA, 0, none⟩ (.int .i64 G.dot.dev)).setCell ⟨gA, 1, none⟩ (.int .i64 G.dot.ep)).setCell ⟨gA, 2, none⟩ (.int .i64 G.dot.seq)).setCell ⟨gA, 3, none⟩ (.int .i64 G.coll)).setCell ⟨gA, 4, none⟩ (.int .i64 G.ver)).setCell ⟨gA, 5, none⟩ (.int .i64 G.kind)).setCell ⟨gA, 6, none⟩ (.string (str G.key))).setCell ⟨gA, 7, none⟩ (.string (str G.text))).setCell ⟨gA, 8, none⟩ (.int .i64 G.n)).setCell ⟨gA, 9, none⟩ (.int .i64 G.time)).setCell ⟨gA, 10, none⟩ (.slice a1 G.dots.length c1))) gA (G.cells a1 c1) := (((((((((((zA.set 0 (.int .i64 G.dot.dev) (by simp)).set 1 (.int .i64 G.dot.ep) (by simp)).set 2 (.int .i64 G.dot.seq) (by simp)).set 3 (.int .i64 G.coll) (by simp)).set 4 (.int .i64 G.ver) (by simp)).set 5 (.int .i64 G.kind) (by simp)).set 6 (.string (str G.key)) (by simp)).set 7 (.string (str G.text)) (by simp)).set 8 (.int .i64 G.n) (by simp)).set 9 (.int .i64 G.time) (by simp)).set 10 (.slice a1 G.dots.length c1) (by simp))
            have hxw := (((((((((((hxw.set1 hsA 0 (.int .i64 G.dot.dev)).set1 hsA 1 (.int .i64 G.dot.ep)).set1 hsA 2 (.int .i64 G.dot.seq)).set1 hsA 3 (.int .i64 G.coll)).set1 hsA 4 (.int .i64 G.ver)).set1 hsA 5 (.int .i64 G.kind)).set1 hsA 6 (.string (str G.key))).set1 hsA 7 (.string (str G.text))).set1 hsA 8 (.int .i64 G.n)).set1 hsA 9 (.int .i64 G.time)).set1 hsA 10 (.slice a1 G.dots.length c1))
            have zB := zB.ext (by simp [OpR.cells]) xs (by simp only [Esc.just]; omega)
            have r1 := rd_not r1 d1A xs
            have r2 := rd_not r2 d2A xs
            clear xs
            have hT5 : ∀ k, looks [(0, fun z => True), (2, fun z => True)] k ((((((((((((wv17.setCell ⟨gA, 0, none⟩ (.int .i64 G.dot.dev)).setCell ⟨gA, 1, none⟩ (.int .i64 G.dot.ep)).setCell ⟨gA, 2, none⟩ (.int .i64 G.dot.seq)).setCell ⟨gA, 3, none⟩ (.int .i64 G.coll)).setCell ⟨gA, 4, none⟩ (.int .i64 G.ver)).setCell ⟨gA, 5, none⟩ (.int .i64 G.kind)).setCell ⟨gA, 6, none⟩ (.string (str G.key))).setCell ⟨gA, 7, none⟩ (.string (str G.text))).setCell ⟨gA, 8, none⟩ (.int .i64 G.n)).setCell ⟨gA, 9, none⟩ (.int .i64 G.time)).setCell ⟨gA, 10, none⟩ (.slice a1 G.dots.length c1))) := looks_all ⟨trivial, trivial, trivial⟩
            refine hK _ _ (looks [(0, fun z => True), (2, fun z => True)]) ⟨.inr (.inl (by kernel_rfl)), .inr (.inl (by kernel_rfl)), trivial⟩ hT5 ?_
            clear hK K
            try simp only [Act.put, List.setIfInBounds_toArray, List.set_cons_zero, List.set_cons_succ]
            generalize (((((((((((wv17.setCell ⟨gA, 0, none⟩ (.int .i64 G.dot.dev)).setCell ⟨gA, 1, none⟩ (.int .i64 G.dot.ep)).setCell ⟨gA, 2, none⟩ (.int .i64 G.dot.seq)).setCell ⟨gA, 3, none⟩ (.int .i64 G.coll)).setCell ⟨gA, 4, none⟩ (.int .i64 G.ver)).setCell ⟨gA, 5, none⟩ (.int .i64 G.kind)).setCell ⟨gA, 6, none⟩ (.string (str G.key))).setCell ⟨gA, 7, none⟩ (.string (str G.text))).setCell ⟨gA, 8, none⟩ (.int .i64 G.n)).setCell ⟨gA, 9, none⟩ (.int .i64 G.time)).setCell ⟨gA, 10, none⟩ (.slice a1 G.dots.length c1)) = wv18 at *
            refine wpF_exec 7 rfl (by kernel_rfl) (by rfl) ?_
            intro K hK
            have p0 := zB.cell 0 _ rfl
            have p1 := zB.cell 1 _ rfl
            have p2 := zB.cell 2 _ rfl
            have p3 := zB.cell 3 _ rfl
            have p4 := zB.cell 4 _ rfl
            have p5 := zB.cell 5 _ rfl
            have p6 := zB.cell 6 _ rfl
            have p7 := zB.cell 7 _ rfl
            have p8 := zB.cell 8 _ rfl
            have p9 := zB.cell 9 _ rfl
            have p10 := zB.cell 10 _ rfl
            have f0 := zB.fr 0
            have f1 := zB.fr 1
            have f2 := zB.fr 2
            have f3 := zB.fr 3
            have f4 := zB.fr 4
            have f5 := zB.fr 5
            have f6 := zB.fr 6
            have f7 := zB.fr 7
            have f8 := zB.fr 8
            have f9 := zB.fr 9
            have f10 := zB.fr 10
            go_simp
            clear p0 f0 p1 f1 p2 f2 p3 f3 p4 f4 p5 f5 p6 f6 p7 f7 p8 f8 p9 f9 p10 f10
            have xs : Ext (just gB) wv18 ((((((((((((wv18.setCell ⟨gB, 0, none⟩ (.int .i64 G.dot.dev)).setCell ⟨gB, 1, none⟩ (.int .i64 G.dot.ep)).setCell ⟨gB, 2, none⟩ (.int .i64 G.dot.seq)).setCell ⟨gB, 3, none⟩ (.int .i64 G.coll)).setCell ⟨gB, 4, none⟩ (.int .i64 G.ver)).setCell ⟨gB, 5, none⟩ (.int .i64 G.kind)).setCell ⟨gB, 6, none⟩ (.string (str G.key))).setCell ⟨gB, 7, none⟩ (.string (str G.text))).setCell ⟨gB, 8, none⟩ (.int .i64 G.n)).setCell ⟨gB, 9, none⟩ (.int .i64 G.time)).setCell ⟨gB, 10, none⟩ (.slice a2 G.dots.length c2))) := ((((((((((((Ext.refl (just gB) wv18).comp (Ext.setCell _ ⟨gB, 0, none⟩ (.int .i64 G.dot.dev) rfl)).comp (Ext.setCell _ ⟨gB, 1, none⟩ (.int .i64 G.dot.ep) rfl)).comp (Ext.setCell _ ⟨gB, 2, none⟩ (.int .i64 G.dot.seq) rfl)).comp (Ext.setCell _ ⟨gB, 3, none⟩ (.int .i64 G.coll) rfl)).comp (Ext.setCell _ ⟨gB, 4, none⟩ (.int .i64 G.ver) rfl)).comp (Ext.setCell _ ⟨gB, 5, none⟩ (.int .i64 G.kind) rfl)).comp (Ext.setCell _ ⟨gB, 6, none⟩ (.string (str G.key)) rfl)).comp (Ext.setCell _ ⟨gB, 7, none⟩ (.string (str G.text)) rfl)).comp (Ext.setCell _ ⟨gB, 8, none⟩ (.int .i64 G.n) rfl)).comp (Ext.setCell _ ⟨gB, 9, none⟩ (.int .i64 G.time) rfl)).comp (Ext.setCell _ ⟨gB, 10, none⟩ (.slice a2 G.dots.length c2) rfl))
            have zB : Blk ((((((((((((wv18.setCell ⟨gB, 0, none⟩ (.int .i64 G.dot.dev)).setCell ⟨gB, 1, none⟩ (.int .i64 G.dot.ep)).setCell ⟨gB, 2, none⟩ (.int .i64 G.dot.seq)).setCell ⟨gB, 3, none⟩ (.int .i64 G.coll)).setCell ⟨gB, 4, none⟩ (.int .i64 G.ver)).setCell ⟨gB, 5, none⟩ (.int .i64 G.kind)).setCell ⟨gB, 6, none⟩ (.string (str G.key))).setCell ⟨gB, 7, none⟩ (.string (str G.text))).setCell ⟨gB, 8, none⟩ (.int .i64 G.n)).setCell ⟨gB, 9, none⟩ (.int .i64 G.time)).setCell ⟨gB, 10, none⟩ (.slice a2 G.dots.length c2))) gB (G.cells a2 c2) := (((((((((((zB.set 0 (.int .i64 G.dot.dev) (by simp)).set 1 (.int .i64 G.dot.ep) (by simp)).set 2 (.int .i64 G.dot.seq) (by simp)).set 3 (.int .i64 G.coll) (by simp)).set 4 (.int .i64 G.ver) (by simp)).set 5 (.int .i64 G.kind) (by simp)).set 6 (.string (str G.key)) (by simp)).set 7 (.string (str G.text)) (by simp)).set 8 (.int .i64 G.n) (by simp)).set 9 (.int .i64 G.time) (by simp)).set 10 (.slice a2 G.dots.length c2) (by simp))
            have hxw := (((((((((((hxw.set1 hsB 0 (.int .i64 G.dot.dev)).set1 hsB 1 (.int .i64 G.dot.ep)).set1 hsB 2 (.int .i64 G.dot.seq)).set1 hsB 3 (.int .i64 G.coll)).set1 hsB 4 (.int .i64 G.ver)).set1 hsB 5 (.int .i64 G.kind)).set1 hsB 6 (.string (str G.key))).set1 hsB 7 (.string (str G.text))).set1 hsB 8 (.int .i64 G.n)).set1 hsB 9 (.int .i64 G.time)).set1 hsB 10 (.slice a2 G.dots.length c2))
            have zA := zA.ext (by simp [OpR.cells]) xs (by simp only [Esc.just]; omega)
            have r1 := rd_not r1 d1B xs
            have r2 := rd_not r2 d2B xs
            clear xs
            have hT6 : ∀ k, looks [(0, fun z => True), (2, fun z => True)] k ((((((((((((wv18.setCell ⟨gB, 0, none⟩ (.int .i64 G.dot.dev)).setCell ⟨gB, 1, none⟩ (.int .i64 G.dot.ep)).setCell ⟨gB, 2, none⟩ (.int .i64 G.dot.seq)).setCell ⟨gB, 3, none⟩ (.int .i64 G.coll)).setCell ⟨gB, 4, none⟩ (.int .i64 G.ver)).setCell ⟨gB, 5, none⟩ (.int .i64 G.kind)).setCell ⟨gB, 6, none⟩ (.string (str G.key))).setCell ⟨gB, 7, none⟩ (.string (str G.text))).setCell ⟨gB, 8, none⟩ (.int .i64 G.n)).setCell ⟨gB, 9, none⟩ (.int .i64 G.time)).setCell ⟨gB, 10, none⟩ (.slice a2 G.dots.length c2))) := looks_all ⟨trivial, trivial, trivial⟩
            refine hK _ _ (looks [(0, fun z => True), (2, fun z => True)]) ⟨.inr (.inl (by kernel_rfl)), .inr (.inl (by kernel_rfl)), trivial⟩ hT6 ?_
            clear hK K
            try simp only [Act.put, List.setIfInBounds_toArray, List.set_cons_zero, List.set_cons_succ]
            generalize (((((((((((wv18.setCell ⟨gB, 0, none⟩ (.int .i64 G.dot.dev)).setCell ⟨gB, 1, none⟩ (.int .i64 G.dot.ep)).setCell ⟨gB, 2, none⟩ (.int .i64 G.dot.seq)).setCell ⟨gB, 3, none⟩ (.int .i64 G.coll)).setCell ⟨gB, 4, none⟩ (.int .i64 G.ver)).setCell ⟨gB, 5, none⟩ (.int .i64 G.kind)).setCell ⟨gB, 6, none⟩ (.string (str G.key))).setCell ⟨gB, 7, none⟩ (.string (str G.text))).setCell ⟨gB, 8, none⟩ (.int .i64 G.n)).setCell ⟨gB, 9, none⟩ (.int .i64 G.time)).setCell ⟨gB, 10, none⟩ (.slice a2 G.dots.length c2)) = wv19 at *
            refine wpF_done (by kernel_rfl) ?_ _
            go_wp2_with fail
            go_meet
            exact ⟨gA, gB, a1, a2, c1, c2, rfl, rfl, by omega, hsA, hsB, zA, zB, r1, r2, d1B, d2B, hxw⟩
        · refine ⟨_, rfl, by rfl, ?_⟩
          intro K hK
          go_simp
          have zB : Blk ((wv1.alloc (.cells #[.int .i64 0, .int .i64 0, .int .i64 0, .int .i64 0, .int .i64 0, .int .i64 0, .string { data := #[] }, .string { data := #[] }, .int .i64 0, .int .i64 0, .slice none 0 0] 26))) (wv1.heap.size) [.int .i64 0, .int .i64 0, .int .i64 0, .int .i64 0, .int .i64 0, .int .i64 0, .string { data := #[] }, .string { data := #[] }, .int .i64 0, .int .i64 0, .slice none 0 0] := Blk.lit wv1 _ _
          have d1B := rd_gt (rd_low2 r1) (Nat.le_refl (wv1.heap.size))
          have r1 := r1.ext (Ext.alloc no wv1 (.cells #[.int .i64 0, .int .i64 0, .int .i64 0, .int .i64 0, .int .i64 0, .int .i64 0, .string { data := #[] }, .string { data := #[] }, .int .i64 0, .int .i64 0, .slice none 0 0] 26)) (fun _ _ h => h)
          have hsB : w.heap.size ≤ wv1.heap.size := hxw.size
          have hxw := hxw.comp (Ext.alloc no wv1 (.cells #[.int .i64 0, .int .i64 0, .int .i64 0, .int .i64 0, .int .i64 0, .int .i64 0, .string { data := #[] }, .string { data := #[] }, .int .i64 0, .int .i64 0, .slice none 0 0] 26))
          have hx3 := hx3.comp (Ext.alloc no wv1 (.cells #[.int .i64 0, .int .i64 0, .int .i64 0, .int .i64 0, .int .i64 0, .int .i64 0, .string { data := #[] }, .string { data := #[] }, .int .i64 0, .int .i64 0, .slice none 0 0] 26))
          have hT2 : ∀ k, looks [(0, fun z => Ext no w3 z), (2, fun z => Ext no w3 z)] k ((wv1.alloc (.cells #[.int .i64 0, .int .i64 0, .int .i64 0, .int .i64 0, .int .i64 0, .int .i64 0, .string { data := #[] }, .string { data := #[] }, .int .i64 0, .int .i64 0, .slice none 0 0] 26))) := looks_all ⟨hx3, hx3, trivial⟩
          refine hK _ _ (looks [(0, fun z => Ext no w3 z), (2, fun z => Ext no w3 z)]) ⟨.inr (.inr (fun x h => h)), .inr (.inr (fun x h => h)), trivial⟩ hT2 ?_
          clear hK K
          try simp only [Act.put, List.setIfInBounds_toArray, List.set_cons_zero, List.set_cons_succ]
          obtain ⟨gB, hgB⟩ : ∃ g, g = wv1.heap.size := ⟨_, rfl⟩
          rw [← hgB] at zB hsB d1B ⊢
          clear hgB
          generalize (wv1.alloc (.cells #[.int .i64 0, .int .i64 0, .int .i64 0, .int .i64 0, .int .i64 0, .int .i64 0, .string { data := #[] }, .string { data := #[] }, .int .i64 0, .int .i64 0, .slice none 0 0] 26)) = wv20 at *
          refine wpF_execs [3, 4] (by kernel_rfl) (by simp) ?_
          intro j hj
          simp only [List.mem_cons, List.not_mem_nil, or_false] at hj
          rcases hj with rfl | rfl
          · refine ⟨_, rfl, by rfl, ?_⟩
            intro K hK
            go_simp
            refine (good_any (wv20) o a c hok (hrw.ext hxw (fun _ _ h => h)) hl hc).mono ?_
            rintro e wv21 ⟨a2, c2, rfl, r2, l2, m2, xg, fz2⟩
            rw [← HG.out] at r2 l2 ⊢
            unfold OpR.v
            have d2B : ds G.dots ≠ [] → ∀ ad, a2 = some ad → ad.block ≠ gB := fun _ ad h => by have := fz2 ad h; have := zB.lt (by simp); omega
            have zB := zB.ext (by simp) xg (fun h => h)
            have r1 := r1.ext xg (fun _ _ h => h)
            have hxw := hxw.comp xg
            have hx3 := hx3.comp xg
            have hT3 : ∀ k, looks [(0, fun z => Ext no w3 z), (2, fun z => Ext no w3 z)] k (wv21) := looks_all ⟨hx3, hx3, trivial⟩
            refine hK _ _ (looks [(0, fun z => Ext no w3 z), (2, fun z => Ext no w3 z)]) ⟨.inr (.inl (by kernel_rfl)), .inr (.inl (by kernel_rfl)), trivial⟩ hT3 ?_
            clear hK K
            try simp only [Act.put, List.setIfInBounds_toArray, List.set_cons_zero, List.set_cons_succ]
            refine wpF_exec 4 rfl (by kernel_rfl) (by rfl) ?_
            intro K hK
            go_simp
            have zA : Blk ((wv21.alloc (.cells #[.int .i64 0, .int .i64 0, .int .i64 0, .int .i64 0, .int .i64 0, .int .i64 0, .string { data := #[] }, .string { data := #[] }, .int .i64 0, .int .i64 0, .slice none 0 0] 26))) (wv21.heap.size) [.int .i64 0, .int .i64 0, .int .i64 0, .int .i64 0, .int .i64 0, .int .i64 0, .string { data := #[] }, .string { data := #[] }, .int .i64 0, .int .i64 0, .slice none 0 0] := Blk.lit wv21 _ _
            have nBA : gB < wv21.heap.size := zB.lt (by simp)
            have zB := zB.ext (by simp) (Ext.alloc no wv21 (.cells #[.int .i64 0, .int .i64 0, .int .i64 0, .int .i64 0, .int .i64 0, .int .i64 0, .string { data := #[] }, .string { data := #[] }, .int .i64 0, .int .i64 0, .slice none 0 0] 26)) (fun h => h)
            have d1A := rd_gt (rd_low2 r1) (Nat.le_refl (wv21.heap.size))
            have r1 := r1.ext (Ext.alloc no wv21 (.cells #[.int .i64 0, .int .i64 0, .int .i64 0, .int .i64 0, .int .i64 0, .int .i64 0, .string { data := #[] }, .string { data := #[] }, .int .i64 0, .int .i64 0, .slice none 0 0] 26)) (fun _ _ h => h)
            have d2A := rd_gt (rd_low2 r2) (Nat.le_refl (wv21.heap.size))
            have r2 := r2.ext (Ext.alloc no wv21 (.cells #[.int .i64 0, .int .i64 0, .int .i64 0, .int .i64 0, .int .i64 0, .int .i64 0, .string { data := #[] }, .string { data := #[] }, .int .i64 0, .int .i64 0, .slice none 0 0] 26)) (fun _ _ h => h)
            have hsA : w.heap.size ≤ wv21.heap.size := hxw.size
            have hxw := hxw.comp (Ext.alloc no wv21 (.cells #[.int .i64 0, .int .i64 0, .int .i64 0, .int .i64 0, .int .i64 0, .int .i64 0, .string { data := #[] }, .string { data := #[] }, .int .i64 0, .int .i64 0, .slice none 0 0] 26))
            have hx3 := hx3.comp (Ext.alloc no wv21 (.cells #[.int .i64 0, .int .i64 0, .int .i64 0, .int .i64 0, .int .i64 0, .int .i64 0, .string { data := #[] }, .string { data := #[] }, .int .i64 0, .int .i64 0, .slice none 0 0] 26))
            have hT4 : ∀ k, looks [(0, fun z => Ext no w3 z), (2, fun z => Ext no w3 z)] k ((wv21.alloc (.cells #[.int .i64 0, .int .i64 0, .int .i64 0, .int .i64 0, .int .i64 0, .int .i64 0, .string { data := #[] }, .string { data := #[] }, .int .i64 0, .int .i64 0, .slice none 0 0] 26))) := looks_all ⟨hx3, hx3, trivial⟩
            refine hK _ _ (looks [(0, fun z => Ext no w3 z), (2, fun z => Ext no w3 z)]) ⟨.inr (.inr (fun x h => h)), .inr (.inr (fun x h => h)), trivial⟩ hT4 ?_
            clear hK K
            try simp only [Act.put, List.setIfInBounds_toArray, List.set_cons_zero, List.set_cons_succ]
            obtain ⟨gA, hgA⟩ : ∃ g, g = wv21.heap.size := ⟨_, rfl⟩
            rw [← hgA] at zA hsA nBA d1A d2A ⊢
            clear hgA
            generalize (wv21.alloc (.cells #[.int .i64 0, .int .i64 0, .int .i64 0, .int .i64 0, .int .i64 0, .int .i64 0, .string { data := #[] }, .string { data := #[] }, .int .i64 0, .int .i64 0, .slice none 0 0] 26)) = wv22 at *
            refine wpF_exec 6 rfl (by kernel_rfl) (by rfl) ?_
            intro K hK
            have p0 := zA.cell 0 _ rfl
            have p1 := zA.cell 1 _ rfl
            have p2 := zA.cell 2 _ rfl
            have p3 := zA.cell 3 _ rfl
            have p4 := zA.cell 4 _ rfl
            have p5 := zA.cell 5 _ rfl
            have p6 := zA.cell 6 _ rfl
            have p7 := zA.cell 7 _ rfl
            have p8 := zA.cell 8 _ rfl
            have p9 := zA.cell 9 _ rfl
            have p10 := zA.cell 10 _ rfl
            have f0 := zA.fr 0
            have f1 := zA.fr 1
            have f2 := zA.fr 2
            have f3 := zA.fr 3
            have f4 := zA.fr 4
            have f5 := zA.fr 5
            have f6 := zA.fr 6
            have f7 := zA.fr 7
            have f8 := zA.fr 8
            have f9 := zA.fr 9
            have f10 := zA.fr 10
            go_simp
            clear p0 f0 p1 f1 p2 f2 p3 f3 p4 f4 p5 f5 p6 f6 p7 f7 p8 f8 p9 f9 p10 f10
            have xs : Ext (just gA) wv22 ((((((((((((wv22.setCell ⟨gA, 0, none⟩ (.int .i64 G.dot.dev)).setCell ⟨gA, 1, none⟩ (.int .i64 G.dot.ep)).setCell ⟨gA, 2, none⟩ (.int .i64 G.dot.seq)).setCell ⟨gA, 3, none⟩ (.int .i64 G.coll)).setCell ⟨gA, 4, none⟩ (.int .i64 G.ver)).setCell ⟨gA, 5, none⟩ (.int .i64 G.kind)).setCell ⟨gA, 6, none⟩ (.string (str G.key))).setCell ⟨gA, 7, none⟩ (.string (str G.text))).setCell ⟨gA, 8, none⟩ (.int .i64 G.n)).setCell ⟨gA, 9, none⟩ (.int .i64 G.time)).setCell ⟨gA, 10, none⟩ (.slice a1 G.dots.length c1))) := ((((((((((((Ext.refl (just gA) wv22).comp (Ext.setCell _ ⟨gA, 0, none⟩ (.int .i64 G.dot.dev) rfl)).comp (Ext.setCell _ ⟨gA, 1, none⟩ (.int .i64 G.dot.ep) rfl)).comp (Ext.setCell _ ⟨gA, 2, none⟩ (.int .i64 G.dot.seq) rfl)).comp (Ext.setCell _ ⟨gA, 3, none⟩ (.int .i64 G.coll) rfl)).comp (Ext.setCell _ ⟨gA, 4, none⟩ (.int .i64 G.ver) rfl)).comp (Ext.setCell _ ⟨gA, 5, none⟩ (.int .i64 G.kind) rfl)).comp (Ext.setCell _ ⟨gA, 6, none⟩ (.string (str G.key)) rfl)).comp (Ext.setCell _ ⟨gA, 7, none⟩ (.string (str G.text)) rfl)).comp (Ext.setCell _ ⟨gA, 8, none⟩ (.int .i64 G.n) rfl)).comp (Ext.setCell _ ⟨gA, 9, none⟩ (.int .i64 G.time) rfl)).comp (Ext.setCell _ ⟨gA, 10, none⟩ (.slice a1 G.dots.length c1) rfl))
            have zA : Blk ((((((((((((wv22.setCell ⟨gA, 0, none⟩ (.int .i64 G.dot.dev)).setCell ⟨gA, 1, none⟩ (.int .i64 G.dot.ep)).setCell ⟨gA, 2, none⟩ (.int .i64 G.dot.seq)).setCell ⟨gA, 3, none⟩ (.int .i64 G.coll)).setCell ⟨gA, 4, none⟩ (.int .i64 G.ver)).setCell ⟨gA, 5, none⟩ (.int .i64 G.kind)).setCell ⟨gA, 6, none⟩ (.string (str G.key))).setCell ⟨gA, 7, none⟩ (.string (str G.text))).setCell ⟨gA, 8, none⟩ (.int .i64 G.n)).setCell ⟨gA, 9, none⟩ (.int .i64 G.time)).setCell ⟨gA, 10, none⟩ (.slice a1 G.dots.length c1))) gA (G.cells a1 c1) := (((((((((((zA.set 0 (.int .i64 G.dot.dev) (by simp)).set 1 (.int .i64 G.dot.ep) (by simp)).set 2 (.int .i64 G.dot.seq) (by simp)).set 3 (.int .i64 G.coll) (by simp)).set 4 (.int .i64 G.ver) (by simp)).set 5 (.int .i64 G.kind) (by simp)).set 6 (.string (str G.key)) (by simp)).set 7 (.string (str G.text)) (by simp)).set 8 (.int .i64 G.n) (by simp)).set 9 (.int .i64 G.time) (by simp)).set 10 (.slice a1 G.dots.length c1) (by simp))
            have hxw := (((((((((((hxw.set1 hsA 0 (.int .i64 G.dot.dev)).set1 hsA 1 (.int .i64 G.dot.ep)).set1 hsA 2 (.int .i64 G.dot.seq)).set1 hsA 3 (.int .i64 G.coll)).set1 hsA 4 (.int .i64 G.ver)).set1 hsA 5 (.int .i64 G.kind)).set1 hsA 6 (.string (str G.key))).set1 hsA 7 (.string (str G.text))).set1 hsA 8 (.int .i64 G.n)).set1 hsA 9 (.int .i64 G.time)).set1 hsA 10 (.slice a1 G.dots.length c1))
            have zB := zB.ext (by simp [OpR.cells]) xs (by simp only [Esc.just]; omega)
            have r1 := rd_not r1 d1A xs
            have r2 := rd_not r2 d2A xs
            clear xs
            have hT5 : ∀ k, looks [(0, fun z => True), (2, fun z => True)] k ((((((((((((wv22.setCell ⟨gA, 0, none⟩ (.int .i64 G.dot.dev)).setCell ⟨gA, 1, none⟩ (.int .i64 G.dot.ep)).setCell ⟨gA, 2, none⟩ (.int .i64 G.dot.seq)).setCell ⟨gA, 3, none⟩ (.int .i64 G.coll)).setCell ⟨gA, 4, none⟩ (.int .i64 G.ver)).setCell ⟨gA, 5, none⟩ (.int .i64 G.kind)).setCell ⟨gA, 6, none⟩ (.string (str G.key))).setCell ⟨gA, 7, none⟩ (.string (str G.text))).setCell ⟨gA, 8, none⟩ (.int .i64 G.n)).setCell ⟨gA, 9, none⟩ (.int .i64 G.time)).setCell ⟨gA, 10, none⟩ (.slice a1 G.dots.length c1))) := looks_all ⟨trivial, trivial, trivial⟩
            refine hK _ _ (looks [(0, fun z => True), (2, fun z => True)]) ⟨.inr (.inl (by kernel_rfl)), .inr (.inl (by kernel_rfl)), trivial⟩ hT5 ?_
            clear hK K
            try simp only [Act.put, List.setIfInBounds_toArray, List.set_cons_zero, List.set_cons_succ]
            generalize (((((((((((wv22.setCell ⟨gA, 0, none⟩ (.int .i64 G.dot.dev)).setCell ⟨gA, 1, none⟩ (.int .i64 G.dot.ep)).setCell ⟨gA, 2, none⟩ (.int .i64 G.dot.seq)).setCell ⟨gA, 3, none⟩ (.int .i64 G.coll)).setCell ⟨gA, 4, none⟩ (.int .i64 G.ver)).setCell ⟨gA, 5, none⟩ (.int .i64 G.kind)).setCell ⟨gA, 6, none⟩ (.string (str G.key))).setCell ⟨gA, 7, none⟩ (.string (str G.text))).setCell ⟨gA, 8, none⟩ (.int .i64 G.n)).setCell ⟨gA, 9, none⟩ (.int .i64 G.time)).setCell ⟨gA, 10, none⟩ (.slice a1 G.dots.length c1)) = wv23 at *
            refine wpF_exec 7 rfl (by kernel_rfl) (by rfl) ?_
            intro K hK
            have p0 := zB.cell 0 _ rfl
            have p1 := zB.cell 1 _ rfl
            have p2 := zB.cell 2 _ rfl
            have p3 := zB.cell 3 _ rfl
            have p4 := zB.cell 4 _ rfl
            have p5 := zB.cell 5 _ rfl
            have p6 := zB.cell 6 _ rfl
            have p7 := zB.cell 7 _ rfl
            have p8 := zB.cell 8 _ rfl
            have p9 := zB.cell 9 _ rfl
            have p10 := zB.cell 10 _ rfl
            have f0 := zB.fr 0
            have f1 := zB.fr 1
            have f2 := zB.fr 2
            have f3 := zB.fr 3
            have f4 := zB.fr 4
            have f5 := zB.fr 5
            have f6 := zB.fr 6
            have f7 := zB.fr 7
            have f8 := zB.fr 8
            have f9 := zB.fr 9
            have f10 := zB.fr 10
            go_simp
            clear p0 f0 p1 f1 p2 f2 p3 f3 p4 f4 p5 f5 p6 f6 p7 f7 p8 f8 p9 f9 p10 f10
            have xs : Ext (just gB) wv23 ((((((((((((wv23.setCell ⟨gB, 0, none⟩ (.int .i64 G.dot.dev)).setCell ⟨gB, 1, none⟩ (.int .i64 G.dot.ep)).setCell ⟨gB, 2, none⟩ (.int .i64 G.dot.seq)).setCell ⟨gB, 3, none⟩ (.int .i64 G.coll)).setCell ⟨gB, 4, none⟩ (.int .i64 G.ver)).setCell ⟨gB, 5, none⟩ (.int .i64 G.kind)).setCell ⟨gB, 6, none⟩ (.string (str G.key))).setCell ⟨gB, 7, none⟩ (.string (str G.text))).setCell ⟨gB, 8, none⟩ (.int .i64 G.n)).setCell ⟨gB, 9, none⟩ (.int .i64 G.time)).setCell ⟨gB, 10, none⟩ (.slice a2 G.dots.length c2))) := ((((((((((((Ext.refl (just gB) wv23).comp (Ext.setCell _ ⟨gB, 0, none⟩ (.int .i64 G.dot.dev) rfl)).comp (Ext.setCell _ ⟨gB, 1, none⟩ (.int .i64 G.dot.ep) rfl)).comp (Ext.setCell _ ⟨gB, 2, none⟩ (.int .i64 G.dot.seq) rfl)).comp (Ext.setCell _ ⟨gB, 3, none⟩ (.int .i64 G.coll) rfl)).comp (Ext.setCell _ ⟨gB, 4, none⟩ (.int .i64 G.ver) rfl)).comp (Ext.setCell _ ⟨gB, 5, none⟩ (.int .i64 G.kind) rfl)).comp (Ext.setCell _ ⟨gB, 6, none⟩ (.string (str G.key)) rfl)).comp (Ext.setCell _ ⟨gB, 7, none⟩ (.string (str G.text)) rfl)).comp (Ext.setCell _ ⟨gB, 8, none⟩ (.int .i64 G.n) rfl)).comp (Ext.setCell _ ⟨gB, 9, none⟩ (.int .i64 G.time) rfl)).comp (Ext.setCell _ ⟨gB, 10, none⟩ (.slice a2 G.dots.length c2) rfl))
            have zB : Blk ((((((((((((wv23.setCell ⟨gB, 0, none⟩ (.int .i64 G.dot.dev)).setCell ⟨gB, 1, none⟩ (.int .i64 G.dot.ep)).setCell ⟨gB, 2, none⟩ (.int .i64 G.dot.seq)).setCell ⟨gB, 3, none⟩ (.int .i64 G.coll)).setCell ⟨gB, 4, none⟩ (.int .i64 G.ver)).setCell ⟨gB, 5, none⟩ (.int .i64 G.kind)).setCell ⟨gB, 6, none⟩ (.string (str G.key))).setCell ⟨gB, 7, none⟩ (.string (str G.text))).setCell ⟨gB, 8, none⟩ (.int .i64 G.n)).setCell ⟨gB, 9, none⟩ (.int .i64 G.time)).setCell ⟨gB, 10, none⟩ (.slice a2 G.dots.length c2))) gB (G.cells a2 c2) := (((((((((((zB.set 0 (.int .i64 G.dot.dev) (by simp)).set 1 (.int .i64 G.dot.ep) (by simp)).set 2 (.int .i64 G.dot.seq) (by simp)).set 3 (.int .i64 G.coll) (by simp)).set 4 (.int .i64 G.ver) (by simp)).set 5 (.int .i64 G.kind) (by simp)).set 6 (.string (str G.key)) (by simp)).set 7 (.string (str G.text)) (by simp)).set 8 (.int .i64 G.n) (by simp)).set 9 (.int .i64 G.time) (by simp)).set 10 (.slice a2 G.dots.length c2) (by simp))
            have hxw := (((((((((((hxw.set1 hsB 0 (.int .i64 G.dot.dev)).set1 hsB 1 (.int .i64 G.dot.ep)).set1 hsB 2 (.int .i64 G.dot.seq)).set1 hsB 3 (.int .i64 G.coll)).set1 hsB 4 (.int .i64 G.ver)).set1 hsB 5 (.int .i64 G.kind)).set1 hsB 6 (.string (str G.key))).set1 hsB 7 (.string (str G.text))).set1 hsB 8 (.int .i64 G.n)).set1 hsB 9 (.int .i64 G.time)).set1 hsB 10 (.slice a2 G.dots.length c2))
            have zA := zA.ext (by simp [OpR.cells]) xs (by simp only [Esc.just]; omega)
            have r1 := rd_not r1 d1B xs
            have r2 := rd_not r2 d2B xs
            clear xs
            have hT6 : ∀ k, looks [(0, fun z => True), (2, fun z => True)] k ((((((((((((wv23.setCell ⟨gB, 0, none⟩ (.int .i64 G.dot.dev)).setCell ⟨gB, 1, none⟩ (.int .i64 G.dot.ep)).setCell ⟨gB, 2, none⟩ (.int .i64 G.dot.seq)).setCell ⟨gB, 3, none⟩ (.int .i64 G.coll)).setCell ⟨gB, 4, none⟩ (.int .i64 G.ver)).setCell ⟨gB, 5, none⟩ (.int .i64 G.kind)).setCell ⟨gB, 6, none⟩ (.string (str G.key))).setCell ⟨gB, 7, none⟩ (.string (str G.text))).setCell ⟨gB, 8, none⟩ (.int .i64 G.n)).setCell ⟨gB, 9, none⟩ (.int .i64 G.time)).setCell ⟨gB, 10, none⟩ (.slice a2 G.dots.length c2))) := looks_all ⟨trivial, trivial, trivial⟩
            refine hK _ _ (looks [(0, fun z => True), (2, fun z => True)]) ⟨.inr (.inl (by kernel_rfl)), .inr (.inl (by kernel_rfl)), trivial⟩ hT6 ?_
            clear hK K
            try simp only [Act.put, List.setIfInBounds_toArray, List.set_cons_zero, List.set_cons_succ]
            generalize (((((((((((wv23.setCell ⟨gB, 0, none⟩ (.int .i64 G.dot.dev)).setCell ⟨gB, 1, none⟩ (.int .i64 G.dot.ep)).setCell ⟨gB, 2, none⟩ (.int .i64 G.dot.seq)).setCell ⟨gB, 3, none⟩ (.int .i64 G.coll)).setCell ⟨gB, 4, none⟩ (.int .i64 G.ver)).setCell ⟨gB, 5, none⟩ (.int .i64 G.kind)).setCell ⟨gB, 6, none⟩ (.string (str G.key))).setCell ⟨gB, 7, none⟩ (.string (str G.text))).setCell ⟨gB, 8, none⟩ (.int .i64 G.n)).setCell ⟨gB, 9, none⟩ (.int .i64 G.time)).setCell ⟨gB, 10, none⟩ (.slice a2 G.dots.length c2)) = wv24 at *
            refine wpF_done (by kernel_rfl) ?_ _
            go_wp2_with fail
            go_meet
            exact ⟨gA, gB, a1, a2, c1, c2, rfl, rfl, by omega, hsA, hsB, zA, zB, r1, r2, d1B, d2B, hxw⟩
          · refine ⟨_, rfl, by rfl, ?_⟩
            intro K hK
            go_simp
            have zA : Blk ((wv20.alloc (.cells #[.int .i64 0, .int .i64 0, .int .i64 0, .int .i64 0, .int .i64 0, .int .i64 0, .string { data := #[] }, .string { data := #[] }, .int .i64 0, .int .i64 0, .slice none 0 0] 26))) (wv20.heap.size) [.int .i64 0, .int .i64 0, .int .i64 0, .int .i64 0, .int .i64 0, .int .i64 0, .string { data := #[] }, .string { data := #[] }, .int .i64 0, .int .i64 0, .slice none 0 0] := Blk.lit wv20 _ _
            have nBA : gB < wv20.heap.size := zB.lt (by simp)
            have zB := zB.ext (by simp) (Ext.alloc no wv20 (.cells #[.int .i64 0, .int .i64 0, .int .i64 0, .int .i64 0, .int .i64 0, .int .i64 0, .string { data := #[] }, .string { data := #[] }, .int .i64 0, .int .i64 0, .slice none 0 0] 26)) (fun h => h)
            have d1A := rd_gt (rd_low2 r1) (Nat.le_refl (wv20.heap.size))
            have r1 := r1.ext (Ext.alloc no wv20 (.cells #[.int .i64 0, .int .i64 0, .int .i64 0, .int .i64 0, .int .i64 0, .int .i64 0, .string { data := #[] }, .string { data := #[] }, .int .i64 0, .int .i64 0, .slice none 0 0] 26)) (fun _ _ h => h)
            have hsA : w.heap.size ≤ wv20.heap.size := hxw.size
            have hxw := hxw.comp (Ext.alloc no wv20 (.cells #[.int .i64 0, .int .i64 0, .int .i64 0, .int .i64 0, .int .i64 0, .int .i64 0, .string { data := #[] }, .string { data := #[] }, .int .i64 0, .int .i64 0, .slice none 0 0] 26))
            have hx3 := hx3.comp (Ext.alloc no wv20 (.cells #[.int .i64 0, .int .i64 0, .int .i64 0, .int .i64 0, .int .i64 0, .int .i64 0, .string { data := #[] }, .string { data := #[] }, .int .i64 0, .int .i64 0, .slice none 0 0] 26))
            have hT3 : ∀ k, looks [(0, fun z => Ext no w3 z), (2, fun z => Ext no w3 z)] k ((wv20.alloc (.cells #[.int .i64 0, .int .i64 0, .int .i64 0, .int .i64 0, .int .i64 0, .int .i64 0, .string { data := #[] }, .string { data := #[] }, .int .i64 0, .int .i64 0, .slice none 0 0] 26))) := looks_all ⟨hx3, hx3, trivial⟩
            refine hK _ _ (looks [(0, fun z => Ext no w3 z), (2, fun z => Ext no w3 z)]) ⟨.inr (.inr (fun x h => h)), .inr (.inr (fun x h => h)), trivial⟩ hT3 ?_
            clear hK K
            try simp only [Act.put, List.setIfInBounds_toArray, List.set_cons_zero, List.set_cons_succ]
            obtain ⟨gA, hgA⟩ : ∃ g, g = wv20.heap.size := ⟨_, rfl⟩
            rw [← hgA] at zA hsA nBA d1A ⊢
            clear hgA
            generalize (wv20.alloc (.cells #[.int .i64 0, .int .i64 0, .int .i64 0, .int .i64 0, .int .i64 0, .int .i64 0, .string { data := #[] }, .string { data := #[] }, .int .i64 0, .int .i64 0, .slice none 0 0] 26)) = wv25 at *
            refine wpF_exec 3 rfl (by kernel_rfl) (by rfl) ?_
            intro K hK
            go_simp
            refine (good_any (wv25) o a c hok (hrw.ext hxw (fun _ _ h => h)) hl hc).mono ?_
            rintro e wv26 ⟨a2, c2, rfl, r2, l2, m2, xg, fz2⟩
            rw [← HG.out] at r2 l2 ⊢
            unfold OpR.v
            have d2B : ds G.dots ≠ [] → ∀ ad, a2 = some ad → ad.block ≠ gB := fun _ ad h => by have := fz2 ad h; have := zB.lt (by simp); omega
            have zB := zB.ext (by simp) xg (fun h => h)
            have d2A : ds G.dots ≠ [] → ∀ ad, a2 = some ad → ad.block ≠ gA := fun _ ad h => by have := fz2 ad h; have := zA.lt (by simp); omega
            have zA := zA.ext (by simp) xg (fun h => h)
            have r1 := r1.ext xg (fun _ _ h => h)
            have hxw := hxw.comp xg
            have hx3 := hx3.comp xg
            have hT4 : ∀ k, looks [(0, fun z => Ext no w3 z), (2, fun z => Ext no w3 z)] k (wv26) := looks_all ⟨hx3, hx3, trivial⟩
            refine hK _ _ (looks [(0, fun z => Ext no w3 z), (2, fun z => Ext no w3 z)]) ⟨.inr (.inl (by kernel_rfl)), .inr (.inl (by kernel_rfl)), trivial⟩ hT4 ?_
            clear hK K
            try simp only [Act.put, List.setIfInBounds_toArray, List.set_cons_zero, List.set_cons_succ]
            refine wpF_exec 6 rfl (by kernel_rfl) (by rfl) ?_
            intro K hK
            have p0 := zA.cell 0 _ rfl
            have p1 := zA.cell 1 _ rfl
            have p2 := zA.cell 2 _ rfl
            have p3 := zA.cell 3 _ rfl
            have p4 := zA.cell 4 _ rfl
            have p5 := zA.cell 5 _ rfl
            have p6 := zA.cell 6 _ rfl
            have p7 := zA.cell 7 _ rfl
            have p8 := zA.cell 8 _ rfl
            have p9 := zA.cell 9 _ rfl
            have p10 := zA.cell 10 _ rfl
            have f0 := zA.fr 0
            have f1 := zA.fr 1
            have f2 := zA.fr 2
            have f3 := zA.fr 3
            have f4 := zA.fr 4
            have f5 := zA.fr 5
            have f6 := zA.fr 6
            have f7 := zA.fr 7
            have f8 := zA.fr 8
            have f9 := zA.fr 9
            have f10 := zA.fr 10
            go_simp
            clear p0 f0 p1 f1 p2 f2 p3 f3 p4 f4 p5 f5 p6 f6 p7 f7 p8 f8 p9 f9 p10 f10
            have xs : Ext (just gA) wv26 ((((((((((((wv26.setCell ⟨gA, 0, none⟩ (.int .i64 G.dot.dev)).setCell ⟨gA, 1, none⟩ (.int .i64 G.dot.ep)).setCell ⟨gA, 2, none⟩ (.int .i64 G.dot.seq)).setCell ⟨gA, 3, none⟩ (.int .i64 G.coll)).setCell ⟨gA, 4, none⟩ (.int .i64 G.ver)).setCell ⟨gA, 5, none⟩ (.int .i64 G.kind)).setCell ⟨gA, 6, none⟩ (.string (str G.key))).setCell ⟨gA, 7, none⟩ (.string (str G.text))).setCell ⟨gA, 8, none⟩ (.int .i64 G.n)).setCell ⟨gA, 9, none⟩ (.int .i64 G.time)).setCell ⟨gA, 10, none⟩ (.slice a1 G.dots.length c1))) := ((((((((((((Ext.refl (just gA) wv26).comp (Ext.setCell _ ⟨gA, 0, none⟩ (.int .i64 G.dot.dev) rfl)).comp (Ext.setCell _ ⟨gA, 1, none⟩ (.int .i64 G.dot.ep) rfl)).comp (Ext.setCell _ ⟨gA, 2, none⟩ (.int .i64 G.dot.seq) rfl)).comp (Ext.setCell _ ⟨gA, 3, none⟩ (.int .i64 G.coll) rfl)).comp (Ext.setCell _ ⟨gA, 4, none⟩ (.int .i64 G.ver) rfl)).comp (Ext.setCell _ ⟨gA, 5, none⟩ (.int .i64 G.kind) rfl)).comp (Ext.setCell _ ⟨gA, 6, none⟩ (.string (str G.key)) rfl)).comp (Ext.setCell _ ⟨gA, 7, none⟩ (.string (str G.text)) rfl)).comp (Ext.setCell _ ⟨gA, 8, none⟩ (.int .i64 G.n) rfl)).comp (Ext.setCell _ ⟨gA, 9, none⟩ (.int .i64 G.time) rfl)).comp (Ext.setCell _ ⟨gA, 10, none⟩ (.slice a1 G.dots.length c1) rfl))
            have zA : Blk ((((((((((((wv26.setCell ⟨gA, 0, none⟩ (.int .i64 G.dot.dev)).setCell ⟨gA, 1, none⟩ (.int .i64 G.dot.ep)).setCell ⟨gA, 2, none⟩ (.int .i64 G.dot.seq)).setCell ⟨gA, 3, none⟩ (.int .i64 G.coll)).setCell ⟨gA, 4, none⟩ (.int .i64 G.ver)).setCell ⟨gA, 5, none⟩ (.int .i64 G.kind)).setCell ⟨gA, 6, none⟩ (.string (str G.key))).setCell ⟨gA, 7, none⟩ (.string (str G.text))).setCell ⟨gA, 8, none⟩ (.int .i64 G.n)).setCell ⟨gA, 9, none⟩ (.int .i64 G.time)).setCell ⟨gA, 10, none⟩ (.slice a1 G.dots.length c1))) gA (G.cells a1 c1) := (((((((((((zA.set 0 (.int .i64 G.dot.dev) (by simp)).set 1 (.int .i64 G.dot.ep) (by simp)).set 2 (.int .i64 G.dot.seq) (by simp)).set 3 (.int .i64 G.coll) (by simp)).set 4 (.int .i64 G.ver) (by simp)).set 5 (.int .i64 G.kind) (by simp)).set 6 (.string (str G.key)) (by simp)).set 7 (.string (str G.text)) (by simp)).set 8 (.int .i64 G.n) (by simp)).set 9 (.int .i64 G.time) (by simp)).set 10 (.slice a1 G.dots.length c1) (by simp))
            have hxw := (((((((((((hxw.set1 hsA 0 (.int .i64 G.dot.dev)).set1 hsA 1 (.int .i64 G.dot.ep)).set1 hsA 2 (.int .i64 G.dot.seq)).set1 hsA 3 (.int .i64 G.coll)).set1 hsA 4 (.int .i64 G.ver)).set1 hsA 5 (.int .i64 G.kind)).set1 hsA 6 (.string (str G.key))).set1 hsA 7 (.string (str G.text))).set1 hsA 8 (.int .i64 G.n)).set1 hsA 9 (.int .i64 G.time)).set1 hsA 10 (.slice a1 G.dots.length c1))
            have zB := zB.ext (by simp [OpR.cells]) xs (by simp only [Esc.just]; omega)
            have r1 := rd_not r1 d1A xs
            have r2 := rd_not r2 d2A xs
            clear xs
            have hT5 : ∀ k, looks [(0, fun z => True), (2, fun z => True)] k ((((((((((((wv26.setCell ⟨gA, 0, none⟩ (.int .i64 G.dot.dev)).setCell ⟨gA, 1, none⟩ (.int .i64 G.dot.ep)).setCell ⟨gA, 2, none⟩ (.int .i64 G.dot.seq)).setCell ⟨gA, 3, none⟩ (.int .i64 G.coll)).setCell ⟨gA, 4, none⟩ (.int .i64 G.ver)).setCell ⟨gA, 5, none⟩ (.int .i64 G.kind)).setCell ⟨gA, 6, none⟩ (.string (str G.key))).setCell ⟨gA, 7, none⟩ (.string (str G.text))).setCell ⟨gA, 8, none⟩ (.int .i64 G.n)).setCell ⟨gA, 9, none⟩ (.int .i64 G.time)).setCell ⟨gA, 10, none⟩ (.slice a1 G.dots.length c1))) := looks_all ⟨trivial, trivial, trivial⟩
            refine hK _ _ (looks [(0, fun z => True), (2, fun z => True)]) ⟨.inr (.inl (by kernel_rfl)), .inr (.inl (by kernel_rfl)), trivial⟩ hT5 ?_
            clear hK K
            try simp only [Act.put, List.setIfInBounds_toArray, List.set_cons_zero, List.set_cons_succ]
            generalize (((((((((((wv26.setCell ⟨gA, 0, none⟩ (.int .i64 G.dot.dev)).setCell ⟨gA, 1, none⟩ (.int .i64 G.dot.ep)).setCell ⟨gA, 2, none⟩ (.int .i64 G.dot.seq)).setCell ⟨gA, 3, none⟩ (.int .i64 G.coll)).setCell ⟨gA, 4, none⟩ (.int .i64 G.ver)).setCell ⟨gA, 5, none⟩ (.int .i64 G.kind)).setCell ⟨gA, 6, none⟩ (.string (str G.key))).setCell ⟨gA, 7, none⟩ (.string (str G.text))).setCell ⟨gA, 8, none⟩ (.int .i64 G.n)).setCell ⟨gA, 9, none⟩ (.int .i64 G.time)).setCell ⟨gA, 10, none⟩ (.slice a1 G.dots.length c1)) = wv27 at *
            refine wpF_exec 7 rfl (by kernel_rfl) (by rfl) ?_
            intro K hK
            have p0 := zB.cell 0 _ rfl
            have p1 := zB.cell 1 _ rfl
            have p2 := zB.cell 2 _ rfl
            have p3 := zB.cell 3 _ rfl
            have p4 := zB.cell 4 _ rfl
            have p5 := zB.cell 5 _ rfl
            have p6 := zB.cell 6 _ rfl
            have p7 := zB.cell 7 _ rfl
            have p8 := zB.cell 8 _ rfl
            have p9 := zB.cell 9 _ rfl
            have p10 := zB.cell 10 _ rfl
            have f0 := zB.fr 0
            have f1 := zB.fr 1
            have f2 := zB.fr 2
            have f3 := zB.fr 3
            have f4 := zB.fr 4
            have f5 := zB.fr 5
            have f6 := zB.fr 6
            have f7 := zB.fr 7
            have f8 := zB.fr 8
            have f9 := zB.fr 9
            have f10 := zB.fr 10
            go_simp
            clear p0 f0 p1 f1 p2 f2 p3 f3 p4 f4 p5 f5 p6 f6 p7 f7 p8 f8 p9 f9 p10 f10
            have xs : Ext (just gB) wv27 ((((((((((((wv27.setCell ⟨gB, 0, none⟩ (.int .i64 G.dot.dev)).setCell ⟨gB, 1, none⟩ (.int .i64 G.dot.ep)).setCell ⟨gB, 2, none⟩ (.int .i64 G.dot.seq)).setCell ⟨gB, 3, none⟩ (.int .i64 G.coll)).setCell ⟨gB, 4, none⟩ (.int .i64 G.ver)).setCell ⟨gB, 5, none⟩ (.int .i64 G.kind)).setCell ⟨gB, 6, none⟩ (.string (str G.key))).setCell ⟨gB, 7, none⟩ (.string (str G.text))).setCell ⟨gB, 8, none⟩ (.int .i64 G.n)).setCell ⟨gB, 9, none⟩ (.int .i64 G.time)).setCell ⟨gB, 10, none⟩ (.slice a2 G.dots.length c2))) := ((((((((((((Ext.refl (just gB) wv27).comp (Ext.setCell _ ⟨gB, 0, none⟩ (.int .i64 G.dot.dev) rfl)).comp (Ext.setCell _ ⟨gB, 1, none⟩ (.int .i64 G.dot.ep) rfl)).comp (Ext.setCell _ ⟨gB, 2, none⟩ (.int .i64 G.dot.seq) rfl)).comp (Ext.setCell _ ⟨gB, 3, none⟩ (.int .i64 G.coll) rfl)).comp (Ext.setCell _ ⟨gB, 4, none⟩ (.int .i64 G.ver) rfl)).comp (Ext.setCell _ ⟨gB, 5, none⟩ (.int .i64 G.kind) rfl)).comp (Ext.setCell _ ⟨gB, 6, none⟩ (.string (str G.key)) rfl)).comp (Ext.setCell _ ⟨gB, 7, none⟩ (.string (str G.text)) rfl)).comp (Ext.setCell _ ⟨gB, 8, none⟩ (.int .i64 G.n) rfl)).comp (Ext.setCell _ ⟨gB, 9, none⟩ (.int .i64 G.time) rfl)).comp (Ext.setCell _ ⟨gB, 10, none⟩ (.slice a2 G.dots.length c2) rfl))
            have zB : Blk ((((((((((((wv27.setCell ⟨gB, 0, none⟩ (.int .i64 G.dot.dev)).setCell ⟨gB, 1, none⟩ (.int .i64 G.dot.ep)).setCell ⟨gB, 2, none⟩ (.int .i64 G.dot.seq)).setCell ⟨gB, 3, none⟩ (.int .i64 G.coll)).setCell ⟨gB, 4, none⟩ (.int .i64 G.ver)).setCell ⟨gB, 5, none⟩ (.int .i64 G.kind)).setCell ⟨gB, 6, none⟩ (.string (str G.key))).setCell ⟨gB, 7, none⟩ (.string (str G.text))).setCell ⟨gB, 8, none⟩ (.int .i64 G.n)).setCell ⟨gB, 9, none⟩ (.int .i64 G.time)).setCell ⟨gB, 10, none⟩ (.slice a2 G.dots.length c2))) gB (G.cells a2 c2) := (((((((((((zB.set 0 (.int .i64 G.dot.dev) (by simp)).set 1 (.int .i64 G.dot.ep) (by simp)).set 2 (.int .i64 G.dot.seq) (by simp)).set 3 (.int .i64 G.coll) (by simp)).set 4 (.int .i64 G.ver) (by simp)).set 5 (.int .i64 G.kind) (by simp)).set 6 (.string (str G.key)) (by simp)).set 7 (.string (str G.text)) (by simp)).set 8 (.int .i64 G.n) (by simp)).set 9 (.int .i64 G.time) (by simp)).set 10 (.slice a2 G.dots.length c2) (by simp))
            have hxw := (((((((((((hxw.set1 hsB 0 (.int .i64 G.dot.dev)).set1 hsB 1 (.int .i64 G.dot.ep)).set1 hsB 2 (.int .i64 G.dot.seq)).set1 hsB 3 (.int .i64 G.coll)).set1 hsB 4 (.int .i64 G.ver)).set1 hsB 5 (.int .i64 G.kind)).set1 hsB 6 (.string (str G.key))).set1 hsB 7 (.string (str G.text))).set1 hsB 8 (.int .i64 G.n)).set1 hsB 9 (.int .i64 G.time)).set1 hsB 10 (.slice a2 G.dots.length c2))
            have zA := zA.ext (by simp [OpR.cells]) xs (by simp only [Esc.just]; omega)
            have r1 := rd_not r1 d1B xs
            have r2 := rd_not r2 d2B xs
            clear xs
            have hT6 : ∀ k, looks [(0, fun z => True), (2, fun z => True)] k ((((((((((((wv27.setCell ⟨gB, 0, none⟩ (.int .i64 G.dot.dev)).setCell ⟨gB, 1, none⟩ (.int .i64 G.dot.ep)).setCell ⟨gB, 2, none⟩ (.int .i64 G.dot.seq)).setCell ⟨gB, 3, none⟩ (.int .i64 G.coll)).setCell ⟨gB, 4, none⟩ (.int .i64 G.ver)).setCell ⟨gB, 5, none⟩ (.int .i64 G.kind)).setCell ⟨gB, 6, none⟩ (.string (str G.key))).setCell ⟨gB, 7, none⟩ (.string (str G.text))).setCell ⟨gB, 8, none⟩ (.int .i64 G.n)).setCell ⟨gB, 9, none⟩ (.int .i64 G.time)).setCell ⟨gB, 10, none⟩ (.slice a2 G.dots.length c2))) := looks_all ⟨trivial, trivial, trivial⟩
            refine hK _ _ (looks [(0, fun z => True), (2, fun z => True)]) ⟨.inr (.inl (by kernel_rfl)), .inr (.inl (by kernel_rfl)), trivial⟩ hT6 ?_
            clear hK K
            try simp only [Act.put, List.setIfInBounds_toArray, List.set_cons_zero, List.set_cons_succ]
            generalize (((((((((((wv27.setCell ⟨gB, 0, none⟩ (.int .i64 G.dot.dev)).setCell ⟨gB, 1, none⟩ (.int .i64 G.dot.ep)).setCell ⟨gB, 2, none⟩ (.int .i64 G.dot.seq)).setCell ⟨gB, 3, none⟩ (.int .i64 G.coll)).setCell ⟨gB, 4, none⟩ (.int .i64 G.ver)).setCell ⟨gB, 5, none⟩ (.int .i64 G.kind)).setCell ⟨gB, 6, none⟩ (.string (str G.key))).setCell ⟨gB, 7, none⟩ (.string (str G.text))).setCell ⟨gB, 8, none⟩ (.int .i64 G.n)).setCell ⟨gB, 9, none⟩ (.int .i64 G.time)).setCell ⟨gB, 10, none⟩ (.slice a2 G.dots.length c2)) = wv28 at *
            refine wpF_done (by kernel_rfl) ?_ _
            go_wp2_with fail
            go_meet
            exact ⟨gA, gB, a1, a2, c1, c2, rfl, rfl, by omega, hsA, hsB, zA, zB, r1, r2, d1B, d2B, hxw⟩
      · refine ⟨_, rfl, by rfl, ?_⟩
        intro K hK
        go_simp
        have zA : Blk ((w3.alloc (.cells #[.int .i64 0, .int .i64 0, .int .i64 0, .int .i64 0, .int .i64 0, .int .i64 0, .string { data := #[] }, .string { data := #[] }, .int .i64 0, .int .i64 0, .slice none 0 0] 26)).drew) (w3.heap.size) [.int .i64 0, .int .i64 0, .int .i64 0, .int .i64 0, .int .i64 0, .int .i64 0, .string { data := #[] }, .string { data := #[] }, .int .i64 0, .int .i64 0, .slice none 0 0] := (Blk.lit w3 _ _).drew
        have hsA : w.heap.size ≤ w3.heap.size := hx.size
        have hxw := hx.comp ((Ext.alloc no w3 (.cells #[.int .i64 0, .int .i64 0, .int .i64 0, .int .i64 0, .int .i64 0, .int .i64 0, .string { data := #[] }, .string { data := #[] }, .int .i64 0, .int .i64 0, .slice none 0 0] 26)).comp (Ext.drew no _))
        have hx3 := (Ext.refl no w3).comp ((Ext.alloc no w3 (.cells #[.int .i64 0, .int .i64 0, .int .i64 0, .int .i64 0, .int .i64 0, .int .i64 0, .string { data := #[] }, .string { data := #[] }, .int .i64 0, .int .i64 0, .slice none 0 0] 26)).comp (Ext.drew no _))
        have hT1 : ∀ k, looks [(0, fun z => Ext no w3 z), (2, fun z => Ext no w3 z)] k ((w3.alloc (.cells #[.int .i64 0, .int .i64 0, .int .i64 0, .int .i64 0, .int .i64 0, .int .i64 0, .string { data := #[] }, .string { data := #[] }, .int .i64 0, .int .i64 0, .slice none 0 0] 26)).drew) := looks_all ⟨hx3, hx3, trivial⟩
        refine hK _ _ (looks [(0, fun z => Ext no w3 z), (2, fun z => Ext no w3 z)]) ⟨.inr (.inr (fun x h => h)), .inr (.inr (fun x h => h)), trivial⟩ hT1 ?_
        clear hK K
        try simp only [Act.put, List.setIfInBounds_toArray, List.set_cons_zero, List.set_cons_succ]
        obtain ⟨gA, hgA⟩ : ∃ g, g = w3.heap.size := ⟨_, rfl⟩
        rw [← hgA] at zA hsA  ⊢
        clear hgA
        generalize (w3.alloc (.cells #[.int .i64 0, .int .i64 0, .int .i64 0, .int .i64 0, .int .i64 0, .int .i64 0, .string { data := #[] }, .string { data := #[] }, .int .i64 0, .int .i64 0, .slice none 0 0] 26)).drew = wv29 at *
        refine wpF_execs [1, 5] (by kernel_rfl) (by simp) ?_
        intro j hj
        simp only [List.mem_cons, List.not_mem_nil, or_false] at hj
        rcases hj with rfl | rfl
        · refine ⟨_, rfl, by rfl, ?_⟩
          intro K hK
          go_simp
          refine (good_any (wv29) o a c hok (hrw.ext hxw (fun _ _ h => h)) hl hc).mono ?_
          rintro e wv30 ⟨a1, c1, rfl, r1, l1, m1, xg, fz1⟩
          rw [← HG.out] at r1 l1 ⊢
          unfold OpR.v
          have d1A : ds G.dots ≠ [] → ∀ ad, a1 = some ad → ad.block ≠ gA := fun _ ad h => by have := fz1 ad h; have := zA.lt (by simp); omega
          have zA := zA.ext (by simp) xg (fun h => h)
          have hxw := hxw.comp xg
          have hx3 := hx3.comp xg
          have hT2 : ∀ k, looks [(0, fun z => Ext no w3 z), (2, fun z => Ext no w3 z)] k (wv30) := looks_all ⟨hx3, hx3, trivial⟩
          refine hK _ _ (looks [(0, fun z => Ext no w3 z), (2, fun z => Ext no w3 z)]) ⟨.inr (.inl (by kernel_rfl)), .inr (.inr (fun x h => h)), trivial⟩ hT2 ?_
          clear hK K
          try simp only [Act.put, List.setIfInBounds_toArray, List.set_cons_zero, List.set_cons_succ]
          refine wpF_execs [3, 5] (by kernel_rfl) (by simp) ?_
          intro j hj
          simp only [List.mem_cons, List.not_mem_nil, or_false] at hj
          rcases hj with rfl | rfl
          · refine ⟨_, rfl, by rfl, ?_⟩
            intro K hK
            go_simp
            refine (good_any (wv30) o a c hok (hrw.ext hxw (fun _ _ h => h)) hl hc).mono ?_
            rintro e wv31 ⟨a2, c2, rfl, r2, l2, m2, xg, fz2⟩
            rw [← HG.out] at r2 l2 ⊢
            unfold OpR.v
            have d2A : ds G.dots ≠ [] → ∀ ad, a2 = some ad → ad.block ≠ gA := fun _ ad h => by have := fz2 ad h; have := zA.lt (by simp); omega
            have zA := zA.ext (by simp) xg (fun h => h)
            have r1 := r1.ext xg (fun _ _ h => h)
            have hxw := hxw.comp xg
            have hx3 := hx3.comp xg
            have hT3 : ∀ k, looks [(0, fun z => Ext no w3 z), (2, fun z => Ext no w3 z)] k (wv31) := looks_all ⟨hx3, hx3, trivial⟩
            refine hK _ _ (looks [(0, fun z => Ext no w3 z), (2, fun z => Ext no w3 z)]) ⟨.inr (.inl (by kernel_rfl)), .inr (.inl (by kernel_rfl)), trivial⟩ hT3 ?_
            clear hK K
            try simp only [Act.put, List.setIfInBounds_toArray, List.set_cons_zero, List.set_cons_succ]
            refine wpF_exec 5 rfl (by kernel_rfl) (by rfl) ?_
            intro K hK
            go_simp
            have zB : Blk ((wv31.alloc (.cells #[.int .i64 0, .int .i64 0, .int .i64 0, .int .i64 0, .int .i64 0, .int .i64 0, .string { data := #[] }, .string { data := #[] }, .int .i64 0, .int .i64 0, .slice none 0 0] 26))) (wv31.heap.size) [.int .i64 0, .int .i64 0, .int .i64 0, .int .i64 0, .int .i64 0, .int .i64 0, .string { data := #[] }, .string { data := #[] }, .int .i64 0, .int .i64 0, .slice none 0 0] := Blk.lit wv31 _ _
            have nAB : gA < wv31.heap.size := zA.lt (by simp)
            have zA := zA.ext (by simp) (Ext.alloc no wv31 (.cells #[.int .i64 0, .int .i64 0, .int .i64 0, .int .i64 0, .int .i64 0, .int .i64 0, .string { data := #[] }, .string { data := #[] }, .int .i64 0, .int .i64 0, .slice none 0 0] 26)) (fun h => h)
            have d1B := rd_gt (rd_low2 r1) (Nat.le_refl (wv31.heap.size))
            have r1 := r1.ext (Ext.alloc no wv31 (.cells #[.int .i64 0, .int .i64 0, .int .i64 0, .int .i64 0, .int .i64 0, .int .i64 0, .string { data := #[] }, .string { data := #[] }, .int .i64 0, .int .i64 0, .slice none 0 0] 26)) (fun _ _ h => h)
            have d2B := rd_gt (rd_low2 r2) (Nat.le_refl (wv31.heap.size))
            have r2 := r2.ext (Ext.alloc no wv31 (.cells #[.int .i64 0, .int .i64 0, .int .i64 0, .int .i64 0, .int .i64 0, .int .i64 0, .string { data := #[] }, .string { data := #[] }, .int .i64 0, .int .i64 0, .slice none 0 0] 26)) (fun _ _ h => h)
            have hsB : w.heap.size ≤ wv31.heap.size := hxw.size
            have hxw := hxw.comp (Ext.alloc no wv31 (.cells #[.int .i64 0, .int .i64 0, .int .i64 0, .int .i64 0, .int .i64 0, .int .i64 0, .string { data := #[] }, .string { data := #[] }, .int .i64 0, .int .i64 0, .slice none 0 0] 26))
            have hx3 := hx3.comp (Ext.alloc no wv31 (.cells #[.int .i64 0, .int .i64 0, .int .i64 0, .int .i64 0, .int .i64 0, .int .i64 0, .string { data := #[] }, .string { data := #[] }, .int .i64 0, .int .i64 0, .slice none 0 0] 26))
            have hT4 : ∀ k, looks [(0, fun z => Ext no w3 z), (2, fun z => Ext no w3 z)] k ((wv31.alloc (.cells #[.int .i64 0, .int .i64 0, .int .i64 0, .int .i64 0, .int .i64 0, .int .i64 0, .string { data := #[] }, .string { data := #[] }, .int .i64 0, .int .i64 0, .slice none 0 0] 26))) := looks_all ⟨hx3, hx3, trivial⟩
            refine hK _ _ (looks [(0, fun z => Ext no w3 z), (2, fun z => Ext no w3 z)]) ⟨.inr (.inr (fun x h => h)), .inr (.inr (fun x h => h)), trivial⟩ hT4 ?_
            clear hK K
            try simp only [Act.put, List.setIfInBounds_toArray, List.set_cons_zero, List.set_cons_succ]
            obtain ⟨gB, hgB⟩ : ∃ g, g = wv31.heap.size := ⟨_, rfl⟩
            rw [← hgB] at zB hsB nAB d1B d2B ⊢
            clear hgB
            generalize (wv31.alloc (.cells #[.int .i64 0, .int .i64 0, .int .i64 0, .int .i64 0, .int .i64 0, .int .i64 0, .string { data := #[] }, .string { data := #[] }, .int .i64 0, .int .i64 0, .slice none 0 0] 26)) = wv32 at *
            refine wpF_exec 6 rfl (by kernel_rfl) (by rfl) ?_
            intro K hK
            have p0 := zA.cell 0 _ rfl
            have p1 := zA.cell 1 _ rfl
            have p2 := zA.cell 2 _ rfl
            have p3 := zA.cell 3 _ rfl
            have p4 := zA.cell 4 _ rfl
            have p5 := zA.cell 5 _ rfl
            have p6 := zA.cell 6 _ rfl
            have p7 := zA.cell 7 _ rfl
            have p8 := zA.cell 8 _ rfl
            have p9 := zA.cell 9 _ rfl
            have p10 := zA.cell 10 _ rfl
            have f0 := zA.fr 0
            have f1 := zA.fr 1
            have f2 := zA.fr 2
            have f3 := zA.fr 3
            have f4 := zA.fr 4
            have f5 := zA.fr 5
            have f6 := zA.fr 6
            have f7 := zA.fr 7
            have f8 := zA.fr 8
            have f9 := zA.fr 9
            have f10 := zA.fr 10
            go_simp
            clear p0 f0 p1 f1 p2 f2 p3 f3 p4 f4 p5 f5 p6 f6 p7 f7 p8 f8 p9 f9 p10 f10
            have xs : Ext (just gA) wv32 ((((((((((((wv32.setCell ⟨gA, 0, none⟩ (.int .i64 G.dot.dev)).setCell ⟨gA, 1, none⟩ (.int .i64 G.dot.ep)).setCell ⟨gA, 2, none⟩ (.int .i64 G.dot.seq)).setCell ⟨gA, 3, none⟩ (.int .i64 G.coll)).setCell ⟨gA, 4, none⟩ (.int .i64 G.ver)).setCell ⟨gA, 5, none⟩ (.int .i64 G.kind)).setCell ⟨gA, 6, none⟩ (.string (str G.key))).setCell ⟨gA, 7, none⟩ (.string (str G.text))).setCell ⟨gA, 8, none⟩ (.int .i64 G.n)).setCell ⟨gA, 9, none⟩ (.int .i64 G.time)).setCell ⟨gA, 10, none⟩ (.slice a1 G.dots.length c1))) := ((((((((((((Ext.refl (just gA) wv32).comp (Ext.setCell _ ⟨gA, 0, none⟩ (.int .i64 G.dot.dev) rfl)).comp (Ext.setCell _ ⟨gA, 1, none⟩ (.int .i64 G.dot.ep) rfl)).comp (Ext.setCell _ ⟨gA, 2, none⟩ (.int .i64 G.dot.seq) rfl)).comp (Ext.setCell _ ⟨gA, 3, none⟩ (.int .i64 G.coll) rfl)).comp (Ext.setCell _ ⟨gA, 4, none⟩ (.int .i64 G.ver) rfl)).comp (Ext.setCell _ ⟨gA, 5, none⟩ (.int .i64 G.kind) rfl)).comp (Ext.setCell _ ⟨gA, 6, none⟩ (.string (str G.key)) rfl)).comp (Ext.setCell _ ⟨gA, 7, none⟩ (.string (str G.text)) rfl)).comp (Ext.setCell _ ⟨gA, 8, none⟩ (.int .i64 G.n) rfl)).comp (Ext.setCell _ ⟨gA, 9, none⟩ (.int .i64 G.time) rfl)).comp (Ext.setCell _ ⟨gA, 10, none⟩ (.slice a1 G.dots.length c1) rfl))
            have zA : Blk ((((((((((((wv32.setCell ⟨gA, 0, none⟩ (.int .i64 G.dot.dev)).setCell ⟨gA, 1, none⟩ (.int .i64 G.dot.ep)).setCell ⟨gA, 2, none⟩ (.int .i64 G.dot.seq)).setCell ⟨gA, 3, none⟩ (.int .i64 G.coll)).setCell ⟨gA, 4, none⟩ (.int .i64 G.ver)).setCell ⟨gA, 5, none⟩ (.int .i64 G.kind)).setCell ⟨gA, 6, none⟩ (.string (str G.key))).setCell ⟨gA, 7, none⟩ (.string (str G.text))).setCell ⟨gA, 8, none⟩ (.int .i64 G.n)).setCell ⟨gA, 9, none⟩ (.int .i64 G.time)).setCell ⟨gA, 10, none⟩ (.slice a1 G.dots.length c1))) gA (G.cells a1 c1) := (((((((((((zA.set 0 (.int .i64 G.dot.dev) (by simp)).set 1 (.int .i64 G.dot.ep) (by simp)).set 2 (.int .i64 G.dot.seq) (by simp)).set 3 (.int .i64 G.coll) (by simp)).set 4 (.int .i64 G.ver) (by simp)).set 5 (.int .i64 G.kind) (by simp)).set 6 (.string (str G.key)) (by simp)).set 7 (.string (str G.text)) (by simp)).set 8 (.int .i64 G.n) (by simp)).set 9 (.int .i64 G.time) (by simp)).set 10 (.slice a1 G.dots.length c1) (by simp))
            have hxw := (((((((((((hxw.set1 hsA 0 (.int .i64 G.dot.dev)).set1 hsA 1 (.int .i64 G.dot.ep)).set1 hsA 2 (.int .i64 G.dot.seq)).set1 hsA 3 (.int .i64 G.coll)).set1 hsA 4 (.int .i64 G.ver)).set1 hsA 5 (.int .i64 G.kind)).set1 hsA 6 (.string (str G.key))).set1 hsA 7 (.string (str G.text))).set1 hsA 8 (.int .i64 G.n)).set1 hsA 9 (.int .i64 G.time)).set1 hsA 10 (.slice a1 G.dots.length c1))
            have zB := zB.ext (by simp [OpR.cells]) xs (by simp only [Esc.just]; omega)
            have r1 := rd_not r1 d1A xs
            have r2 := rd_not r2 d2A xs
            clear xs
            have hT5 : ∀ k, looks [(0, fun z => True), (2, fun z => True)] k ((((((((((((wv32.setCell ⟨gA, 0, none⟩ (.int .i64 G.dot.dev)).setCell ⟨gA, 1, none⟩ (.int .i64 G.dot.ep)).setCell ⟨gA, 2, none⟩ (.int .i64 G.dot.seq)).setCell ⟨gA, 3, none⟩ (.int .i64 G.coll)).setCell ⟨gA, 4, none⟩ (.int .i64 G.ver)).setCell ⟨gA, 5, none⟩ (.int .i64 G.kind)).setCell ⟨gA, 6, none⟩ (.string (str G.key))).setCell ⟨gA, 7, none⟩ (.string (str G.text))).setCell ⟨gA, 8, none⟩ (.int .i64 G.n)).setCell ⟨gA, 9, none⟩ (.int .i64 G.time)).setCell ⟨gA, 10, none⟩ (.slice a1 G.dots.length c1))) := looks_all ⟨trivial, trivial, trivial⟩
            refine hK _ _ (looks [(0, fun z => True), (2, fun z => True)]) ⟨.inr (.inl (by kernel_rfl)), .inr (.inl (by kernel_rfl)), trivial⟩ hT5 ?_
            clear hK K
            try simp only [Act.put, List.setIfInBounds_toArray, List.set_cons_zero, List.set_cons_succ]
            generalize (((((((((((wv32.setCell ⟨gA, 0, none⟩ (.int .i64 G.dot.dev)).setCell ⟨gA, 1, none⟩ (.int .i64 G.dot.ep)).setCell ⟨gA, 2, none⟩ (.int .i64 G.dot.seq)).setCell ⟨gA, 3, none⟩ (.int .i64 G.coll)).setCell ⟨gA, 4, none⟩ (.int .i64 G.ver)).setCell ⟨gA, 5, none⟩ (.int .i64 G.kind)).setCell ⟨gA, 6, none⟩ (.string (str G.key))).setCell ⟨gA, 7, none⟩ (.string (str G.text))).setCell ⟨gA, 8, none⟩ (.int .i64 G.n)).setCell ⟨gA, 9, none⟩ (.int .i64 G.time)).setCell ⟨gA, 10, none⟩ (.slice a1 G.dots.length c1)) = wv33 at *
            refine wpF_exec 7 rfl (by kernel_rfl) (by rfl) ?_
            intro K hK
            have p0 := zB.cell 0 _ rfl
            have p1 := zB.cell 1 _ rfl
            have p2 := zB.cell 2 _ rfl
            have p3 := zB.cell 3 _ rfl
            have p4 := zB.cell 4 _ rfl
            have p5 := zB.cell 5 _ rfl
            have p6 := zB.cell 6 _ rfl
            have p7 := zB.cell 7 _ rfl
            have p8 := zB.cell 8 _ rfl
            have p9 := zB.cell 9 _ rfl
            have p10 := zB.cell 10 _ rfl
            have f0 := zB.fr 0
            have f1 := zB.fr 1
            have f2 := zB.fr 2
            have f3 := zB.fr 3
            have f4 := zB.fr 4
            have f5 := zB.fr 5
            have f6 := zB.fr 6
            have f7 := zB.fr 7
            have f8 := zB.fr 8
            have f9 := zB.fr 9
            have f10 := zB.fr 10
            go_simp
            clear p0 f0 p1 f1 p2 f2 p3 f3 p4 f4 p5 f5 p6 f6 p7 f7 p8 f8 p9 f9 p10 f10
            have xs : Ext (just gB) wv33 ((((((((((((wv33.setCell ⟨gB, 0, none⟩ (.int .i64 G.dot.dev)).setCell ⟨gB, 1, none⟩ (.int .i64 G.dot.ep)).setCell ⟨gB, 2, none⟩ (.int .i64 G.dot.seq)).setCell ⟨gB, 3, none⟩ (.int .i64 G.coll)).setCell ⟨gB, 4, none⟩ (.int .i64 G.ver)).setCell ⟨gB, 5, none⟩ (.int .i64 G.kind)).setCell ⟨gB, 6, none⟩ (.string (str G.key))).setCell ⟨gB, 7, none⟩ (.string (str G.text))).setCell ⟨gB, 8, none⟩ (.int .i64 G.n)).setCell ⟨gB, 9, none⟩ (.int .i64 G.time)).setCell ⟨gB, 10, none⟩ (.slice a2 G.dots.length c2))) := ((((((((((((Ext.refl (just gB) wv33).comp (Ext.setCell _ ⟨gB, 0, none⟩ (.int .i64 G.dot.dev) rfl)).comp (Ext.setCell _ ⟨gB, 1, none⟩ (.int .i64 G.dot.ep) rfl)).comp (Ext.setCell _ ⟨gB, 2, none⟩ (.int .i64 G.dot.seq) rfl)).comp (Ext.setCell _ ⟨gB, 3, none⟩ (.int .i64 G.coll) rfl)).comp (Ext.setCell _ ⟨gB, 4, none⟩ (.int .i64 G.ver) rfl)).comp (Ext.setCell _ ⟨gB, 5, none⟩ (.int .i64 G.kind) rfl)).comp (Ext.setCell _ ⟨gB, 6, none⟩ (.string (str G.key)) rfl)).comp (Ext.setCell _ ⟨gB, 7, none⟩ (.string (str G.text)) rfl)).comp (Ext.setCell _ ⟨gB, 8, none⟩ (.int .i64 G.n) rfl)).comp (Ext.setCell _ ⟨gB, 9, none⟩ (.int .i64 G.time) rfl)).comp (Ext.setCell _ ⟨gB, 10, none⟩ (.slice a2 G.dots.length c2) rfl))
            have zB : Blk ((((((((((((wv33.setCell ⟨gB, 0, none⟩ (.int .i64 G.dot.dev)).setCell ⟨gB, 1, none⟩ (.int .i64 G.dot.ep)).setCell ⟨gB, 2, none⟩ (.int .i64 G.dot.seq)).setCell ⟨gB, 3, none⟩ (.int .i64 G.coll)).setCell ⟨gB, 4, none⟩ (.int .i64 G.ver)).setCell ⟨gB, 5, none⟩ (.int .i64 G.kind)).setCell ⟨gB, 6, none⟩ (.string (str G.key))).setCell ⟨gB, 7, none⟩ (.string (str G.text))).setCell ⟨gB, 8, none⟩ (.int .i64 G.n)).setCell ⟨gB, 9, none⟩ (.int .i64 G.time)).setCell ⟨gB, 10, none⟩ (.slice a2 G.dots.length c2))) gB (G.cells a2 c2) := (((((((((((zB.set 0 (.int .i64 G.dot.dev) (by simp)).set 1 (.int .i64 G.dot.ep) (by simp)).set 2 (.int .i64 G.dot.seq) (by simp)).set 3 (.int .i64 G.coll) (by simp)).set 4 (.int .i64 G.ver) (by simp)).set 5 (.int .i64 G.kind) (by simp)).set 6 (.string (str G.key)) (by simp)).set 7 (.string (str G.text)) (by simp)).set 8 (.int .i64 G.n) (by simp)).set 9 (.int .i64 G.time) (by simp)).set 10 (.slice a2 G.dots.length c2) (by simp))
            have hxw := (((((((((((hxw.set1 hsB 0 (.int .i64 G.dot.dev)).set1 hsB 1 (.int .i64 G.dot.ep)).set1 hsB 2 (.int .i64 G.dot.seq)).set1 hsB 3 (.int .i64 G.coll)).set1 hsB 4 (.int .i64 G.ver)).set1 hsB 5 (.int .i64 G.kind)).set1 hsB 6 (.string (str G.key))).set1 hsB 7 (.string (str G.text))).set1 hsB 8 (.int .i64 G.n)).set1 hsB 9 (.int .i64 G.time)).set1 hsB 10 (.slice a2 G.dots.length c2))
            have zA := zA.ext (by simp [OpR.cells]) xs (by simp only [Esc.just]; omega)
            have r1 := rd_not r1 d1B xs
            have r2 := rd_not r2 d2B xs
            clear xs
            have hT6 : ∀ k, looks [(0, fun z => True), (2, fun z => True)] k ((((((((((((wv33.setCell ⟨gB, 0, none⟩ (.int .i64 G.dot.dev)).setCell ⟨gB, 1, none⟩ (.int .i64 G.dot.ep)).setCell ⟨gB, 2, none⟩ (.int .i64 G.dot.seq)).setCell ⟨gB, 3, none⟩ (.int .i64 G.coll)).setCell ⟨gB, 4, none⟩ (.int .i64 G.ver)).setCell ⟨gB, 5, none⟩ (.int .i64 G.kind)).setCell ⟨gB, 6, none⟩ (.string (str G.key))).setCell ⟨gB, 7, none⟩ (.string (str G.text))).setCell ⟨gB, 8, none⟩ (.int .i64 G.n)).setCell ⟨gB, 9, none⟩ (.int .i64 G.time)).setCell ⟨gB, 10, none⟩ (.slice a2 G.dots.length c2))) := looks_all ⟨trivial, trivial, trivial⟩
            refine hK _ _ (looks [(0, fun z => True), (2, fun z => True)]) ⟨.inr (.inl (by kernel_rfl)), .inr (.inl (by kernel_rfl)), trivial⟩ hT6 ?_
            clear hK K
            try simp only [Act.put, List.setIfInBounds_toArray, List.set_cons_zero, List.set_cons_succ]
            generalize (((((((((((wv33.setCell ⟨gB, 0, none⟩ (.int .i64 G.dot.dev)).setCell ⟨gB, 1, none⟩ (.int .i64 G.dot.ep)).setCell ⟨gB, 2, none⟩ (.int .i64 G.dot.seq)).setCell ⟨gB, 3, none⟩ (.int .i64 G.coll)).setCell ⟨gB, 4, none⟩ (.int .i64 G.ver)).setCell ⟨gB, 5, none⟩ (.int .i64 G.kind)).setCell ⟨gB, 6, none⟩ (.string (str G.key))).setCell ⟨gB, 7, none⟩ (.string (str G.text))).setCell ⟨gB, 8, none⟩ (.int .i64 G.n)).setCell ⟨gB, 9, none⟩ (.int .i64 G.time)).setCell ⟨gB, 10, none⟩ (.slice a2 G.dots.length c2)) = wv34 at *
            refine wpF_done (by kernel_rfl) ?_ _
            go_wp2_with fail
            go_meet
            exact ⟨gA, gB, a1, a2, c1, c2, rfl, rfl, by omega, hsA, hsB, zA, zB, r1, r2, d1B, d2B, hxw⟩
          · refine ⟨_, rfl, by rfl, ?_⟩
            intro K hK
            go_simp
            have zB : Blk ((wv30.alloc (.cells #[.int .i64 0, .int .i64 0, .int .i64 0, .int .i64 0, .int .i64 0, .int .i64 0, .string { data := #[] }, .string { data := #[] }, .int .i64 0, .int .i64 0, .slice none 0 0] 26))) (wv30.heap.size) [.int .i64 0, .int .i64 0, .int .i64 0, .int .i64 0, .int .i64 0, .int .i64 0, .string { data := #[] }, .string { data := #[] }, .int .i64 0, .int .i64 0, .slice none 0 0] := Blk.lit wv30 _ _
            have nAB : gA < wv30.heap.size := zA.lt (by simp)
            have zA := zA.ext (by simp) (Ext.alloc no wv30 (.cells #[.int .i64 0, .int .i64 0, .int .i64 0, .int .i64 0, .int .i64 0, .int .i64 0, .string { data := #[] }, .string { data := #[] }, .int .i64 0, .int .i64 0, .slice none 0 0] 26)) (fun h => h)
            have d1B := rd_gt (rd_low2 r1) (Nat.le_refl (wv30.heap.size))
            have r1 := r1.ext (Ext.alloc no wv30 (.cells #[.int .i64 0, .int .i64 0, .int .i64 0, .int .i64 0, .int .i64 0, .int .i64 0, .string { data := #[] }, .string { data := #[] }, .int .i64 0, .int .i64 0, .slice none 0 0] 26)) (fun _ _ h => h)
            have hsB : w.heap.size ≤ wv30.heap.size := hxw.size
            have hxw := hxw.comp (Ext.alloc no wv30 (.cells #[.int .i64 0, .int .i64 0, .int .i64 0, .int .i64 0, .int .i64 0, .int .i64 0, .string { data := #[] }, .string { data := #[] }, .int .i64 0, .int .i64 0, .slice none 0 0] 26))
            have hx3 := hx3.comp (Ext.alloc no wv30 (.cells #[.int .i64 0, .int .i64 0, .int .i64 0, .int .i64 0, .int .i64 0, .int .i64 0, .string { data := #[] }, .string { data := #[] }, .int .i64 0, .int .i64 0, .slice none 0 0] 26))
            have hT3 : ∀ k, looks [(0, fun z => Ext no w3 z), (2, fun z => Ext no w3 z)] k ((wv30.alloc (.cells #[.int .i64 0, .int .i64 0, .int .i64 0, .int .i64 0, .int .i64 0, .int .i64 0, .string { data := #[] }, .string { data := #[] }, .int .i64 0, .int .i64 0, .slice none 0 0] 26))) := looks_all ⟨hx3, hx3, trivial⟩
            refine hK _ _ (looks [(0, fun z => Ext no w3 z), (2, fun z => Ext no w3 z)]) ⟨.inr (.inr (fun x h => h)), .inr (.inr (fun x h => h)), trivial⟩ hT3 ?_
            clear hK K
            try simp only [Act.put, List.setIfInBounds_toArray, List.set_cons_zero, List.set_cons_succ]
            obtain ⟨gB, hgB⟩ : ∃ g, g = wv30.heap.size := ⟨_, rfl⟩
            rw [← hgB] at zB hsB nAB d1B ⊢
            clear hgB
            generalize (wv30.alloc (.cells #[.int .i64 0, .int .i64 0, .int .i64 0, .int .i64 0, .int .i64 0, .int .i64 0, .string { data := #[] }, .string { data := #[] }, .int .i64 0, .int .i64 0, .slice none 0 0] 26)) = wv35 at *
            refine wpF_exec 3 rfl (by kernel_rfl) (by rfl) ?_
            intro K hK
            go_simp
            refine (good_any (wv35) o a c hok (hrw.ext hxw (fun _ _ h => h)) hl hc).mono ?_
            rintro e wv36 ⟨a2, c2, rfl, r2, l2, m2, xg, fz2⟩
            rw [← HG.out] at r2 l2 ⊢
            unfold OpR.v
            have d2A : ds G.dots ≠ [] → ∀ ad, a2 = some ad → ad.block ≠ gA := fun _ ad h => by have := fz2 ad h; have := zA.lt (by simp); omega
            have zA := zA.ext (by simp) xg (fun h => h)
            have d2B : ds G.dots ≠ [] → ∀ ad, a2 = some ad → ad.block ≠ gB := fun _ ad h => by have := fz2 ad h; have := zB.lt (by simp); omega
            have zB := zB.ext (by simp) xg (fun h => h)
            have r1 := r1.ext xg (fun _ _ h => h)
            have hxw := hxw.comp xg
            have hx3 := hx3.comp xg
            have hT4 : ∀ k, looks [(0, fun z => Ext no w3 z), (2, fun z => Ext no w3 z)] k (wv36) := looks_all ⟨hx3, hx3, trivial⟩
            refine hK _ _ (looks [(0, fun z => Ext no w3 z), (2, fun z => Ext no w3 z)]) ⟨.inr (.inl (by kernel_rfl)), .inr (.inl (by kernel_rfl)), trivial⟩ hT4 ?_
            clear hK K
            try simp only [Act.put, List.setIfInBounds_toArray, List.set_cons_zero, List.set_cons_succ]
            refine wpF_exec 6 rfl (by kernel_rfl) (by rfl) ?_
            intro K hK
            have p0 := zA.cell 0 _ rfl
            have p1 := zA.cell 1 _ rfl
            have p2 := zA.cell 2 _ rfl
            have p3 := zA.cell 3 _ rfl
            have p4 := zA.cell 4 _ rfl
            have p5 := zA.cell 5 _ rfl
            have p6 := zA.cell 6 _ rfl
            have p7 := zA.cell 7 _ rfl
            have p8 := zA.cell 8 _ rfl
            have p9 := zA.cell 9 _ rfl
            have p10 := zA.cell 10 _ rfl
            have f0 := zA.fr 0
            have f1 := zA.fr 1
            have f2 := zA.fr 2
            have f3 := zA.fr 3
            have f4 := zA.fr 4
            have f5 := zA.fr 5
            have f6 := zA.fr 6
            have f7 := zA.fr 7
            have f8 := zA.fr 8
            have f9 := zA.fr 9
            have f10 := zA.fr 10
            go_simp
            clear p0 f0 p1 f1 p2 f2 p3 f3 p4 f4 p5 f5 p6 f6 p7 f7 p8 f8 p9 f9 p10 f10
            have xs : Ext (just gA) wv36 ((((((((((((wv36.setCell ⟨gA, 0, none⟩ (.int .i64 G.dot.dev)).setCell ⟨gA, 1, none⟩ (.int .i64 G.dot.ep)).setCell ⟨gA, 2, none⟩ (.int .i64 G.dot.seq)).setCell ⟨gA, 3, none⟩ (.int .i64 G.coll)).setCell ⟨gA, 4, none⟩ (.int .i64 G.ver)).setCell ⟨gA, 5, none⟩ (.int .i64 G.kind)).setCell ⟨gA, 6, none⟩ (.string (str G.key))).setCell ⟨gA, 7, none⟩ (.string (str G.text))).setCell ⟨gA, 8, none⟩ (.int .i64 G.n)).setCell ⟨gA, 9, none⟩ (.int .i64 G.time)).setCell ⟨gA, 10, none⟩ (.slice a1 G.dots.length c1))) := ((((((((((((Ext.refl (just gA) wv36).comp (Ext.setCell _ ⟨gA, 0, none⟩ (.int .i64 G.dot.dev) rfl)).comp (Ext.setCell _ ⟨gA, 1, none⟩ (.int .i64 G.dot.ep) rfl)).comp (Ext.setCell _ ⟨gA, 2, none⟩ (.int .i64 G.dot.seq) rfl)).comp (Ext.setCell _ ⟨gA, 3, none⟩ (.int .i64 G.coll) rfl)).comp (Ext.setCell _ ⟨gA, 4, none⟩ (.int .i64 G.ver) rfl)).comp (Ext.setCell _ ⟨gA, 5, none⟩ (.int .i64 G.kind) rfl)).comp (Ext.setCell _ ⟨gA, 6, none⟩ (.string (str G.key)) rfl)).comp (Ext.setCell _ ⟨gA, 7, none⟩ (.string (str G.text)) rfl)).comp (Ext.setCell _ ⟨gA, 8, none⟩ (.int .i64 G.n) rfl)).comp (Ext.setCell _ ⟨gA, 9, none⟩ (.int .i64 G.time) rfl)).comp (Ext.setCell _ ⟨gA, 10, none⟩ (.slice a1 G.dots.length c1) rfl))
            have zA : Blk ((((((((((((wv36.setCell ⟨gA, 0, none⟩ (.int .i64 G.dot.dev)).setCell ⟨gA, 1, none⟩ (.int .i64 G.dot.ep)).setCell ⟨gA, 2, none⟩ (.int .i64 G.dot.seq)).setCell ⟨gA, 3, none⟩ (.int .i64 G.coll)).setCell ⟨gA, 4, none⟩ (.int .i64 G.ver)).setCell ⟨gA, 5, none⟩ (.int .i64 G.kind)).setCell ⟨gA, 6, none⟩ (.string (str G.key))).setCell ⟨gA, 7, none⟩ (.string (str G.text))).setCell ⟨gA, 8, none⟩ (.int .i64 G.n)).setCell ⟨gA, 9, none⟩ (.int .i64 G.time)).setCell ⟨gA, 10, none⟩ (.slice a1 G.dots.length c1))) gA (G.cells a1 c1) := (((((((((((zA.set 0 (.int .i64 G.dot.dev) (by simp)).set 1 (.int .i64 G.dot.ep) (by simp)).set 2 (.int .i64 G.dot.seq) (by simp)).set 3 (.int .i64 G.coll) (by simp)).set 4 (.int .i64 G.ver) (by simp)).set 5 (.int .i64 G.kind) (by simp)).set 6 (.string (str G.key)) (by simp)).set 7 (.string (str G.text)) (by simp)).set 8 (.int .i64 G.n) (by simp)).set 9 (.int .i64 G.time) (by simp)).set 10 (.slice a1 G.dots.length c1) (by simp))
            have hxw := (((((((((((hxw.set1 hsA 0 (.int .i64 G.dot.dev)).set1 hsA 1 (.int .i64 G.dot.ep)).set1 hsA 2 (.int .i64 G.dot.seq)).set1 hsA 3 (.int .i64 G.coll)).set1 hsA 4 (.int .i64 G.ver)).set1 hsA 5 (.int .i64 G.kind)).set1 hsA 6 (.string (str G.key))).set1 hsA 7 (.string (str G.text))).set1 hsA 8 (.int .i64 G.n)).set1 hsA 9 (.int .i64 G.time)).set1 hsA 10 (.slice a1 G.dots.length c1))
            have zB := zB.ext (by simp [OpR.cells]) xs (by simp only [Esc.just]; omega)
            have r1 := rd_not r1 d1A xs
            have r2 := rd_not r2 d2A xs
            clear xs
            have hT5 : ∀ k, looks [(0, fun z => True), (2, fun z => True)] k ((((((((((((wv36.setCell ⟨gA, 0, none⟩ (.int .i64 G.dot.dev)).setCell ⟨gA, 1, none⟩ (.int .i64 G.dot.ep)).setCell ⟨gA, 2, none⟩ (.int .i64 G.dot.seq)).setCell ⟨gA, 3, none⟩ (.int .i64 G.coll)).setCell ⟨gA, 4, none⟩ (.int .i64 G.ver)).setCell ⟨gA, 5, none⟩ (.int .i64 G.kind)).setCell ⟨gA, 6, none⟩ (.string (str G.key))).setCell ⟨gA, 7, none⟩ (.string (str G.text))).setCell ⟨gA, 8, none⟩ (.int .i64 G.n)).setCell ⟨gA, 9, none⟩ (.int .i64 G.time)).setCell ⟨gA, 10, none⟩ (.slice a1 G.dots.length c1))) := looks_all ⟨trivial, trivial, trivial⟩
            refine hK _ _ (looks [(0, fun z => True), (2, fun z => True)]) ⟨.inr (.inl (by kernel_rfl)), .inr (.inl (by kernel_rfl)), trivial⟩ hT5 ?_
            clear hK K
            try simp only [Act.put, List.setIfInBounds_toArray, List.set_cons_zero, List.set_cons_succ]
            generalize (((((((((((wv36.setCell ⟨gA, 0, none⟩ (.int .i64 G.dot.dev)).setCell ⟨gA, 1, none⟩ (.int .i64 G.dot.ep)).setCell ⟨gA, 2, none⟩ (.int .i64 G.dot.seq)).setCell ⟨gA, 3, none⟩ (.int .i64 G.coll)).setCell ⟨gA, 4, none⟩ (.int .i64 G.ver)).setCell ⟨gA, 5, none⟩ (.int .i64 G.kind)).setCell ⟨gA, 6, none⟩ (.string (str G.key))).setCell ⟨gA, 7, none⟩ (.string (str G.text))).setCell ⟨gA, 8, none⟩ (.int .i64 G.n)).setCell ⟨gA, 9, none⟩ (.int .i64 G.time)).setCell ⟨gA, 10, none⟩ (.slice a1 G.dots.length c1)) = wv37 at *
            refine wpF_exec 7 rfl (by kernel_rfl) (by rfl) ?_
            intro K hK
            have p0 := zB.cell 0 _ rfl
            have p1 := zB.cell 1 _ rfl
            have p2 := zB.cell 2 _ rfl
            have p3 := zB.cell 3 _ rfl
            have p4 := zB.cell 4 _ rfl
            have p5 := zB.cell 5 _ rfl
            have p6 := zB.cell 6 _ rfl
            have p7 := zB.cell 7 _ rfl
            have p8 := zB.cell 8 _ rfl
            have p9 := zB.cell 9 _ rfl
            have p10 := zB.cell 10 _ rfl
            have f0 := zB.fr 0
            have f1 := zB.fr 1
            have f2 := zB.fr 2
            have f3 := zB.fr 3
            have f4 := zB.fr 4
            have f5 := zB.fr 5
            have f6 := zB.fr 6
            have f7 := zB.fr 7
            have f8 := zB.fr 8
            have f9 := zB.fr 9
            have f10 := zB.fr 10
            go_simp
            clear p0 f0 p1 f1 p2 f2 p3 f3 p4 f4 p5 f5 p6 f6 p7 f7 p8 f8 p9 f9 p10 f10
            have xs : Ext (just gB) wv37 ((((((((((((wv37.setCell ⟨gB, 0, none⟩ (.int .i64 G.dot.dev)).setCell ⟨gB, 1, none⟩ (.int .i64 G.dot.ep)).setCell ⟨gB, 2, none⟩ (.int .i64 G.dot.seq)).setCell ⟨gB, 3, none⟩ (.int .i64 G.coll)).setCell ⟨gB, 4, none⟩ (.int .i64 G.ver)).setCell ⟨gB, 5, none⟩ (.int .i64 G.kind)).setCell ⟨gB, 6, none⟩ (.string (str G.key))).setCell ⟨gB, 7, none⟩ (.string (str G.text))).setCell ⟨gB, 8, none⟩ (.int .i64 G.n)).setCell ⟨gB, 9, none⟩ (.int .i64 G.time)).setCell ⟨gB, 10, none⟩ (.slice a2 G.dots.length c2))) := ((((((((((((Ext.refl (just gB) wv37).comp (Ext.setCell _ ⟨gB, 0, none⟩ (.int .i64 G.dot.dev) rfl)).comp (Ext.setCell _ ⟨gB, 1, none⟩ (.int .i64 G.dot.ep) rfl)).comp (Ext.setCell _ ⟨gB, 2, none⟩ (.int .i64 G.dot.seq) rfl)).comp (Ext.setCell _ ⟨gB, 3, none⟩ (.int .i64 G.coll) rfl)).comp (Ext.setCell _ ⟨gB, 4, none⟩ (.int .i64 G.ver) rfl)).comp (Ext.setCell _ ⟨gB, 5, none⟩ (.int .i64 G.kind) rfl)).comp (Ext.setCell _ ⟨gB, 6, none⟩ (.string (str G.key)) rfl)).comp (Ext.setCell _ ⟨gB, 7, none⟩ (.string (str G.text)) rfl)).comp (Ext.setCell _ ⟨gB, 8, none⟩ (.int .i64 G.n) rfl)).comp (Ext.setCell _ ⟨gB, 9, none⟩ (.int .i64 G.time) rfl)).comp (Ext.setCell _ ⟨gB, 10, none⟩ (.slice a2 G.dots.length c2) rfl))
            have zB : Blk ((((((((((((wv37.setCell ⟨gB, 0, none⟩ (.int .i64 G.dot.dev)).setCell ⟨gB, 1, none⟩ (.int .i64 G.dot.ep)).setCell ⟨gB, 2, none⟩ (.int .i64 G.dot.seq)).setCell ⟨gB, 3, none⟩ (.int .i64 G.coll)).setCell ⟨gB, 4, none⟩ (.int .i64 G.ver)).setCell ⟨gB, 5, none⟩ (.int .i64 G.kind)).setCell ⟨gB, 6, none⟩ (.string (str G.key))).setCell ⟨gB, 7, none⟩ (.string (str G.text))).setCell ⟨gB, 8, none⟩ (.int .i64 G.n)).setCell ⟨gB, 9, none⟩ (.int .i64 G.time)).setCell ⟨gB, 10, none⟩ (.slice a2 G.dots.length c2))) gB (G.cells a2 c2) := (((((((((((zB.set 0 (.int .i64 G.dot.dev) (by simp)).set 1 (.int .i64 G.dot.ep) (by simp)).set 2 (.int .i64 G.dot.seq) (by simp)).set 3 (.int .i64 G.coll) (by simp)).set 4 (.int .i64 G.ver) (by simp)).set 5 (.int .i64 G.kind) (by simp)).set 6 (.string (str G.key)) (by simp)).set 7 (.string (str G.text)) (by simp)).set 8 (.int .i64 G.n) (by simp)).set 9 (.int .i64 G.time) (by simp)).set 10 (.slice a2 G.dots.length c2) (by simp))
            have hxw := (((((((((((hxw.set1 hsB 0 (.int .i64 G.dot.dev)).set1 hsB 1 (.int .i64 G.dot.ep)).set1 hsB 2 (.int .i64 G.dot.seq)).set1 hsB 3 (.int .i64 G.coll)).set1 hsB 4 (.int .i64 G.ver)).set1 hsB 5 (.int .i64 G.kind)).set1 hsB 6 (.string (str G.key))).set1 hsB 7 (.string (str G.text))).set1 hsB 8 (.int .i64 G.n)).set1 hsB 9 (.int .i64 G.time)).set1 hsB 10 (.slice a2 G.dots.length c2))
            have zA := zA.ext (by simp [OpR.cells]) xs (by simp only [Esc.just]; omega)
            have r1 := rd_not r1 d1B xs
            have r2 := rd_not r2 d2B xs
            clear xs
            have hT6 : ∀ k, looks [(0, fun z => True), (2, fun z => True)] k ((((((((((((wv37.setCell ⟨gB, 0, none⟩ (.int .i64 G.dot.dev)).setCell ⟨gB, 1, none⟩ (.int .i64 G.dot.ep)).setCell ⟨gB, 2, none⟩ (.int .i64 G.dot.seq)).setCell ⟨gB, 3, none⟩ (.int .i64 G.coll)).setCell ⟨gB, 4, none⟩ (.int .i64 G.ver)).setCell ⟨gB, 5, none⟩ (.int .i64 G.kind)).setCell ⟨gB, 6, none⟩ (.string (str G.key))).setCell ⟨gB, 7, none⟩ (.string (str G.text))).setCell ⟨gB, 8, none⟩ (.int .i64 G.n)).setCell ⟨gB, 9, none⟩ (.int .i64 G.time)).setCell ⟨gB, 10, none⟩ (.slice a2 G.dots.length c2))) := looks_all ⟨trivial, trivial, trivial⟩
            refine hK _ _ (looks [(0, fun z => True), (2, fun z => True)]) ⟨.inr (.inl (by kernel_rfl)), .inr (.inl (by kernel_rfl)), trivial⟩ hT6 ?_
            clear hK K
            try simp only [Act.put, List.setIfInBounds_toArray, List.set_cons_zero, List.set_cons_succ]
            generalize (((((((((((wv37.setCell ⟨gB, 0, none⟩ (.int .i64 G.dot.dev)).setCell ⟨gB, 1, none⟩ (.int .i64 G.dot.ep)).setCell ⟨gB, 2, none⟩ (.int .i64 G.dot.seq)).setCell ⟨gB, 3, none⟩ (.int .i64 G.coll)).setCell ⟨gB, 4, none⟩ (.int .i64 G.ver)).setCell ⟨gB, 5, none⟩ (.int .i64 G.kind)).setCell ⟨gB, 6, none⟩ (.string (str G.key))).setCell ⟨gB, 7, none⟩ (.string (str G.text))).setCell ⟨gB, 8, none⟩ (.int .i64 G.n)).setCell ⟨gB, 9, none⟩ (.int .i64 G.time)).setCell ⟨gB, 10, none⟩ (.slice a2 G.dots.length c2)) = wv38 at *
            refine wpF_done (by kernel_rfl) ?_ _
            go_wp2_with fail
            go_meet
            exact ⟨gA, gB, a1, a2, c1, c2, rfl, rfl, by omega, hsA, hsB, zA, zB, r1, r2, d1B, d2B, hxw⟩
        · refine ⟨_, rfl, by rfl, ?_⟩
          intro K hK
          go_simp
          have zB : Blk ((wv29.alloc (.cells #[.int .i64 0, .int .i64 0, .int .i64 0, .int .i64 0, .int .i64 0, .int .i64 0, .string { data := #[] }, .string { data := #[] }, .int .i64 0, .int .i64 0, .slice none 0 0] 26))) (wv29.heap.size) [.int .i64 0, .int .i64 0, .int .i64 0, .int .i64 0, .int .i64 0, .int .i64 0, .string { data := #[] }, .string { data := #[] }, .int .i64 0, .int .i64 0, .slice none 0 0] := Blk.lit wv29 _ _
          have nAB : gA < wv29.heap.size := zA.lt (by simp)
          have zA := zA.ext (by simp) (Ext.alloc no wv29 (.cells #[.int .i64 0, .int .i64 0, .int .i64 0, .int .i64 0, .int .i64 0, .int .i64 0, .string { data := #[] }, .string { data := #[] }, .int .i64 0, .int .i64 0, .slice none 0 0] 26)) (fun h => h)
          have hsB : w.heap.size ≤ wv29.heap.size := hxw.size
          have hxw := hxw.comp (Ext.alloc no wv29 (.cells #[.int .i64 0, .int .i64 0, .int .i64 0, .int .i64 0, .int .i64 0, .int .i64 0, .string { data := #[] }, .string { data := #[] }, .int .i64 0, .int .i64 0, .slice none 0 0] 26))
          have hx3 := hx3.comp (Ext.alloc no wv29 (.cells #[.int .i64 0, .int .i64 0, .int .i64 0, .int .i64 0, .int .i64 0, .int .i64 0, .string { data := #[] }, .string { data := #[] }, .int .i64 0, .int .i64 0, .slice none 0 0] 26))
          have hT2 : ∀ k, looks [(0, fun z => Ext no w3 z), (2, fun z => Ext no w3 z)] k ((wv29.alloc (.cells #[.int .i64 0, .int .i64 0, .int .i64 0, .int .i64 0, .int .i64 0, .int .i64 0, .string { data := #[] }, .string { data := #[] }, .int .i64 0, .int .i64 0, .slice none 0 0] 26))) := looks_all ⟨hx3, hx3, trivial⟩
          refine hK _ _ (looks [(0, fun z => Ext no w3 z), (2, fun z => Ext no w3 z)]) ⟨.inr (.inr (fun x h => h)), .inr (.inr (fun x h => h)), trivial⟩ hT2 ?_
          clear hK K
          try simp only [Act.put, List.setIfInBounds_toArray, List.set_cons_zero, List.set_cons_succ]
          obtain ⟨gB, hgB⟩ : ∃ g, g = wv29.heap.size := ⟨_, rfl⟩
          rw [← hgB] at zB hsB nAB ⊢
          clear hgB
          generalize (wv29.alloc (.cells #[.int .i64 0, .int .i64 0, .int .i64 0, .int .i64 0, .int .i64 0, .int .i64 0, .string { data := #[] }, .string { data := #[] }, .int .i64 0, .int .i64 0, .slice none 0 0] 26)) = wv39 at *
          refine wpF_exec 1 rfl (by kernel_rfl) (by rfl) ?_
          intro K hK
          go_simp
          refine (good_any (wv39) o a c hok (hrw.ext hxw (fun _ _ h => h)) hl hc).mono ?_
          rintro e wv40 ⟨a1, c1, rfl, r1, l1, m1, xg, fz1⟩
          rw [← HG.out] at r1 l1 ⊢
          unfold OpR.v
          have d1A : ds G.dots ≠ [] → ∀ ad, a1 = some ad → ad.block ≠ gA := fun _ ad h => by have := fz1 ad h; have := zA.lt (by simp); omega
          have zA := zA.ext (by simp) xg (fun h => h)
          have d1B : ds G.dots ≠ [] → ∀ ad, a1 = some ad → ad.block ≠ gB := fun _ ad h => by have := fz1 ad h; have := zB.lt (by simp); omega
          have zB := zB.ext (by simp) xg (fun h => h)
          have hxw := hxw.comp xg
          have hx3 := hx3.comp xg
          have hT3 : ∀ k, looks [(0, fun z => Ext no w3 z), (2, fun z => Ext no w3 z)] k (wv40) := looks_all ⟨hx3, hx3, trivial⟩
          refine hK _ _ (looks [(0, fun z => Ext no w3 z), (2, fun z => Ext no w3 z)]) ⟨.inr (.inl (by kernel_rfl)), .inr (.inr (fun x h => h)), trivial⟩ hT3 ?_
          clear hK K
          try simp only [Act.put, List.setIfInBounds_toArray, List.set_cons_zero, List.set_cons_succ]
          refine wpF_exec 3 rfl (by kernel_rfl) (by rfl) ?_
          intro K hK
          go_simp
          refine (good_any (wv40) o a c hok (hrw.ext hxw (fun _ _ h => h)) hl hc).mono ?_
          rintro e wv41 ⟨a2, c2, rfl, r2, l2, m2, xg, fz2⟩
          rw [← HG.out] at r2 l2 ⊢
          unfold OpR.v
          have d2A : ds G.dots ≠ [] → ∀ ad, a2 = some ad → ad.block ≠ gA := fun _ ad h => by have := fz2 ad h; have := zA.lt (by simp); omega
          have zA := zA.ext (by simp) xg (fun h => h)
          have d2B : ds G.dots ≠ [] → ∀ ad, a2 = some ad → ad.block ≠ gB := fun _ ad h => by have := fz2 ad h; have := zB.lt (by simp); omega
          have zB := zB.ext (by simp) xg (fun h => h)
          have r1 := r1.ext xg (fun _ _ h => h)
          have hxw := hxw.comp xg
          have hx3 := hx3.comp xg
          have hT4 : ∀ k, looks [(0, fun z => Ext no w3 z), (2, fun z => Ext no w3 z)] k (wv41) := looks_all ⟨hx3, hx3, trivial⟩
          refine hK _ _ (looks [(0, fun z => Ext no w3 z), (2, fun z => Ext no w3 z)]) ⟨.inr (.inl (by kernel_rfl)), .inr (.inl (by kernel_rfl)), trivial⟩ hT4 ?_
          clear hK K
          try simp only [Act.put, List.setIfInBounds_toArray, List.set_cons_zero, List.set_cons_succ]
          refine wpF_exec 6 rfl (by kernel_rfl) (by rfl) ?_
          intro K hK
          have p0 := zA.cell 0 _ rfl
          have p1 := zA.cell 1 _ rfl
          have p2 := zA.cell 2 _ rfl
          have p3 := zA.cell 3 _ rfl
          have p4 := zA.cell 4 _ rfl
          have p5 := zA.cell 5 _ rfl
          have p6 := zA.cell 6 _ rfl
          have p7 := zA.cell 7 _ rfl
          have p8 := zA.cell 8 _ rfl
          have p9 := zA.cell 9 _ rfl
          have p10 := zA.cell 10 _ rfl
          have f0 := zA.fr 0
          have f1 := zA.fr 1
          have f2 := zA.fr 2
          have f3 := zA.fr 3
          have f4 := zA.fr 4
          have f5 := zA.fr 5
          have f6 := zA.fr 6
          have f7 := zA.fr 7
          have f8 := zA.fr 8
          have f9 := zA.fr 9
          have f10 := zA.fr 10
          go_simp
          clear p0 f0 p1 f1 p2 f2 p3 f3 p4 f4 p5 f5 p6 f6 p7 f7 p8 f8 p9 f9 p10 f10
          have xs : Ext (just gA) wv41 ((((((((((((wv41.setCell ⟨gA, 0, none⟩ (.int .i64 G.dot.dev)).setCell ⟨gA, 1, none⟩ (.int .i64 G.dot.ep)).setCell ⟨gA, 2, none⟩ (.int .i64 G.dot.seq)).setCell ⟨gA, 3, none⟩ (.int .i64 G.coll)).setCell ⟨gA, 4, none⟩ (.int .i64 G.ver)).setCell ⟨gA, 5, none⟩ (.int .i64 G.kind)).setCell ⟨gA, 6, none⟩ (.string (str G.key))).setCell ⟨gA, 7, none⟩ (.string (str G.text))).setCell ⟨gA, 8, none⟩ (.int .i64 G.n)).setCell ⟨gA, 9, none⟩ (.int .i64 G.time)).setCell ⟨gA, 10, none⟩ (.slice a1 G.dots.length c1))) := ((((((((((((Ext.refl (just gA) wv41).comp (Ext.setCell _ ⟨gA, 0, none⟩ (.int .i64 G.dot.dev) rfl)).comp (Ext.setCell _ ⟨gA, 1, none⟩ (.int .i64 G.dot.ep) rfl)).comp (Ext.setCell _ ⟨gA, 2, none⟩ (.int .i64 G.dot.seq) rfl)).comp (Ext.setCell _ ⟨gA, 3, none⟩ (.int .i64 G.coll) rfl)).comp (Ext.setCell _ ⟨gA, 4, none⟩ (.int .i64 G.ver) rfl)).comp (Ext.setCell _ ⟨gA, 5, none⟩ (.int .i64 G.kind) rfl)).comp (Ext.setCell _ ⟨gA, 6, none⟩ (.string (str G.key)) rfl)).comp (Ext.setCell _ ⟨gA, 7, none⟩ (.string (str G.text)) rfl)).comp (Ext.setCell _ ⟨gA, 8, none⟩ (.int .i64 G.n) rfl)).comp (Ext.setCell _ ⟨gA, 9, none⟩ (.int .i64 G.time) rfl)).comp (Ext.setCell _ ⟨gA, 10, none⟩ (.slice a1 G.dots.length c1) rfl))
          have zA : Blk ((((((((((((wv41.setCell ⟨gA, 0, none⟩ (.int .i64 G.dot.dev)).setCell ⟨gA, 1, none⟩ (.int .i64 G.dot.ep)).setCell ⟨gA, 2, none⟩ (.int .i64 G.dot.seq)).setCell ⟨gA, 3, none⟩ (.int .i64 G.coll)).setCell ⟨gA, 4, none⟩ (.int .i64 G.ver)).setCell ⟨gA, 5, none⟩ (.int .i64 G.kind)).setCell ⟨gA, 6, none⟩ (.string (str G.key))).setCell ⟨gA, 7, none⟩ (.string (str G.text))).setCell ⟨gA, 8, none⟩ (.int .i64 G.n)).setCell ⟨gA, 9, none⟩ (.int .i64 G.time)).setCell ⟨gA, 10, none⟩ (.slice a1 G.dots.length c1))) gA (G.cells a1 c1) := (((((((((((zA.set 0 (.int .i64 G.dot.dev) (by simp)).set 1 (.int .i64 G.dot.ep) (by simp)).set 2 (.int .i64 G.dot.seq) (by simp)).set 3 (.int .i64 G.coll) (by simp)).set 4 (.int .i64 G.ver) (by simp)).set 5 (.int .i64 G.kind) (by simp)).set 6 (.string (str G.key)) (by simp)).set 7 (.string (str G.text)) (by simp)).set 8 (.int .i64 G.n) (by simp)).set 9 (.int .i64 G.time) (by simp)).set 10 (.slice a1 G.dots.length c1) (by simp))
          have hxw := (((((((((((hxw.set1 hsA 0 (.int .i64 G.dot.dev)).set1 hsA 1 (.int .i64 G.dot.ep)).set1 hsA 2 (.int .i64 G.dot.seq)).set1 hsA 3 (.int .i64 G.coll)).set1 hsA 4 (.int .i64 G.ver)).set1 hsA 5 (.int .i64 G.kind)).set1 hsA 6 (.string (str G.key))).set1 hsA 7 (.string (str G.text))).set1 hsA 8 (.int .i64 G.n)).set1 hsA 9 (.int .i64 G.time)).set1 hsA 10 (.slice a1 G.dots.length c1))
          have zB := zB.ext (by simp [OpR.cells]) xs (by simp only [Esc.just]; omega)
          have r1 := rd_not r1 d1A xs
          have r2 := rd_not r2 d2A xs
          clear xs
          have hT5 : ∀ k, looks [(0, fun z => True), (2, fun z => True)] k ((((((((((((wv41.setCell ⟨gA, 0, none⟩ (.int .i64 G.dot.dev)).setCell ⟨gA, 1, none⟩ (.int .i64 G.dot.ep)).setCell ⟨gA, 2, none⟩ (.int .i64 G.dot.seq)).setCell ⟨gA, 3, none⟩ (.int .i64 G.coll)).setCell ⟨gA, 4, none⟩ (.int .i64 G.ver)).setCell ⟨gA, 5, none⟩ (.int .i64 G.kind)).setCell ⟨gA, 6, none⟩ (.string (str G.key))).setCell ⟨gA, 7, none⟩ (.string (str G.text))).setCell ⟨gA, 8, none⟩ (.int .i64 G.n)).setCell ⟨gA, 9, none⟩ (.int .i64 G.time)).setCell ⟨gA, 10, none⟩ (.slice a1 G.dots.length c1))) := looks_all ⟨trivial, trivial, trivial⟩
          refine hK _ _ (looks [(0, fun z => True), (2, fun z => True)]) ⟨.inr (.inl (by kernel_rfl)), .inr (.inl (by kernel_rfl)), trivial⟩ hT5 ?_
          clear hK K
          try simp only [Act.put, List.setIfInBounds_toArray, List.set_cons_zero, List.set_cons_succ]
          generalize (((((((((((wv41.setCell ⟨gA, 0, none⟩ (.int .i64 G.dot.dev)).setCell ⟨gA, 1, none⟩ (.int .i64 G.dot.ep)).setCell ⟨gA, 2, none⟩ (.int .i64 G.dot.seq)).setCell ⟨gA, 3, none⟩ (.int .i64 G.coll)).setCell ⟨gA, 4, none⟩ (.int .i64 G.ver)).setCell ⟨gA, 5, none⟩ (.int .i64 G.kind)).setCell ⟨gA, 6, none⟩ (.string (str G.key))).setCell ⟨gA, 7, none⟩ (.string (str G.text))).setCell ⟨gA, 8, none⟩ (.int .i64 G.n)).setCell ⟨gA, 9, none⟩ (.int .i64 G.time)).setCell ⟨gA, 10, none⟩ (.slice a1 G.dots.length c1)) = wv42 at *
          refine wpF_exec 7 rfl (by kernel_rfl) (by rfl) ?_
          intro K hK
          have p0 := zB.cell 0 _ rfl
          have p1 := zB.cell 1 _ rfl
          have p2 := zB.cell 2 _ rfl
          have p3 := zB.cell 3 _ rfl
          have p4 := zB.cell 4 _ rfl
          have p5 := zB.cell 5 _ rfl
          have p6 := zB.cell 6 _ rfl
          have p7 := zB.cell 7 _ rfl
          have p8 := zB.cell 8 _ rfl
          have p9 := zB.cell 9 _ rfl
          have p10 := zB.cell 10 _ rfl
          have f0 := zB.fr 0
          have f1 := zB.fr 1
          have f2 := zB.fr 2
          have f3 := zB.fr 3
          have f4 := zB.fr 4
          have f5 := zB.fr 5
          have f6 := zB.fr 6
          have f7 := zB.fr 7
          have f8 := zB.fr 8
          have f9 := zB.fr 9
          have f10 := zB.fr 10
          go_simp
          clear p0 f0 p1 f1 p2 f2 p3 f3 p4 f4 p5 f5 p6 f6 p7 f7 p8 f8 p9 f9 p10 f10
          have xs : Ext (just gB) wv42 ((((((((((((wv42.setCell ⟨gB, 0, none⟩ (.int .i64 G.dot.dev)).setCell ⟨gB, 1, none⟩ (.int .i64 G.dot.ep)).setCell ⟨gB, 2, none⟩ (.int .i64 G.dot.seq)).setCell ⟨gB, 3, none⟩ (.int .i64 G.coll)).setCell ⟨gB, 4, none⟩ (.int .i64 G.ver)).setCell ⟨gB, 5, none⟩ (.int .i64 G.kind)).setCell ⟨gB, 6, none⟩ (.string (str G.key))).setCell ⟨gB, 7, none⟩ (.string (str G.text))).setCell ⟨gB, 8, none⟩ (.int .i64 G.n)).setCell ⟨gB, 9, none⟩ (.int .i64 G.time)).setCell ⟨gB, 10, none⟩ (.slice a2 G.dots.length c2))) := ((((((((((((Ext.refl (just gB) wv42).comp (Ext.setCell _ ⟨gB, 0, none⟩ (.int .i64 G.dot.dev) rfl)).comp (Ext.setCell _ ⟨gB, 1, none⟩ (.int .i64 G.dot.ep) rfl)).comp (Ext.setCell _ ⟨gB, 2, none⟩ (.int .i64 G.dot.seq) rfl)).comp (Ext.setCell _ ⟨gB, 3, none⟩ (.int .i64 G.coll) rfl)).comp (Ext.setCell _ ⟨gB, 4, none⟩ (.int .i64 G.ver) rfl)).comp (Ext.setCell _ ⟨gB, 5, none⟩ (.int .i64 G.kind) rfl)).comp (Ext.setCell _ ⟨gB, 6, none⟩ (.string (str G.key)) rfl)).comp (Ext.setCell _ ⟨gB, 7, none⟩ (.string (str G.text)) rfl)).comp (Ext.setCell _ ⟨gB, 8, none⟩ (.int .i64 G.n) rfl)).comp (Ext.setCell _ ⟨gB, 9, none⟩ (.int .i64 G.time) rfl)).comp (Ext.setCell _ ⟨gB, 10, none⟩ (.slice a2 G.dots.length c2) rfl))
          have zB : Blk ((((((((((((wv42.setCell ⟨gB, 0, none⟩ (.int .i64 G.dot.dev)).setCell ⟨gB, 1, none⟩ (.int .i64 G.dot.ep)).setCell ⟨gB, 2, none⟩ (.int .i64 G.dot.seq)).setCell ⟨gB, 3, none⟩ (.int .i64 G.coll)).setCell ⟨gB, 4, none⟩ (.int .i64 G.ver)).setCell ⟨gB, 5, none⟩ (.int .i64 G.kind)).setCell ⟨gB, 6, none⟩ (.string (str G.key))).setCell ⟨gB, 7, none⟩ (.string (str G.text))).setCell ⟨gB, 8, none⟩ (.int .i64 G.n)).setCell ⟨gB, 9, none⟩ (.int .i64 G.time)).setCell ⟨gB, 10, none⟩ (.slice a2 G.dots.length c2))) gB (G.cells a2 c2) := (((((((((((zB.set 0 (.int .i64 G.dot.dev) (by simp)).set 1 (.int .i64 G.dot.ep) (by simp)).set 2 (.int .i64 G.dot.seq) (by simp)).set 3 (.int .i64 G.coll) (by simp)).set 4 (.int .i64 G.ver) (by simp)).set 5 (.int .i64 G.kind) (by simp)).set 6 (.string (str G.key)) (by simp)).set 7 (.string (str G.text)) (by simp)).set 8 (.int .i64 G.n) (by simp)).set 9 (.int .i64 G.time) (by simp)).set 10 (.slice a2 G.dots.length c2) (by simp))
          have hxw := (((((((((((hxw.set1 hsB 0 (.int .i64 G.dot.dev)).set1 hsB 1 (.int .i64 G.dot.ep)).set1 hsB 2 (.int .i64 G.dot.seq)).set1 hsB 3 (.int .i64 G.coll)).set1 hsB 4 (.int .i64 G.ver)).set1 hsB 5 (.int .i64 G.kind)).set1 hsB 6 (.string (str G.key))).set1 hsB 7 (.string (str G.text))).set1 hsB 8 (.int .i64 G.n)).set1 hsB 9 (.int .i64 G.time)).set1 hsB 10 (.slice a2 G.dots.length c2))
          have zA := zA.ext (by simp [OpR.cells]) xs (by simp only [Esc.just]; omega)
          have r1 := rd_not r1 d1B xs
          have r2 := rd_not r2 d2B xs
          clear xs
          have hT6 : ∀ k, looks [(0, fun z => True), (2, fun z => True)] k ((((((((((((wv42.setCell ⟨gB, 0, none⟩ (.int .i64 G.dot.dev)).setCell ⟨gB, 1, none⟩ (.int .i64 G.dot.ep)).setCell ⟨gB, 2, none⟩ (.int .i64 G.dot.seq)).setCell ⟨gB, 3, none⟩ (.int .i64 G.coll)).setCell ⟨gB, 4, none⟩ (.int .i64 G.ver)).setCell ⟨gB, 5, none⟩ (.int .i64 G.kind)).setCell ⟨gB, 6, none⟩ (.string (str G.key))).setCell ⟨gB, 7, none⟩ (.string (str G.text))).setCell ⟨gB, 8, none⟩ (.int .i64 G.n)).setCell ⟨gB, 9, none⟩ (.int .i64 G.time)).setCell ⟨gB, 10, none⟩ (.slice a2 G.dots.length c2))) := looks_all ⟨trivial, trivial, trivial⟩
          refine hK _ _ (looks [(0, fun z => True), (2, fun z => True)]) ⟨.inr (.inl (by kernel_rfl)), .inr (.inl (by kernel_rfl)), trivial⟩ hT6 ?_
          clear hK K
          try simp only [Act.put, List.setIfInBounds_toArray, List.set_cons_zero, List.set_cons_succ]
          generalize (((((((((((wv42.setCell ⟨gB, 0, none⟩ (.int .i64 G.dot.dev)).setCell ⟨gB, 1, none⟩ (.int .i64 G.dot.ep)).setCell ⟨gB, 2, none⟩ (.int .i64 G.dot.seq)).setCell ⟨gB, 3, none⟩ (.int .i64 G.coll)).setCell ⟨gB, 4, none⟩ (.int .i64 G.ver)).setCell ⟨gB, 5, none⟩ (.int .i64 G.kind)).setCell ⟨gB, 6, none⟩ (.string (str G.key))).setCell ⟨gB, 7, none⟩ (.string (str G.text))).setCell ⟨gB, 8, none⟩ (.int .i64 G.n)).setCell ⟨gB, 9, none⟩ (.int .i64 G.time)).setCell ⟨gB, 10, none⟩ (.slice a2 G.dots.length c2)) = wv43 at *
          refine wpF_done (by kernel_rfl) ?_ _
          go_wp2_with fail
          go_meet
          exact ⟨gA, gB, a1, a2, c1, c2, rfl, rfl, by omega, hsA, hsB, zA, zB, r1, r2, d1B, d2B, hxw⟩
      · refine ⟨_, rfl, by rfl, ?_⟩
        intro K hK
        go_simp
        have zB : Blk ((w3.alloc (.cells #[.int .i64 0, .int .i64 0, .int .i64 0, .int .i64 0, .int .i64 0, .int .i64 0, .string { data := #[] }, .string { data := #[] }, .int .i64 0, .int .i64 0, .slice none 0 0] 26)).drew) (w3.heap.size) [.int .i64 0, .int .i64 0, .int .i64 0, .int .i64 0, .int .i64 0, .int .i64 0, .string { data := #[] }, .string { data := #[] }, .int .i64 0, .int .i64 0, .slice none 0 0] := (Blk.lit w3 _ _).drew
        have hsB : w.heap.size ≤ w3.heap.size := hx.size
        have hxw := hx.comp ((Ext.alloc no w3 (.cells #[.int .i64 0, .int .i64 0, .int .i64 0, .int .i64 0, .int .i64 0, .int .i64 0, .string { data := #[] }, .string { data := #[] }, .int .i64 0, .int .i64 0, .slice none 0 0] 26)).comp (Ext.drew no _))
        have hx3 := (Ext.refl no w3).comp ((Ext.alloc no w3 (.cells #[.int .i64 0, .int .i64 0, .int .i64 0, .int .i64 0, .int .i64 0, .int .i64 0, .string { data := #[] }, .string { data := #[] }, .int .i64 0, .int .i64 0, .slice none 0 0] 26)).comp (Ext.drew no _))
        have hT1 : ∀ k, looks [(0, fun z => Ext no w3 z), (2, fun z => Ext no w3 z)] k ((w3.alloc (.cells #[.int .i64 0, .int .i64 0, .int .i64 0, .int .i64 0, .int .i64 0, .int .i64 0, .string { data := #[] }, .string { data := #[] }, .int .i64 0, .int .i64 0, .slice none 0 0] 26)).drew) := looks_all ⟨hx3, hx3, trivial⟩
        refine hK _ _ (looks [(0, fun z => Ext no w3 z), (2, fun z => Ext no w3 z)]) ⟨.inr (.inr (fun x h => h)), .inr (.inr (fun x h => h)), trivial⟩ hT1 ?_
        clear hK K
        try simp only [Act.put, List.setIfInBounds_toArray, List.set_cons_zero, List.set_cons_succ]
        obtain ⟨gB, hgB⟩ : ∃ g, g = w3.heap.size := ⟨_, rfl⟩
        rw [← hgB] at zB hsB  ⊢
        clear hgB
        generalize (w3.alloc (.cells #[.int .i64 0, .int .i64 0, .int .i64 0, .int .i64 0, .int .i64 0, .int .i64 0, .string { data := #[] }, .string { data := #[] }, .int .i64 0, .int .i64 0, .slice none 0 0] 26)).drew = wv44 at *
        refine wpF_execs [1, 4] (by kernel_rfl) (by simp) ?_
        intro j hj
        simp only [List.mem_cons, List.not_mem_nil, or_false] at hj
        rcases hj with rfl | rfl
        · refine ⟨_, rfl, by rfl, ?_⟩
          intro K hK
          go_simp
          refine (good_any (wv44) o a c hok (hrw.ext hxw (fun _ _ h => h)) hl hc).mono ?_
          rintro e wv45 ⟨a1, c1, rfl, r1, l1, m1, xg, fz1⟩
          rw [← HG.out] at r1 l1 ⊢
          unfold OpR.v
          have d1B : ds G.dots ≠ [] → ∀ ad, a1 = some ad → ad.block ≠ gB := fun _ ad h => by have := fz1 ad h; have := zB.lt (by simp); omega
          have zB := zB.ext (by simp) xg (fun h => h)
          have hxw := hxw.comp xg
          have hx3 := hx3.comp xg
          have hT2 : ∀ k, looks [(0, fun z => Ext no w3 z), (2, fun z => Ext no w3 z)] k (wv45) := looks_all ⟨hx3, hx3, trivial⟩
          refine hK _ _ (looks [(0, fun z => Ext no w3 z), (2, fun z => Ext no w3 z)]) ⟨.inr (.inl (by kernel_rfl)), .inr (.inr (fun x h => h)), trivial⟩ hT2 ?_
          clear hK K
          try simp only [Act.put, List.setIfInBounds_toArray, List.set_cons_zero, List.set_cons_succ]
          refine wpF_execs [3, 4] (by kernel_rfl) (by simp) ?_
          intro j hj
          simp only [List.mem_cons, List.not_mem_nil, or_false] at hj
          rcases hj with rfl | rfl
          · refine ⟨_, rfl, by rfl, ?_⟩
            intro K hK
            go_simp
            refine (good_any (wv45) o a c hok (hrw.ext hxw (fun _ _ h => h)) hl hc).mono ?_
            rintro e wv46 ⟨a2, c2, rfl, r2, l2, m2, xg, fz2⟩
            rw [← HG.out] at r2 l2 ⊢
            unfold OpR.v
            have d2B : ds G.dots ≠ [] → ∀ ad, a2 = some ad → ad.block ≠ gB := fun _ ad h => by have := fz2 ad h; have := zB.lt (by simp); omega
            have zB := zB.ext (by simp) xg (fun h => h)
            have r1 := r1.ext xg (fun _ _ h => h)
            have hxw := hxw.comp xg
            have hx3 := hx3.comp xg
            have hT3 : ∀ k, looks [(0, fun z => Ext no w3 z), (2, fun z => Ext no w3 z)] k (wv46) := looks_all ⟨hx3, hx3, trivial⟩
            refine hK _ _ (looks [(0, fun z => Ext no w3 z), (2, fun z => Ext no w3 z)]) ⟨.inr (.inl (by kernel_rfl)), .inr (.inl (by kernel_rfl)), trivial⟩ hT3 ?_
            clear hK K
            try simp only [Act.put, List.setIfInBounds_toArray, List.set_cons_zero, List.set_cons_succ]
            refine wpF_exec 4 rfl (by kernel_rfl) (by rfl) ?_
            intro K hK
            go_simp
            have zA : Blk ((wv46.alloc (.cells #[.int .i64 0, .int .i64 0, .int .i64 0, .int .i64 0, .int .i64 0, .int .i64 0, .string { data := #[] }, .string { data := #[] }, .int .i64 0, .int .i64 0, .slice none 0 0] 26))) (wv46.heap.size) [.int .i64 0, .int .i64 0, .int .i64 0, .int .i64 0, .int .i64 0, .int .i64 0, .string { data := #[] }, .string { data := #[] }, .int .i64 0, .int .i64 0, .slice none 0 0] := Blk.lit wv46 _ _
            have nBA : gB < wv46.heap.size := zB.lt (by simp)
            have zB := zB.ext (by simp) (Ext.alloc no wv46 (.cells #[.int .i64 0, .int .i64 0, .int .i64 0, .int .i64 0, .int .i64 0, .int .i64 0, .string { data := #[] }, .string { data := #[] }, .int .i64 0, .int .i64 0, .slice none 0 0] 26)) (fun h => h)
            have d1A := rd_gt (rd_low2 r1) (Nat.le_refl (wv46.heap.size))
            have r1 := r1.ext (Ext.alloc no wv46 (.cells #[.int .i64 0, .int .i64 0, .int .i64 0, .int .i64 0, .int .i64 0, .int .i64 0, .string { data := #[] }, .string { data := #[] }, .int .i64 0, .int .i64 0, .slice none 0 0] 26)) (fun _ _ h => h)
            have d2A := rd_gt (rd_low2 r2) (Nat.le_refl (wv46.heap.size))
            have r2 := r2.ext (Ext.alloc no wv46 (.cells #[.int .i64 0, .int .i64 0, .int .i64 0, .int .i64 0, .int .i64 0, .int .i64 0, .string { data := #[] }, .string { data := #[] }, .int .i64 0, .int .i64 0, .slice none 0 0] 26)) (fun _ _ h => h)
            have hsA : w.heap.size ≤ wv46.heap.size := hxw.size
            have hxw := hxw.comp (Ext.alloc no wv46 (.cells #[.int .i64 0, .int .i64 0, .int .i64 0, .int .i64 0, .int .i64 0, .int .i64 0, .string { data := #[] }, .string { data := #[] }, .int .i64 0, .int .i64 0, .slice none 0 0] 26))
            have hx3 := hx3.comp (Ext.alloc no wv46 (.cells #[.int .i64 0, .int .i64 0, .int .i64 0, .int .i64 0, .int .i64 0, .int .i64 0, .string { data := #[] }, .string { data := #[] }, .int .i64 0, .int .i64 0, .slice none 0 0] 26))
            have hT4 : ∀ k, looks [(0, fun z => Ext no w3 z), (2, fun z => Ext no w3 z)] k ((wv46.alloc (.cells #[.int .i64 0, .int .i64 0, .int .i64 0, .int .i64 0, .int .i64 0, .int .i64 0, .string { data := #[] }, .string { data := #[] }, .int .i64 0, .int .i64 0, .slice none 0 0] 26))) := looks_all ⟨hx3, hx3, trivial⟩
            refine hK _ _ (looks [(0, fun z => Ext no w3 z), (2, fun z => Ext no w3 z)]) ⟨.inr (.inr (fun x h => h)), .inr (.inr (fun x h => h)), trivial⟩ hT4 ?_
            clear hK K
            try simp only [Act.put, List.setIfInBounds_toArray, List.set_cons_zero, List.set_cons_succ]
            obtain ⟨gA, hgA⟩ : ∃ g, g = wv46.heap.size := ⟨_, rfl⟩
            rw [← hgA] at zA hsA nBA d1A d2A ⊢
            clear hgA
            generalize (wv46.alloc (.cells #[.int .i64 0, .int .i64 0, .int .i64 0, .int .i64 0, .int .i64 0, .int .i64 0, .string { data := #[] }, .string { data := #[] }, .int .i64 0, .int .i64 0, .slice none 0 0] 26)) = wv47 at *
            refine wpF_exec 6 rfl (by kernel_rfl) (by rfl) ?_
            intro K hK
            have p0 := zA.cell 0 _ rfl
            have p1 := zA.cell 1 _ rfl
            have p2 := zA.cell 2 _ rfl
            have p3 := zA.cell 3 _ rfl
            have p4 := zA.cell 4 _ rfl
            have p5 := zA.cell 5 _ rfl
            have p6 := zA.cell 6 _ rfl
            have p7 := zA.cell 7 _ rfl
            have p8 := zA.cell 8 _ rfl
            have p9 := zA.cell 9 _ rfl
            have p10 := zA.cell 10 _ rfl
            have f0 := zA.fr 0
            have f1 := zA.fr 1
            have f2 := zA.fr 2
            have f3 := zA.fr 3
            have f4 := zA.fr 4
            have f5 := zA.fr 5
            have f6 := zA.fr 6
            have f7 := zA.fr 7
            have f8 := zA.fr 8
            have f9 := zA.fr 9
            have f10 := zA.fr 10
            go_simp
            clear p0 f0 p1 f1 p2 f2 p3 f3 p4 f4 p5 f5 p6 f6 p7 f7 p8 f8 p9 f9 p10 f10
            have xs : Ext (just gA) wv47 ((((((((((((wv47.setCell ⟨gA, 0, none⟩ (.int .i64 G.dot.dev)).setCell ⟨gA, 1, none⟩ (.int .i64 G.dot.ep)).setCell ⟨gA, 2, none⟩ (.int .i64 G.dot.seq)).setCell ⟨gA, 3, none⟩ (.int .i64 G.coll)).setCell ⟨gA, 4, none⟩ (.int .i64 G.ver)).setCell ⟨gA, 5, none⟩ (.int .i64 G.kind)).setCell ⟨gA, 6, none⟩ (.string (str G.key))).setCell ⟨gA, 7, none⟩ (.string (str G.text))).setCell ⟨gA, 8, none⟩ (.int .i64 G.n)).setCell ⟨gA, 9, none⟩ (.int .i64 G.time)).setCell ⟨gA, 10, none⟩ (.slice a1 G.dots.length c1))) := ((((((((((((Ext.refl (just gA) wv47).comp (Ext.setCell _ ⟨gA, 0, none⟩ (.int .i64 G.dot.dev) rfl)).comp (Ext.setCell _ ⟨gA, 1, none⟩ (.int .i64 G.dot.ep) rfl)).comp (Ext.setCell _ ⟨gA, 2, none⟩ (.int .i64 G.dot.seq) rfl)).comp (Ext.setCell _ ⟨gA, 3, none⟩ (.int .i64 G.coll) rfl)).comp (Ext.setCell _ ⟨gA, 4, none⟩ (.int .i64 G.ver) rfl)).comp (Ext.setCell _ ⟨gA, 5, none⟩ (.int .i64 G.kind) rfl)).comp (Ext.setCell _ ⟨gA, 6, none⟩ (.string (str G.key)) rfl)).comp (Ext.setCell _ ⟨gA, 7, none⟩ (.string (str G.text)) rfl)).comp (Ext.setCell _ ⟨gA, 8, none⟩ (.int .i64 G.n) rfl)).comp (Ext.setCell _ ⟨gA, 9, none⟩ (.int .i64 G.time) rfl)).comp (Ext.setCell _ ⟨gA, 10, none⟩ (.slice a1 G.dots.length c1) rfl))
            have zA : Blk ((((((((((((wv47.setCell ⟨gA, 0, none⟩ (.int .i64 G.dot.dev)).setCell ⟨gA, 1, none⟩ (.int .i64 G.dot.ep)).setCell ⟨gA, 2, none⟩ (.int .i64 G.dot.seq)).setCell ⟨gA, 3, none⟩ (.int .i64 G.coll)).setCell ⟨gA, 4, none⟩ (.int .i64 G.ver)).setCell ⟨gA, 5, none⟩ (.int .i64 G.kind)).setCell ⟨gA, 6, none⟩ (.string (str G.key))).setCell ⟨gA, 7, none⟩ (.string (str G.text))).setCell ⟨gA, 8, none⟩ (.int .i64 G.n)).setCell ⟨gA, 9, none⟩ (.int .i64 G.time)).setCell ⟨gA, 10, none⟩ (.slice a1 G.dots.length c1))) gA (G.cells a1 c1) := (((((((((((zA.set 0 (.int .i64 G.dot.dev) (by simp)).set 1 (.int .i64 G.dot.ep) (by simp)).set 2 (.int .i64 G.dot.seq) (by simp)).set 3 (.int .i64 G.coll) (by simp)).set 4 (.int .i64 G.ver) (by simp)).set 5 (.int .i64 G.kind) (by simp)).set 6 (.string (str G.key)) (by simp)).set 7 (.string (str G.text)) (by simp)).set 8 (.int .i64 G.n) (by simp)).set 9 (.int .i64 G.time) (by simp)).set 10 (.slice a1 G.dots.length c1) (by simp))
            have hxw := (((((((((((hxw.set1 hsA 0 (.int .i64 G.dot.dev)).set1 hsA 1 (.int .i64 G.dot.ep)).set1 hsA 2 (.int .i64 G.dot.seq)).set1 hsA 3 (.int .i64 G.coll)).set1 hsA 4 (.int .i64 G.ver)).set1 hsA 5 (.int .i64 G.kind)).set1 hsA 6 (.string (str G.key))).set1 hsA 7 (.string (str G.text))).set1 hsA 8 (.int .i64 G.n)).set1 hsA 9 (.int .i64 G.time)).set1 hsA 10 (.slice a1 G.dots.length c1))
            have zB := zB.ext (by simp [OpR.cells]) xs (by simp only [Esc.just]; omega)
            have r1 := rd_not r1 d1A xs
            have r2 := rd_not r2 d2A xs
            clear xs
            have hT5 : ∀ k, looks [(0, fun z => True), (2, fun z => True)] k ((((((((((((wv47.setCell ⟨gA, 0, none⟩ (.int .i64 G.dot.dev)).setCell ⟨gA, 1, none⟩ (.int .i64 G.dot.ep)).setCell ⟨gA, 2, none⟩ (.int .i64 G.dot.seq)).setCell ⟨gA, 3, none⟩ (.int .i64 G.coll)).setCell ⟨gA, 4, none⟩ (.int .i64 G.ver)).setCell ⟨gA, 5, none⟩ (.int .i64 G.kind)).setCell ⟨gA, 6, none⟩ (.string (str G.key))).setCell ⟨gA, 7, none⟩ (.string (str G.text))).setCell ⟨gA, 8, none⟩ (.int .i64 G.n)).setCell ⟨gA, 9, none⟩ (.int .i64 G.time)).setCell ⟨gA, 10, none⟩ (.slice a1 G.dots.length c1))) := looks_all ⟨trivial, trivial, trivial⟩
            refine hK _ _ (looks [(0, fun z => True), (2, fun z => True)]) ⟨.inr (.inl (by kernel_rfl)), .inr (.inl (by kernel_rfl)), trivial⟩ hT5 ?_
            clear hK K
            try simp only [Act.put, List.setIfInBounds_toArray, List.set_cons_zero, List.set_cons_succ]
            generalize (((((((((((wv47.setCell ⟨gA, 0, none⟩ (.int .i64 G.dot.dev)).setCell ⟨gA, 1, none⟩ (.int .i64 G.dot.ep)).setCell ⟨gA, 2, none⟩ (.int .i64 G.dot.seq)).setCell ⟨gA, 3, none⟩ (.int .i64 G.coll)).setCell ⟨gA, 4, none⟩ (.int .i64 G.ver)).setCell ⟨gA, 5, none⟩ (.int .i64 G.kind)).setCell ⟨gA, 6, none⟩ (.string (str G.key))).setCell ⟨gA, 7, none⟩ (.string (str G.text))).setCell ⟨gA, 8, none⟩ (.int .i64 G.n)).setCell ⟨gA, 9, none⟩ (.int .i64 G.time)).setCell ⟨gA, 10, none⟩ (.slice a1 G.dots.length c1)) = wv48 at *
            refine wpF_exec 7 rfl (by kernel_rfl) (by rfl) ?_
            intro K hK
            have p0 := zB.cell 0 _ rfl
            have p1 := zB.cell 1 _ rfl
            have p2 := zB.cell 2 _ rfl
            have p3 := zB.cell 3 _ rfl
            have p4 := zB.cell 4 _ rfl
            have p5 := zB.cell 5 _ rfl
            have p6 := zB.cell 6 _ rfl
            have p7 := zB.cell 7 _ rfl
            have p8 := zB.cell 8 _ rfl
            have p9 := zB.cell 9 _ rfl
            have p10 := zB.cell 10 _ rfl
            have f0 := zB.fr 0
            have f1 := zB.fr 1
            have f2 := zB.fr 2
            have f3 := zB.fr 3
            have f4 := zB.fr 4
            have f5 := zB.fr 5
            have f6 := zB.fr 6
            have f7 := zB.fr 7
            have f8 := zB.fr 8
            have f9 := zB.fr 9
            have f10 := zB.fr 10
            go_simp
            clear p0 f0 p1 f1 p2 f2 p3 f3 p4 f4 p5 f5 p6 f6 p7 f7 p8 f8 p9 f9 p10 f10
            have xs : Ext (just gB) wv48 ((((((((((((wv48.setCell ⟨gB, 0, none⟩ (.int .i64 G.dot.dev)).setCell ⟨gB, 1, none⟩ (.int .i64 G.dot.ep)).setCell ⟨gB, 2, none⟩ (.int .i64 G.dot.seq)).setCell ⟨gB, 3, none⟩ (.int .i64 G.coll)).setCell ⟨gB, 4, none⟩ (.int .i64 G.ver)).setCell ⟨gB, 5, none⟩ (.int .i64 G.kind)).setCell ⟨gB, 6, none⟩ (.string (str G.key))).setCell ⟨gB, 7, none⟩ (.string (str G.text))).setCell ⟨gB, 8, none⟩ (.int .i64 G.n)).setCell ⟨gB, 9, none⟩ (.int .i64 G.time)).setCell ⟨gB, 10, none⟩ (.slice a2 G.dots.length c2))) := ((((((((((((Ext.refl (just gB) wv48).comp (Ext.setCell _ ⟨gB, 0, none⟩ (.int .i64 G.dot.dev) rfl)).comp (Ext.setCell _ ⟨gB, 1, none⟩ (.int .i64 G.dot.ep) rfl)).comp (Ext.setCell _ ⟨gB, 2, none⟩ (.int .i64 G.dot.seq) rfl)).comp (Ext.setCell _ ⟨gB, 3, none⟩ (.int .i64 G.coll) rfl)).comp (Ext.setCell _ ⟨gB, 4, none⟩ (.int .i64 G.ver) rfl)).comp (Ext.setCell _ ⟨gB, 5, none⟩ (.int .i64 G.kind) rfl)).comp (Ext.setCell _ ⟨gB, 6, none⟩ (.string (str G.key)) rfl)).comp (Ext.setCell _ ⟨gB, 7, none⟩ (.string (str G.text)) rfl)).comp (Ext.setCell _ ⟨gB, 8, none⟩ (.int .i64 G.n) rfl)).comp (Ext.setCell _ ⟨gB, 9, none⟩ (.int .i64 G.time) rfl)).comp (Ext.setCell _ ⟨gB, 10, none⟩ (.slice a2 G.dots.length c2) rfl))
            have zB : Blk ((((((((((((wv48.setCell ⟨gB, 0, none⟩ (.int .i64 G.dot.dev)).setCell ⟨gB, 1, none⟩ (.int .i64 G.dot.ep)).setCell ⟨gB, 2, none⟩ (.int .i64 G.dot.seq)).setCell ⟨gB, 3, none⟩ (.int .i64 G.coll)).setCell ⟨gB, 4, none⟩ (.int .i64 G.ver)).setCell ⟨gB, 5, none⟩ (.int .i64 G.kind)).setCell ⟨gB, 6, none⟩ (.string (str G.key))).setCell ⟨gB, 7, none⟩ (.string (str G.text))).setCell ⟨gB, 8, none⟩ (.int .i64 G.n)).setCell ⟨gB, 9, none⟩ (.int .i64 G.time)).setCell ⟨gB, 10, none⟩ (.slice a2 G.dots.length c2))) gB (G.cells a2 c2) := (((((((((((zB.set 0 (.int .i64 G.dot.dev) (by simp)).set 1 (.int .i64 G.dot.ep) (by simp)).set 2 (.int .i64 G.dot.seq) (by simp)).set 3 (.int .i64 G.coll) (by simp)).set 4 (.int .i64 G.ver) (by simp)).set 5 (.int .i64 G.kind) (by simp)).set 6 (.string (str G.key)) (by simp)).set 7 (.string (str G.text)) (by simp)).set 8 (.int .i64 G.n) (by simp)).set 9 (.int .i64 G.time) (by simp)).set 10 (.slice a2 G.dots.length c2) (by simp))
            have hxw := (((((((((((hxw.set1 hsB 0 (.int .i64 G.dot.dev)).set1 hsB 1 (.int .i64 G.dot.ep)).set1 hsB 2 (.int .i64 G.dot.seq)).set1 hsB 3 (.int .i64 G.coll)).set1 hsB 4 (.int .i64 G.ver)).set1 hsB 5 (.int .i64 G.kind)).set1 hsB 6 (.string (str G.key))).set1 hsB 7 (.string (str G.text))).set1 hsB 8 (.int .i64 G.n)).set1 hsB 9 (.int .i64 G.time)).set1 hsB 10 (.slice a2 G.dots.length c2))
            have zA := zA.ext (by simp [OpR.cells]) xs (by simp only [Esc.just]; omega)
            have r1 := rd_not r1 d1B xs
            have r2 := rd_not r2 d2B xs
            clear xs
            have hT6 : ∀ k, looks [(0, fun z => True), (2, fun z => True)] k ((((((((((((wv48.setCell ⟨gB, 0, none⟩ (.int .i64 G.dot.dev)).setCell ⟨gB, 1, none⟩ (.int .i64 G.dot.ep)).setCell ⟨gB, 2, none⟩ (.int .i64 G.dot.seq)).setCell ⟨gB, 3, none⟩ (.int .i64 G.coll)).setCell ⟨gB, 4, none⟩ (.int .i64 G.ver)).setCell ⟨gB, 5, none⟩ (.int .i64 G.kind)).setCell ⟨gB, 6, none⟩ (.string (str G.key))).setCell ⟨gB, 7, none⟩ (.string (str G.text))).setCell ⟨gB, 8, none⟩ (.int .i64 G.n)).setCell ⟨gB, 9, none⟩ (.int .i64 G.time)).setCell ⟨gB, 10, none⟩ (.slice a2 G.dots.length c2))) := looks_all ⟨trivial, trivial, trivial⟩
            refine hK _ _ (looks [(0, fun z => True), (2, fun z => True)]) ⟨.inr (.inl (by kernel_rfl)), .inr (.inl (by kernel_rfl)), trivial⟩ hT6 ?_
            clear hK K
            try simp only [Act.put, List.setIfInBounds_toArray, List.set_cons_zero, List.set_cons_succ]
            generalize (((((((((((wv48.setCell ⟨gB, 0, none⟩ (.int .i64 G.dot.dev)).setCell ⟨gB, 1, none⟩ (.int .i64 G.dot.ep)).setCell ⟨gB, 2, none⟩ (.int .i64 G.dot.seq)).setCell ⟨gB, 3, none⟩ (.int .i64 G.coll)).setCell ⟨gB, 4, none⟩ (.int .i64 G.ver)).setCell ⟨gB, 5, none⟩ (.int .i64 G.kind)).setCell ⟨gB, 6, none⟩ (.string (str G.key))).setCell ⟨gB, 7, none⟩ (.string (str G.text))).setCell ⟨gB, 8, none⟩ (.int .i64 G.n)).setCell ⟨gB, 9, none⟩ (.int .i64 G.time)).setCell ⟨gB, 10, none⟩ (.slice a2 G.dots.length c2)) = wv49 at *
            refine wpF_done (by kernel_rfl) ?_ _
            go_wp2_with fail
            go_meet
            exact ⟨gA, gB, a1, a2, c1, c2, rfl, rfl, by omega, hsA, hsB, zA, zB, r1, r2, d1B, d2B, hxw⟩
          · refine ⟨_, rfl, by rfl, ?_⟩
            intro K hK
            go_simp
            have zA : Blk ((wv45.alloc (.cells #[.int .i64 0, .int .i64 0, .int .i64 0, .int .i64 0, .int .i64 0, .int .i64 0, .string { data := #[] }, .string { data := #[] }, .int .i64 0, .int .i64 0, .slice none 0 0] 26))) (wv45.heap.size) [.int .i64 0, .int .i64 0, .int .i64 0, .int .i64 0, .int .i64 0, .int .i64 0, .string { data := #[] }, .string { data := #[] }, .int .i64 0, .int .i64 0, .slice none 0 0] := Blk.lit wv45 _ _
            have nBA : gB < wv45.heap.size := zB.lt (by simp)
            have zB := zB.ext (by simp) (Ext.alloc no wv45 (.cells #[.int .i64 0, .int .i64 0, .int .i64 0, .int .i64 0, .int .i64 0, .int .i64 0, .string { data := #[] }, .string { data := #[] }, .int .i64 0, .int .i64 0, .slice none 0 0] 26)) (fun h => h)
            have d1A := rd_gt (rd_low2 r1) (Nat.le_refl (wv45.heap.size))
            have r1 := r1.ext (Ext.alloc no wv45 (.cells #[.int .i64 0, .int .i64 0, .int .i64 0, .int .i64 0, .int .i64 0, .int .i64 0, .string { data := #[] }, .string { data := #[] }, .int .i64 0, .int .i64 0, .slice none 0 0] 26)) (fun _ _ h => h)
            have hsA : w.heap.size ≤ wv45.heap.size := hxw.size
            have hxw := hxw.comp (Ext.alloc no wv45 (.cells #[.int .i64 0, .int .i64 0, .int .i64 0, .int .i64 0, .int .i64 0, .int .i64 0, .string { data := #[] }, .string { data := #[] }, .int .i64 0, .int .i64 0, .slice none 0 0] 26))
            have hx3 := hx3.comp (Ext.alloc no wv45 (.cells #[.int .i64 0, .int .i64 0, .int .i64 0, .int .i64 0, .int .i64 0, .int .i64 0, .string { data := #[] }, .string { data := #[] }, .int .i64 0, .int .i64 0, .slice none 0 0] 26))
            have hT3 : ∀ k, looks [(0, fun z => Ext no w3 z), (2, fun z => Ext no w3 z)] k ((wv45.alloc (.cells #[.int .i64 0, .int .i64 0, .int .i64 0, .int .i64 0, .int .i64 0, .int .i64 0, .string { data := #[] }, .string { data := #[] }, .int .i64 0, .int .i64 0, .slice none 0 0] 26))) := looks_all ⟨hx3, hx3, trivial⟩
            refine hK _ _ (looks [(0, fun z => Ext no w3 z), (2, fun z => Ext no w3 z)]) ⟨.inr (.inr (fun x h => h)), .inr (.inr (fun x h => h)), trivial⟩ hT3 ?_
            clear hK K
            try simp only [Act.put, List.setIfInBounds_toArray, List.set_cons_zero, List.set_cons_succ]
            obtain ⟨gA, hgA⟩ : ∃ g, g = wv45.heap.size := ⟨_, rfl⟩
            rw [← hgA] at zA hsA nBA d1A ⊢
            clear hgA
            generalize (wv45.alloc (.cells #[.int .i64 0, .int .i64 0, .int .i64 0, .int .i64 0, .int .i64 0, .int .i64 0, .string { data := #[] }, .string { data := #[] }, .int .i64 0, .int .i64 0, .slice none 0 0] 26)) = wv50 at *
            refine wpF_exec 3 rfl (by kernel_rfl) (by rfl) ?_
            intro K hK
            go_simp
            refine (good_any (wv50) o a c hok (hrw.ext hxw (fun _ _ h => h)) hl hc).mono ?_
            rintro e wv51 ⟨a2, c2, rfl, r2, l2, m2, xg, fz2⟩
            rw [← HG.out] at r2 l2 ⊢
            unfold OpR.v
            have d2B : ds G.dots ≠ [] → ∀ ad, a2 = some ad → ad.block ≠ gB := fun _ ad h => by have := fz2 ad h; have := zB.lt (by simp); omega
            have zB := zB.ext (by simp) xg (fun h => h)
            have d2A : ds G.dots ≠ [] → ∀ ad, a2 = some ad → ad.block ≠ gA := fun _ ad h => by have := fz2 ad h; have := zA.lt (by simp); omega
            have zA := zA.ext (by simp) xg (fun h => h)
            have r1 := r1.ext xg (fun _ _ h => h)
            have hxw := hxw.comp xg
            have hx3 := hx3.comp xg
            have hT4 : ∀ k, looks [(0, fun z => Ext no w3 z), (2, fun z => Ext no w3 z)] k (wv51) := looks_all ⟨hx3, hx3, trivial⟩
            refine hK _ _ (looks [(0, fun z => Ext no w3 z), (2, fun z => Ext no w3 z)]) ⟨.inr (.inl (by kernel_rfl)), .inr (.inl (by kernel_rfl)), trivial⟩ hT4 ?_
            clear hK K
            try simp only [Act.put, List.setIfInBounds_toArray, List.set_cons_zero, List.set_cons_succ]
            refine wpF_exec 6 rfl (by kernel_rfl) (by rfl) ?_
            intro K hK
            have p0 := zA.cell 0 _ rfl
            have p1 := zA.cell 1 _ rfl
            have p2 := zA.cell 2 _ rfl
            have p3 := zA.cell 3 _ rfl
            have p4 := zA.cell 4 _ rfl
            have p5 := zA.cell 5 _ rfl
            have p6 := zA.cell 6 _ rfl
            have p7 := zA.cell 7 _ rfl
            have p8 := zA.cell 8 _ rfl
            have p9 := zA.cell 9 _ rfl
            have p10 := zA.cell 10 _ rfl
            have f0 := zA.fr 0
            have f1 := zA.fr 1
            have f2 := zA.fr 2
            have f3 := zA.fr 3
            have f4 := zA.fr 4
            have f5 := zA.fr 5
            have f6 := zA.fr 6
            have f7 := zA.fr 7
            have f8 := zA.fr 8
            have f9 := zA.fr 9
            have f10 := zA.fr 10
            go_simp
            clear p0 f0 p1 f1 p2 f2 p3 f3 p4 f4 p5 f5 p6 f6 p7 f7 p8 f8 p9 f9 p10 f10
            have xs : Ext (just gA) wv51 ((((((((((((wv51.setCell ⟨gA, 0, none⟩ (.int .i64 G.dot.dev)).setCell ⟨gA, 1, none⟩ (.int .i64 G.dot.ep)).setCell ⟨gA, 2, none⟩ (.int .i64 G.dot.seq)).setCell ⟨gA, 3, none⟩ (.int .i64 G.coll)).setCell ⟨gA, 4, none⟩ (.int .i64 G.ver)).setCell ⟨gA, 5, none⟩ (.int .i64 G.kind)).setCell ⟨gA, 6, none⟩ (.string (str G.key))).setCell ⟨gA, 7, none⟩ (.string (str G.text))).setCell ⟨gA, 8, none⟩ (.int .i64 G.n)).setCell ⟨gA, 9, none⟩ (.int .i64 G.time)).setCell ⟨gA, 10, none⟩ (.slice a1 G.dots.length c1))) := ((((((((((((Ext.refl (just gA) wv51).comp (Ext.setCell _ ⟨gA, 0, none⟩ (.int .i64 G.dot.dev) rfl)).comp (Ext.setCell _ ⟨gA, 1, none⟩ (.int .i64 G.dot.ep) rfl)).comp (Ext.setCell _ ⟨gA, 2, none⟩ (.int .i64 G.dot.seq) rfl)).comp (Ext.setCell _ ⟨gA, 3, none⟩ (.int .i64 G.coll) rfl)).comp (Ext.setCell _ ⟨gA, 4, none⟩ (.int .i64 G.ver) rfl)).comp (Ext.setCell _ ⟨gA, 5, none⟩ (.int .i64 G.kind) rfl)).comp (Ext.setCell _ ⟨gA, 6, none⟩ (.string (str G.key)) rfl)).comp (Ext.setCell _ ⟨gA, 7, none⟩ (.string (str G.text)) rfl)).comp (Ext.setCell _ ⟨gA, 8, none⟩ (.int .i64 G.n) rfl)).comp (Ext.setCell _ ⟨gA, 9, none⟩ (.int .i64 G.time) rfl)).comp (Ext.setCell _ ⟨gA, 10, none⟩ (.slice a1 G.dots.length c1) rfl))
            have zA : Blk ((((((((((((wv51.setCell ⟨gA, 0, none⟩ (.int .i64 G.dot.dev)).setCell ⟨gA, 1, none⟩ (.int .i64 G.dot.ep)).setCell ⟨gA, 2, none⟩ (.int .i64 G.dot.seq)).setCell ⟨gA, 3, none⟩ (.int .i64 G.coll)).setCell ⟨gA, 4, none⟩ (.int .i64 G.ver)).setCell ⟨gA, 5, none⟩ (.int .i64 G.kind)).setCell ⟨gA, 6, none⟩ (.string (str G.key))).setCell ⟨gA, 7, none⟩ (.string (str G.text))).setCell ⟨gA, 8, none⟩ (.int .i64 G.n)).setCell ⟨gA, 9, none⟩ (.int .i64 G.time)).setCell ⟨gA, 10, none⟩ (.slice a1 G.dots.length c1))) gA (G.cells a1 c1) := (((((((((((zA.set 0 (.int .i64 G.dot.dev) (by simp)).set 1 (.int .i64 G.dot.ep) (by simp)).set 2 (.int .i64 G.dot.seq) (by simp)).set 3 (.int .i64 G.coll) (by simp)).set 4 (.int .i64 G.ver) (by simp)).set 5 (.int .i64 G.kind) (by simp)).set 6 (.string (str G.key)) (by simp)).set 7 (.string (str G.text)) (by simp)).set 8 (.int .i64 G.n) (by simp)).set 9 (.int .i64 G.time) (by simp)).set 10 (.slice a1 G.dots.length c1) (by simp))
            have hxw := (((((((((((hxw.set1 hsA 0 (.int .i64 G.dot.dev)).set1 hsA 1 (.int .i64 G.dot.ep)).set1 hsA 2 (.int .i64 G.dot.seq)).set1 hsA 3 (.int .i64 G.coll)).set1 hsA 4 (.int .i64 G.ver)).set1 hsA 5 (.int .i64 G.kind)).set1 hsA 6 (.string (str G.key))).set1 hsA 7 (.string (str G.text))).set1 hsA 8 (.int .i64 G.n)).set1 hsA 9 (.int .i64 G.time)).set1 hsA 10 (.slice a1 G.dots.length c1))
            have zB := zB.ext (by simp [OpR.cells]) xs (by simp only [Esc.just]; omega)
            have r1 := rd_not r1 d1A xs
            have r2 := rd_not r2 d2A xs
            clear xs
            have hT5 : ∀ k, looks [(0, fun z => True), (2, fun z => True)] k ((((((((((((wv51.setCell ⟨gA, 0, none⟩ (.int .i64 G.dot.dev)).setCell ⟨gA, 1, none⟩ (.int .i64 G.dot.ep)).setCell ⟨gA, 2, none⟩ (.int .i64 G.dot.seq)).setCell ⟨gA, 3, none⟩ (.int .i64 G.coll)).setCell ⟨gA, 4, none⟩ (.int .i64 G.ver)).setCell ⟨gA, 5, none⟩ (.int .i64 G.kind)).setCell ⟨gA, 6, none⟩ (.string (str G.key))).setCell ⟨gA, 7, none⟩ (.string (str G.text))).setCell ⟨gA, 8, none⟩ (.int .i64 G.n)).setCell ⟨gA, 9, none⟩ (.int .i64 G.time)).setCell ⟨gA, 10, none⟩ (.slice a1 G.dots.length c1))) := looks_all ⟨trivial, trivial, trivial⟩
            refine hK _ _ (looks [(0, fun z => True), (2, fun z => True)]) ⟨.inr (.inl (by kernel_rfl)), .inr (.inl (by kernel_rfl)), trivial⟩ hT5 ?_
            clear hK K
            try simp only [Act.put, List.setIfInBounds_toArray, List.set_cons_zero, List.set_cons_succ]
            generalize (((((((((((wv51.setCell ⟨gA, 0, none⟩ (.int .i64 G.dot.dev)).setCell ⟨gA, 1, none⟩ (.int .i64 G.dot.ep)).setCell ⟨gA, 2, none⟩ (.int .i64 G.dot.seq)).setCell ⟨gA, 3, none⟩ (.int .i64 G.coll)).setCell ⟨gA, 4, none⟩ (.int .i64 G.ver)).setCell ⟨gA, 5, none⟩ (.int .i64 G.kind)).setCell ⟨gA, 6, none⟩ (.string (str G.key))).setCell ⟨gA, 7, none⟩ (.string (str G.text))).setCell ⟨gA, 8, none⟩ (.int .i64 G.n)).setCell ⟨gA, 9, none⟩ (.int .i64 G.time)).setCell ⟨gA, 10, none⟩ (.slice a1 G.dots.length c1)) = wv52 at *
            refine wpF_exec 7 rfl (by kernel_rfl) (by rfl) ?_
            intro K hK
            have p0 := zB.cell 0 _ rfl
            have p1 := zB.cell 1 _ rfl
            have p2 := zB.cell 2 _ rfl
            have p3 := zB.cell 3 _ rfl
            have p4 := zB.cell 4 _ rfl
            have p5 := zB.cell 5 _ rfl
            have p6 := zB.cell 6 _ rfl
            have p7 := zB.cell 7 _ rfl
            have p8 := zB.cell 8 _ rfl
            have p9 := zB.cell 9 _ rfl
            have p10 := zB.cell 10 _ rfl
            have f0 := zB.fr 0
            have f1 := zB.fr 1
            have f2 := zB.fr 2
            have f3 := zB.fr 3
            have f4 := zB.fr 4
            have f5 := zB.fr 5
            have f6 := zB.fr 6
            have f7 := zB.fr 7
            have f8 := zB.fr 8
            have f9 := zB.fr 9
            have f10 := zB.fr 10
            go_simp
            clear p0 f0 p1 f1 p2 f2 p3 f3 p4 f4 p5 f5 p6 f6 p7 f7 p8 f8 p9 f9 p10 f10
            have xs : Ext (just gB) wv52 ((((((((((((wv52.setCell ⟨gB, 0, none⟩ (.int .i64 G.dot.dev)).setCell ⟨gB, 1, none⟩ (.int .i64 G.dot.ep)).setCell ⟨gB, 2, none⟩ (.int .i64 G.dot.seq)).setCell ⟨gB, 3, none⟩ (.int .i64 G.coll)).setCell ⟨gB, 4, none⟩ (.int .i64 G.ver)).setCell ⟨gB, 5, none⟩ (.int .i64 G.kind)).setCell ⟨gB, 6, none⟩ (.string (str G.key))).setCell ⟨gB, 7, none⟩ (.string (str G.text))).setCell ⟨gB, 8, none⟩ (.int .i64 G.n)).setCell ⟨gB, 9, none⟩ (.int .i64 G.time)).setCell ⟨gB, 10, none⟩ (.slice a2 G.dots.length c2))) := ((((((((((((Ext.refl (just gB) wv52).comp (Ext.setCell _ ⟨gB, 0, none⟩ (.int .i64 G.dot.dev) rfl)).comp (Ext.setCell _ ⟨gB, 1, none⟩ (.int .i64 G.dot.ep) rfl)).comp (Ext.setCell _ ⟨gB, 2, none⟩ (.int .i64 G.dot.seq) rfl)).comp (Ext.setCell _ ⟨gB, 3, none⟩ (.int .i64 G.coll) rfl)).comp (Ext.setCell _ ⟨gB, 4, none⟩ (.int .i64 G.ver) rfl)).comp (Ext.setCell _ ⟨gB, 5, none⟩ (.int .i64 G.kind) rfl)).comp (Ext.setCell _ ⟨gB, 6, none⟩ (.string (str G.key)) rfl)).comp (Ext.setCell _ ⟨gB, 7, none⟩ (.string (str G.text)) rfl)).comp (Ext.setCell _ ⟨gB, 8, none⟩ (.int .i64 G.n) rfl)).comp (Ext.setCell _ ⟨gB, 9, none⟩ (.int .i64 G.time) rfl)).comp (Ext.setCell _ ⟨gB, 10, none⟩ (.slice a2 G.dots.length c2) rfl))
            have zB : Blk ((((((((((((wv52.setCell ⟨gB, 0, none⟩ (.int .i64 G.dot.dev)).setCell ⟨gB, 1, none⟩ (.int .i64 G.dot.ep)).setCell ⟨gB, 2, none⟩ (.int .i64 G.dot.seq)).setCell ⟨gB, 3, none⟩ (.int .i64 G.coll)).setCell ⟨gB, 4, none⟩ (.int .i64 G.ver)).setCell ⟨gB, 5, none⟩ (.int .i64 G.kind)).setCell ⟨gB, 6, none⟩ (.string (str G.key))).setCell ⟨gB, 7, none⟩ (.string (str G.text))).setCell ⟨gB, 8, none⟩ (.int .i64 G.n)).setCell ⟨gB, 9, none⟩ (.int .i64 G.time)).setCell ⟨gB, 10, none⟩ (.slice a2 G.dots.length c2))) gB (G.cells a2 c2) := (((((((((((zB.set 0 (.int .i64 G.dot.dev) (by simp)).set 1 (.int .i64 G.dot.ep) (by simp)).set 2 (.int .i64 G.dot.seq) (by simp)).set 3 (.int .i64 G.coll) (by simp)).set 4 (.int .i64 G.ver) (by simp)).set 5 (.int .i64 G.kind) (by simp)).set 6 (.string (str G.key)) (by simp)).set 7 (.string (str G.text)) (by simp)).set 8 (.int .i64 G.n) (by simp)).set 9 (.int .i64 G.time) (by simp)).set 10 (.slice a2 G.dots.length c2) (by simp))
            have hxw := (((((((((((hxw.set1 hsB 0 (.int .i64 G.dot.dev)).set1 hsB 1 (.int .i64 G.dot.ep)).set1 hsB 2 (.int .i64 G.dot.seq)).set1 hsB 3 (.int .i64 G.coll)).set1 hsB 4 (.int .i64 G.ver)).set1 hsB 5 (.int .i64 G.kind)).set1 hsB 6 (.string (str G.key))).set1 hsB 7 (.string (str G.text))).set1 hsB 8 (.int .i64 G.n)).set1 hsB 9 (.int .i64 G.time)).set1 hsB 10 (.slice a2 G.dots.length c2))
            have zA := zA.ext (by simp [OpR.cells]) xs (by simp only [Esc.just]; omega)
            have r1 := rd_not r1 d1B xs
            have r2 := rd_not r2 d2B xs
            clear xs
            have hT6 : ∀ k, looks [(0, fun z => True), (2, fun z => True)] k ((((((((((((wv52.setCell ⟨gB, 0, none⟩ (.int .i64 G.dot.dev)).setCell ⟨gB, 1, none⟩ (.int .i64 G.dot.ep)).setCell ⟨gB, 2, none⟩ (.int .i64 G.dot.seq)).setCell ⟨gB, 3, none⟩ (.int .i64 G.coll)).setCell ⟨gB, 4, none⟩ (.int .i64 G.ver)).setCell ⟨gB, 5, none⟩ (.int .i64 G.kind)).setCell ⟨gB, 6, none⟩ (.string (str G.key))).setCell ⟨gB, 7, none⟩ (.string (str G.text))).setCell ⟨gB, 8, none⟩ (.int .i64 G.n)).setCell ⟨gB, 9, none⟩ (.int .i64 G.time)).setCell ⟨gB, 10, none⟩ (.slice a2 G.dots.length c2))) := looks_all ⟨trivial, trivial, trivial⟩
            refine hK _ _ (looks [(0, fun z => True), (2, fun z => True)]) ⟨.inr (.inl (by kernel_rfl)), .inr (.inl (by kernel_rfl)), trivial⟩ hT6 ?_
            clear hK K
            try simp only [Act.put, List.setIfInBounds_toArray, List.set_cons_zero, List.set_cons_succ]
            generalize (((((((((((wv52.setCell ⟨gB, 0, none⟩ (.int .i64 G.dot.dev)).setCell ⟨gB, 1, none⟩ (.int .i64 G.dot.ep)).setCell ⟨gB, 2, none⟩ (.int .i64 G.dot.seq)).setCell ⟨gB, 3, none⟩ (.int .i64 G.coll)).setCell ⟨gB, 4, none⟩ (.int .i64 G.ver)).setCell ⟨gB, 5, none⟩ (.int .i64 G.kind)).setCell ⟨gB, 6, none⟩ (.string (str G.key))).setCell ⟨gB, 7, none⟩ (.string (str G.text))).setCell ⟨gB, 8, none⟩ (.int .i64 G.n)).setCell ⟨gB, 9, none⟩ (.int .i64 G.time)).setCell ⟨gB, 10, none⟩ (.slice a2 G.dots.length c2)) = wv53 at *
            refine wpF_done (by kernel_rfl) ?_ _
            go_wp2_with fail
            go_meet
            exact ⟨gA, gB, a1, a2, c1, c2, rfl, rfl, by omega, hsA, hsB, zA, zB, r1, r2, d1B, d2B, hxw⟩
        · refine ⟨_, rfl, by rfl, ?_⟩
          intro K hK
          go_simp
          have zA : Blk ((wv44.alloc (.cells #[.int .i64 0, .int .i64 0, .int .i64 0, .int .i64 0, .int .i64 0, .int .i64 0, .string { data := #[] }, .string { data := #[] }, .int .i64 0, .int .i64 0, .slice none 0 0] 26))) (wv44.heap.size) [.int .i64 0, .int .i64 0, .int .i64 0, .int .i64 0, .int .i64 0, .int .i64 0, .string { data := #[] }, .string { data := #[] }, .int .i64 0, .int .i64 0, .slice none 0 0] := Blk.lit wv44 _ _
          have nBA : gB < wv44.heap.size := zB.lt (by simp)
          have zB := zB.ext (by simp) (Ext.alloc no wv44 (.cells #[.int .i64 0, .int .i64 0, .int .i64 0, .int .i64 0, .int .i64 0, .int .i64 0, .string { data := #[] }, .string { data := #[] }, .int .i64 0, .int .i64 0, .slice none 0 0] 26)) (fun h => h)
          have hsA : w.heap.size ≤ wv44.heap.size := hxw.size
          have hxw := hxw.comp (Ext.alloc no wv44 (.cells #[.int .i64 0, .int .i64 0, .int .i64 0, .int .i64 0, .int .i64 0, .int .i64 0, .string { data := #[] }, .string { data := #[] }, .int .i64 0, .int .i64 0, .slice none 0 0] 26))
          have hx3 := hx3.comp (Ext.alloc no wv44 (.cells #[.int .i64 0, .int .i64 0, .int .i64 0, .int .i64 0, .int .i64 0, .int .i64 0, .string { data := #[] }, .string { data := #[] }, .int .i64 0, .int .i64 0, .slice none 0 0] 26))
          have hT2 : ∀ k, looks [(0, fun z => Ext no w3 z), (2, fun z => Ext no w3 z)] k ((wv44.alloc (.cells #[.int .i64 0, .int .i64 0, .int .i64 0, .int .i64 0, .int .i64 0, .int .i64 0, .string { data := #[] }, .string { data := #[] }, .int .i64 0, .int .i64 0, .slice none 0 0] 26))) := looks_all ⟨hx3, hx3, trivial⟩
          refine hK _ _ (looks [(0, fun z => Ext no w3 z), (2, fun z => Ext no w3 z)]) ⟨.inr (.inr (fun x h => h)), .inr (.inr (fun x h => h)), trivial⟩ hT2 ?_
          clear hK K
          try simp only [Act.put, List.setIfInBounds_toArray, List.set_cons_zero, List.set_cons_succ]
          obtain ⟨gA, hgA⟩ : ∃ g, g = wv44.heap.size := ⟨_, rfl⟩
          rw [← hgA] at zA hsA nBA ⊢
          clear hgA
          generalize (wv44.alloc (.cells #[.int .i64 0, .int .i64 0, .int .i64 0, .int .i64 0, .int .i64 0, .int .i64 0, .string { data := #[] }, .string { data := #[] }, .int .i64 0, .int .i64 0, .slice none 0 0] 26)) = wv54 at *
          refine wpF_exec 1 rfl (by kernel_rfl) (by rfl) ?_
          intro K hK
          go_simp
          refine (good_any (wv54) o a c hok (hrw.ext hxw (fun _ _ h => h)) hl hc).mono ?_
          rintro e wv55 ⟨a1, c1, rfl, r1, l1, m1, xg, fz1⟩
          rw [← HG.out] at r1 l1 ⊢
          unfold OpR.v
          have d1B : ds G.dots ≠ [] → ∀ ad, a1 = some ad → ad.block ≠ gB := fun _ ad h => by have := fz1 ad h; have := zB.lt (by simp); omega
          have zB := zB.ext (by simp) xg (fun h => h)
          have d1A : ds G.dots ≠ [] → ∀ ad, a1 = some ad → ad.block ≠ gA := fun _ ad h => by have := fz1 ad h; have := zA.lt (by simp); omega
          have zA := zA.ext (by simp) xg (fun h => h)
          have hxw := hxw.comp xg
          have hx3 := hx3.comp xg
          have hT3 : ∀ k, looks [(0, fun z => Ext no w3 z), (2, fun z => Ext no w3 z)] k (wv55) := looks_all ⟨hx3, hx3, trivial⟩
          refine hK _ _ (looks [(0, fun z => Ext no w3 z), (2, fun z => Ext no w3 z)]) ⟨.inr (.inl (by kernel_rfl)), .inr (.inr (fun x h => h)), trivial⟩ hT3 ?_
          clear hK K
          try simp only [Act.put, List.setIfInBounds_toArray, List.set_cons_zero, List.set_cons_succ]
          refine wpF_exec 3 rfl (by kernel_rfl) (by rfl) ?_
          intro K hK
          go_simp
          refine (good_any (wv55) o a c hok (hrw.ext hxw (fun _ _ h => h)) hl hc).mono ?_
          rintro e wv56 ⟨a2, c2, rfl, r2, l2, m2, xg, fz2⟩
          rw [← HG.out] at r2 l2 ⊢
          unfold OpR.v
          have d2B : ds G.dots ≠ [] → ∀ ad, a2 = some ad → ad.block ≠ gB := fun _ ad h => by have := fz2 ad h; have := zB.lt (by simp); omega
          have zB := zB.ext (by simp) xg (fun h => h)
          have d2A : ds G.dots ≠ [] → ∀ ad, a2 = some ad → ad.block ≠ gA := fun _ ad h => by have := fz2 ad h; have := zA.lt (by simp); omega
          have zA := zA.ext (by simp) xg (fun h => h)
          have r1 := r1.ext xg (fun _ _ h => h)
          have hxw := hxw.comp xg
          have hx3 := hx3.comp xg
          have hT4 : ∀ k, looks [(0, fun z => Ext no w3 z), (2, fun z => Ext no w3 z)] k (wv56) := looks_all ⟨hx3, hx3, trivial⟩
          refine hK _ _ (looks [(0, fun z => Ext no w3 z), (2, fun z => Ext no w3 z)]) ⟨.inr (.inl (by kernel_rfl)), .inr (.inl (by kernel_rfl)), trivial⟩ hT4 ?_
          clear hK K
          try simp only [Act.put, List.setIfInBounds_toArray, List.set_cons_zero, List.set_cons_succ]
          refine wpF_exec 6 rfl (by kernel_rfl) (by rfl) ?_
          intro K hK
          have p0 := zA.cell 0 _ rfl
          have p1 := zA.cell 1 _ rfl
          have p2 := zA.cell 2 _ rfl
          have p3 := zA.cell 3 _ rfl
          have p4 := zA.cell 4 _ rfl
          have p5 := zA.cell 5 _ rfl
          have p6 := zA.cell 6 _ rfl
          have p7 := zA.cell 7 _ rfl
          have p8 := zA.cell 8 _ rfl
          have p9 := zA.cell 9 _ rfl
          have p10 := zA.cell 10 _ rfl
          have f0 := zA.fr 0
          have f1 := zA.fr 1
          have f2 := zA.fr 2
          have f3 := zA.fr 3
          have f4 := zA.fr 4
          have f5 := zA.fr 5
          have f6 := zA.fr 6
          have f7 := zA.fr 7
          have f8 := zA.fr 8
          have f9 := zA.fr 9
          have f10 := zA.fr 10
          go_simp
          clear p0 f0 p1 f1 p2 f2 p3 f3 p4 f4 p5 f5 p6 f6 p7 f7 p8 f8 p9 f9 p10 f10
          have xs : Ext (just gA) wv56 ((((((((((((wv56.setCell ⟨gA, 0, none⟩ (.int .i64 G.dot.dev)).setCell ⟨gA, 1, none⟩ (.int .i64 G.dot.ep)).setCell ⟨gA, 2, none⟩ (.int .i64 G.dot.seq)).setCell ⟨gA, 3, none⟩ (.int .i64 G.coll)).setCell ⟨gA, 4, none⟩ (.int .i64 G.ver)).setCell ⟨gA, 5, none⟩ (.int .i64 G.kind)).setCell ⟨gA, 6, none⟩ (.string (str G.key))).setCell ⟨gA, 7, none⟩ (.string (str G.text))).setCell ⟨gA, 8, none⟩ (.int .i64 G.n)).setCell ⟨gA, 9, none⟩ (.int .i64 G.time)).setCell ⟨gA, 10, none⟩ (.slice a1 G.dots.length c1))) := ((((((((((((Ext.refl (just gA) wv56).comp (Ext.setCell _ ⟨gA, 0, none⟩ (.int .i64 G.dot.dev) rfl)).comp (Ext.setCell _ ⟨gA, 1, none⟩ (.int .i64 G.dot.ep) rfl)).comp (Ext.setCell _ ⟨gA, 2, none⟩ (.int .i64 G.dot.seq) rfl)).comp (Ext.setCell _ ⟨gA, 3, none⟩ (.int .i64 G.coll) rfl)).comp (Ext.setCell _ ⟨gA, 4, none⟩ (.int .i64 G.ver) rfl)).comp (Ext.setCell _ ⟨gA, 5, none⟩ (.int .i64 G.kind) rfl)).comp (Ext.setCell _ ⟨gA, 6, none⟩ (.string (str G.key)) rfl)).comp (Ext.setCell _ ⟨gA, 7, none⟩ (.string (str G.text)) rfl)).comp (Ext.setCell _ ⟨gA, 8, none⟩ (.int .i64 G.n) rfl)).comp (Ext.setCell _ ⟨gA, 9, none⟩ (.int .i64 G.time) rfl)).comp (Ext.setCell _ ⟨gA, 10, none⟩ (.slice a1 G.dots.length c1) rfl))
          have zA : Blk ((((((((((((wv56.setCell ⟨gA, 0, none⟩ (.int .i64 G.dot.dev)).setCell ⟨gA, 1, none⟩ (.int .i64 G.dot.ep)).setCell ⟨gA, 2, none⟩ (.int .i64 G.dot.seq)).setCell ⟨gA, 3, none⟩ (.int .i64 G.coll)).setCell ⟨gA, 4, none⟩ (.int .i64 G.ver)).setCell ⟨gA, 5, none⟩ (.int .i64 G.kind)).setCell ⟨gA, 6, none⟩ (.string (str G.key))).setCell ⟨gA, 7, none⟩ (.string (str G.text))).setCell ⟨gA, 8, none⟩ (.int .i64 G.n)).setCell ⟨gA, 9, none⟩ (.int .i64 G.time)).setCell ⟨gA, 10, none⟩ (.slice a1 G.dots.length c1))) gA (G.cells a1 c1) := (((((((((((zA.set 0 (.int .i64 G.dot.dev) (by simp)).set 1 (.int .i64 G.dot.ep) (by simp)).set 2 (.int .i64 G.dot.seq) (by simp)).set 3 (.int .i64 G.coll) (by simp)).set 4 (.int .i64 G.ver) (by simp)).set 5 (.int .i64 G.kind) (by simp)).set 6 (.string (str G.key)) (by simp)).set 7 (.string (str G.text)) (by simp)).set 8 (.int .i64 G.n) (by simp)).set 9 (.int .i64 G.time) (by simp)).set 10 (.slice a1 G.dots.length c1) (by simp))
          have hxw := (((((((((((hxw.set1 hsA 0 (.int .i64 G.dot.dev)).set1 hsA 1 (.int .i64 G.dot.ep)).set1 hsA 2 (.int .i64 G.dot.seq)).set1 hsA 3 (.int .i64 G.coll)).set1 hsA 4 (.int .i64 G.ver)).set1 hsA 5 (.int .i64 G.kind)).set1 hsA 6 (.string (str G.key))).set1 hsA 7 (.string (str G.text))).set1 hsA 8 (.int .i64 G.n)).set1 hsA 9 (.int .i64 G.time)).set1 hsA 10 (.slice a1 G.dots.length c1))
          have zB := zB.ext (by simp [OpR.cells]) xs (by simp only [Esc.just]; omega)
          have r1 := rd_not r1 d1A xs
          have r2 := rd_not r2 d2A xs
          clear xs
          have hT5 : ∀ k, looks [(0, fun z => True), (2, fun z => True)] k ((((((((((((wv56.setCell ⟨gA, 0, none⟩ (.int .i64 G.dot.dev)).setCell ⟨gA, 1, none⟩ (.int .i64 G.dot.ep)).setCell ⟨gA, 2, none⟩ (.int .i64 G.dot.seq)).setCell ⟨gA, 3, none⟩ (.int .i64 G.coll)).setCell ⟨gA, 4, none⟩ (.int .i64 G.ver)).setCell ⟨gA, 5, none⟩ (.int .i64 G.kind)).setCell ⟨gA, 6, none⟩ (.string (str G.key))).setCell ⟨gA, 7, none⟩ (.string (str G.text))).setCell ⟨gA, 8, none⟩ (.int .i64 G.n)).setCell ⟨gA, 9, none⟩ (.int .i64 G.time)).setCell ⟨gA, 10, none⟩ (.slice a1 G.dots.length c1))) := looks_all ⟨trivial, trivial, trivial⟩
          refine hK _ _ (looks [(0, fun z => True), (2, fun z => True)]) ⟨.inr (.inl (by kernel_rfl)), .inr (.inl (by kernel_rfl)), trivial⟩ hT5 ?_
          clear hK K
          try simp only [Act.put, List.setIfInBounds_toArray, List.set_cons_zero, List.set_cons_succ]
          generalize (((((((((((wv56.setCell ⟨gA, 0, none⟩ (.int .i64 G.dot.dev)).setCell ⟨gA, 1, none⟩ (.int .i64 G.dot.ep)).setCell ⟨gA, 2, none⟩ (.int .i64 G.dot.seq)).setCell ⟨gA, 3, none⟩ (.int .i64 G.coll)).setCell ⟨gA, 4, none⟩ (.int .i64 G.ver)).setCell ⟨gA, 5, none⟩ (.int .i64 G.kind)).setCell ⟨gA, 6, none⟩ (.string (str G.key))).setCell ⟨gA, 7, none⟩ (.string (str G.text))).setCell ⟨gA, 8, none⟩ (.int .i64 G.n)).setCell ⟨gA, 9, none⟩ (.int .i64 G.time)).setCell ⟨gA, 10, none⟩ (.slice a1 G.dots.length c1)) = wv57 at *
          refine wpF_exec 7 rfl (by kernel_rfl) (by rfl) ?_
          intro K hK
          have p0 := zB.cell 0 _ rfl
          have p1 := zB.cell 1 _ rfl
          have p2 := zB.cell 2 _ rfl
          have p3 := zB.cell 3 _ rfl
          have p4 := zB.cell 4 _ rfl
          have p5 := zB.cell 5 _ rfl
          have p6 := zB.cell 6 _ rfl
          have p7 := zB.cell 7 _ rfl
          have p8 := zB.cell 8 _ rfl
          have p9 := zB.cell 9 _ rfl
          have p10 := zB.cell 10 _ rfl
          have f0 := zB.fr 0
          have f1 := zB.fr 1
          have f2 := zB.fr 2
          have f3 := zB.fr 3
          have f4 := zB.fr 4
          have f5 := zB.fr 5
          have f6 := zB.fr 6
          have f7 := zB.fr 7
          have f8 := zB.fr 8
          have f9 := zB.fr 9
          have f10 := zB.fr 10
          go_simp
          clear p0 f0 p1 f1 p2 f2 p3 f3 p4 f4 p5 f5 p6 f6 p7 f7 p8 f8 p9 f9 p10 f10
          have xs : Ext (just gB) wv57 ((((((((((((wv57.setCell ⟨gB, 0, none⟩ (.int .i64 G.dot.dev)).setCell ⟨gB, 1, none⟩ (.int .i64 G.dot.ep)).setCell ⟨gB, 2, none⟩ (.int .i64 G.dot.seq)).setCell ⟨gB, 3, none⟩ (.int .i64 G.coll)).setCell ⟨gB, 4, none⟩ (.int .i64 G.ver)).setCell ⟨gB, 5, none⟩ (.int .i64 G.kind)).setCell ⟨gB, 6, none⟩ (.string (str G.key))).setCell ⟨gB, 7, none⟩ (.string (str G.text))).setCell ⟨gB, 8, none⟩ (.int .i64 G.n)).setCell ⟨gB, 9, none⟩ (.int .i64 G.time)).setCell ⟨gB, 10, none⟩ (.slice a2 G.dots.length c2))) := ((((((((((((Ext.refl (just gB) wv57).comp (Ext.setCell _ ⟨gB, 0, none⟩ (.int .i64 G.dot.dev) rfl)).comp (Ext.setCell _ ⟨gB, 1, none⟩ (.int .i64 G.dot.ep) rfl)).comp (Ext.setCell _ ⟨gB, 2, none⟩ (.int .i64 G.dot.seq) rfl)).comp (Ext.setCell _ ⟨gB, 3, none⟩ (.int .i64 G.coll) rfl)).comp (Ext.setCell _ ⟨gB, 4, none⟩ (.int .i64 G.ver) rfl)).comp (Ext.setCell _ ⟨gB, 5, none⟩ (.int .i64 G.kind) rfl)).comp (Ext.setCell _ ⟨gB, 6, none⟩ (.string (str G.key)) rfl)).comp (Ext.setCell _ ⟨gB, 7, none⟩ (.string (str G.text)) rfl)).comp (Ext.setCell _ ⟨gB, 8, none⟩ (.int .i64 G.n) rfl)).comp (Ext.setCell _ ⟨gB, 9, none⟩ (.int .i64 G.time) rfl)).comp (Ext.setCell _ ⟨gB, 10, none⟩ (.slice a2 G.dots.length c2) rfl))
          have zB : Blk ((((((((((((wv57.setCell ⟨gB, 0, none⟩ (.int .i64 G.dot.dev)).setCell ⟨gB, 1, none⟩ (.int .i64 G.dot.ep)).setCell ⟨gB, 2, none⟩ (.int .i64 G.dot.seq)).setCell ⟨gB, 3, none⟩ (.int .i64 G.coll)).setCell ⟨gB, 4, none⟩ (.int .i64 G.ver)).setCell ⟨gB, 5, none⟩ (.int .i64 G.kind)).setCell ⟨gB, 6, none⟩ (.string (str G.key))).setCell ⟨gB, 7, none⟩ (.string (str G.text))).setCell ⟨gB, 8, none⟩ (.int .i64 G.n)).setCell ⟨gB, 9, none⟩ (.int .i64 G.time)).setCell ⟨gB, 10, none⟩ (.slice a2 G.dots.length c2))) gB (G.cells a2 c2) := (((((((((((zB.set 0 (.int .i64 G.dot.dev) (by simp)).set 1 (.int .i64 G.dot.ep) (by simp)).set 2 (.int .i64 G.dot.seq) (by simp)).set 3 (.int .i64 G.coll) (by simp)).set 4 (.int .i64 G.ver) (by simp)).set 5 (.int .i64 G.kind) (by simp)).set 6 (.string (str G.key)) (by simp)).set 7 (.string (str G.text)) (by simp)).set 8 (.int .i64 G.n) (by simp)).set 9 (.int .i64 G.time) (by simp)).set 10 (.slice a2 G.dots.length c2) (by simp))
          have hxw := (((((((((((hxw.set1 hsB 0 (.int .i64 G.dot.dev)).set1 hsB 1 (.int .i64 G.dot.ep)).set1 hsB 2 (.int .i64 G.dot.seq)).set1 hsB 3 (.int .i64 G.coll)).set1 hsB 4 (.int .i64 G.ver)).set1 hsB 5 (.int .i64 G.kind)).set1 hsB 6 (.string (str G.key))).set1 hsB 7 (.string (str G.text))).set1 hsB 8 (.int .i64 G.n)).set1 hsB 9 (.int .i64 G.time)).set1 hsB 10 (.slice a2 G.dots.length c2))
          have zA := zA.ext (by simp [OpR.cells]) xs (by simp only [Esc.just]; omega)
          have r1 := rd_not r1 d1B xs
          have r2 := rd_not r2 d2B xs
          clear xs
          have hT6 : ∀ k, looks [(0, fun z => True), (2, fun z => True)] k ((((((((((((wv57.setCell ⟨gB, 0, none⟩ (.int .i64 G.dot.dev)).setCell ⟨gB, 1, none⟩ (.int .i64 G.dot.ep)).setCell ⟨gB, 2, none⟩ (.int .i64 G.dot.seq)).setCell ⟨gB, 3, none⟩ (.int .i64 G.coll)).setCell ⟨gB, 4, none⟩ (.int .i64 G.ver)).setCell ⟨gB, 5, none⟩ (.int .i64 G.kind)).setCell ⟨gB, 6, none⟩ (.string (str G.key))).setCell ⟨gB, 7, none⟩ (.string (str G.text))).setCell ⟨gB, 8, none⟩ (.int .i64 G.n)).setCell ⟨gB, 9, none⟩ (.int .i64 G.time)).setCell ⟨gB, 10, none⟩ (.slice a2 G.dots.length c2))) := looks_all ⟨trivial, trivial, trivial⟩
          refine hK _ _ (looks [(0, fun z => True), (2, fun z => True)]) ⟨.inr (.inl (by kernel_rfl)), .inr (.inl (by kernel_rfl)), trivial⟩ hT6 ?_
          clear hK K
          try simp only [Act.put, List.setIfInBounds_toArray, List.set_cons_zero, List.set_cons_succ]
          generalize (((((((((((wv57.setCell ⟨gB, 0, none⟩ (.int .i64 G.dot.dev)).setCell ⟨gB, 1, none⟩ (.int .i64 G.dot.ep)).setCell ⟨gB, 2, none⟩ (.int .i64 G.dot.seq)).setCell ⟨gB, 3, none⟩ (.int .i64 G.coll)).setCell ⟨gB, 4, none⟩ (.int .i64 G.ver)).setCell ⟨gB, 5, none⟩ (.int .i64 G.kind)).setCell ⟨gB, 6, none⟩ (.string (str G.key))).setCell ⟨gB, 7, none⟩ (.string (str G.text))).setCell ⟨gB, 8, none⟩ (.int .i64 G.n)).setCell ⟨gB, 9, none⟩ (.int .i64 G.time)).setCell ⟨gB, 10, none⟩ (.slice a2 G.dots.length c2)) = wv58 at *
          refine wpF_done (by kernel_rfl) ?_ _
          go_wp2_with fail
          go_meet
          exact ⟨gA, gB, a1, a2, c1, c2, rfl, rfl, by omega, hsA, hsB, zA, zB, r1, r2, d1B, d2B, hxw⟩
      -->A
    case rest =>
      obtain ⟨gA, gB, a1, a2, c1, c2, e5, e6, hne, hgA, hgB, hA, hB, hrA, hrB, hn1, hn2, hx6⟩ := hcut
      subst e5 e6
      generalize wc = w6 at *
      clear hxw hb2 hx b0 b1 b2 b3 b4 b5 b6 b7 b8 b9 b10
      go_wp2_with fail
      refine (within_any which 10 w6 (by omega) (by omega) hwh).mono ?_
      rintro e w7 ⟨rfl, rfl⟩
      have hq : which % 10 = 0 ∨ which % 10 = 1 ∨ which % 10 = 2 ∨ which % 10 = 3 ∨ which % 10 = 4 ∨ which % 10 = 5 ∨ which % 10 = 6 ∨ which % 10 = 7 ∨ which % 10 = 8 ∨ which % 10 = 9 := by omega
      generalize which % 10 = q at *
      go_upto_block 0 with fail
      go_cut [17] (fun s17 wx => ∃ (O : OpR) (a3 : Option Addr) (c3 : Nat), O ≠ G ∧ O.ok ∧ O.dots.length ≤ 1000 ∧ O.key.length ≤ 1000 ∧ O.text.length ≤ 1000 ∧ Blk wx gA (G.cells a1 c1) ∧ Blk wx gB (O.cells a3 c3) ∧ Rd wx a1 (ds G.dots) ∧ Rd wx a3 (ds O.dots) ∧ Ext no w wx)
      case first =>
        --<B
        rcases hq with hq | hq | hq | hq | hq | hq | hq | hq | hq | hq
        · subst hq
          have e0 := hB.cell 0 _ rfl
          have f0 := hB.fr 0
          go_wp2_with fail
          go_meet
          refine ⟨{ G with dot := ⟨wrap64 (G.dot.dev + 1), G.dot.ep, G.dot.seq⟩ }, a2, c2, ?_, ?_, ?_, ?_, ?_, hA.ext (by simp [OpR.cells]) (Ext.setCell w6 ⟨gB, 0, none⟩ (.int .i64 (wrap64 (G.dot.dev + 1))) (S := just gB) rfl) (by simp only [Esc.just]; omega), hB.set 0 (.int .i64 (wrap64 (G.dot.dev + 1))) (by simp [OpR.cells]), rd_not hrA hn1 (Ext.setCell w6 ⟨gB, 0, none⟩ (.int .i64 (wrap64 (G.dot.dev + 1))) (S := just gB) rfl), rd_not hrB hn2 (Ext.setCell w6 ⟨gB, 0, none⟩ (.int .i64 (wrap64 (G.dot.dev + 1))) (S := just gB) rfl), hx6.set1 hgB 0 (.int .i64 (wrap64 (G.dot.dev + 1)))⟩
          · intro h; exact wrap_ne _ hG1.dot.1 (congrArg (fun z : OpR => z.dot.dev) h)
          · exact ⟨⟨wrap_ok _, hG1.dot.2.1, hG1.dot.2.2⟩, hG1.coll, hG1.ver, hG1.kind, hG1.n, hG1.time, hG1.key, hG1.text, hG1.dots⟩
          · show G.dots.length ≤ 1000; omega
          · show G.key.length ≤ 1000; omega
          · show G.text.length ≤ 1000; omega
        · subst hq
          have e1 := hB.cell 1 _ rfl
          have f1 := hB.fr 1
          go_wp2_with fail
          go_meet
          refine ⟨{ G with dot := ⟨G.dot.dev, wrap64 (G.dot.ep + 1), G.dot.seq⟩ }, a2, c2, ?_, ?_, ?_, ?_, ?_, hA.ext (by simp [OpR.cells]) (Ext.setCell w6 ⟨gB, 1, none⟩ (.int .i64 (wrap64 (G.dot.ep + 1))) (S := just gB) rfl) (by simp only [Esc.just]; omega), hB.set 1 (.int .i64 (wrap64 (G.dot.ep + 1))) (by simp [OpR.cells]), rd_not hrA hn1 (Ext.setCell w6 ⟨gB, 1, none⟩ (.int .i64 (wrap64 (G.dot.ep + 1))) (S := just gB) rfl), rd_not hrB hn2 (Ext.setCell w6 ⟨gB, 1, none⟩ (.int .i64 (wrap64 (G.dot.ep + 1))) (S := just gB) rfl), hx6.set1 hgB 1 (.int .i64 (wrap64 (G.dot.ep + 1)))⟩
          · intro h; exact wrap_ne _ hG1.dot.2.1 (congrArg (fun z : OpR => z.dot.ep) h)
          · exact ⟨⟨hG1.dot.1, wrap_ok _, hG1.dot.2.2⟩, hG1.coll, hG1.ver, hG1.kind, hG1.n, hG1.time, hG1.key, hG1.text, hG1.dots⟩
          · show G.dots.length ≤ 1000; omega
          · show G.key.length ≤ 1000; omega
          · show G.text.length ≤ 1000; omega
        · subst hq
          have e2 := hB.cell 2 _ rfl
          have f2 := hB.fr 2
          go_wp2_with fail
          go_meet
          refine ⟨{ G with dot := ⟨G.dot.dev, G.dot.ep, wrap64 (G.dot.seq + 1)⟩ }, a2, c2, ?_, ?_, ?_, ?_, ?_, hA.ext (by simp [OpR.cells]) (Ext.setCell w6 ⟨gB, 2, none⟩ (.int .i64 (wrap64 (G.dot.seq + 1))) (S := just gB) rfl) (by simp only [Esc.just]; omega), hB.set 2 (.int .i64 (wrap64 (G.dot.seq + 1))) (by simp [OpR.cells]), rd_not hrA hn1 (Ext.setCell w6 ⟨gB, 2, none⟩ (.int .i64 (wrap64 (G.dot.seq + 1))) (S := just gB) rfl), rd_not hrB hn2 (Ext.setCell w6 ⟨gB, 2, none⟩ (.int .i64 (wrap64 (G.dot.seq + 1))) (S := just gB) rfl), hx6.set1 hgB 2 (.int .i64 (wrap64 (G.dot.seq + 1)))⟩
          · intro h; exact wrap_ne _ hG1.dot.2.2 (congrArg (fun z : OpR => z.dot.seq) h)
          · exact ⟨⟨hG1.dot.1, hG1.dot.2.1, wrap_ok _⟩, hG1.coll, hG1.ver, hG1.kind, hG1.n, hG1.time, hG1.key, hG1.text, hG1.dots⟩
          · show G.dots.length ≤ 1000; omega
          · show G.key.length ≤ 1000; omega
          · show G.text.length ≤ 1000; omega
        · subst hq
          have e3 := hB.cell 3 _ rfl
          have f3 := hB.fr 3
          go_wp2_with fail
          go_meet
          refine ⟨{ G with coll := wrap64 (G.coll + 1) }, a2, c2, ?_, ?_, ?_, ?_, ?_, hA.ext (by simp [OpR.cells]) (Ext.setCell w6 ⟨gB, 3, none⟩ (.int .i64 (wrap64 (G.coll + 1))) (S := just gB) rfl) (by simp only [Esc.just]; omega), hB.set 3 (.int .i64 (wrap64 (G.coll + 1))) (by simp [OpR.cells]), rd_not hrA hn1 (Ext.setCell w6 ⟨gB, 3, none⟩ (.int .i64 (wrap64 (G.coll + 1))) (S := just gB) rfl), rd_not hrB hn2 (Ext.setCell w6 ⟨gB, 3, none⟩ (.int .i64 (wrap64 (G.coll + 1))) (S := just gB) rfl), hx6.set1 hgB 3 (.int .i64 (wrap64 (G.coll + 1)))⟩
          · intro h; exact wrap_ne _ hG1.coll (congrArg OpR.coll h)
          · exact ⟨hG1.dot, wrap_ok _, hG1.ver, hG1.kind, hG1.n, hG1.time, hG1.key, hG1.text, hG1.dots⟩
          · show G.dots.length ≤ 1000; omega
          · show G.key.length ≤ 1000; omega
          · show G.text.length ≤ 1000; omega
        · subst hq
          have e4 := hB.cell 4 _ rfl
          have f4 := hB.fr 4
          go_wp2_with fail
          go_meet
          refine ⟨{ G with ver := wrap64 (G.ver + 1) }, a2, c2, ?_, ?_, ?_, ?_, ?_, hA.ext (by simp [OpR.cells]) (Ext.setCell w6 ⟨gB, 4, none⟩ (.int .i64 (wrap64 (G.ver + 1))) (S := just gB) rfl) (by simp only [Esc.just]; omega), hB.set 4 (.int .i64 (wrap64 (G.ver + 1))) (by simp [OpR.cells]), rd_not hrA hn1 (Ext.setCell w6 ⟨gB, 4, none⟩ (.int .i64 (wrap64 (G.ver + 1))) (S := just gB) rfl), rd_not hrB hn2 (Ext.setCell w6 ⟨gB, 4, none⟩ (.int .i64 (wrap64 (G.ver + 1))) (S := just gB) rfl), hx6.set1 hgB 4 (.int .i64 (wrap64 (G.ver + 1)))⟩
          · intro h; exact wrap_ne _ hG1.ver (congrArg OpR.ver h)
          · exact ⟨hG1.dot, hG1.coll, wrap_ok _, hG1.kind, hG1.n, hG1.time, hG1.key, hG1.text, hG1.dots⟩
          · show G.dots.length ≤ 1000; omega
          · show G.key.length ≤ 1000; omega
          · show G.text.length ≤ 1000; omega
        · subst hq
          have e5 := hB.cell 5 _ rfl
          have f5 := hB.fr 5
          go_wp2_with fail
          go_meet
          refine ⟨{ G with kind := wrap64 (G.kind + 1) }, a2, c2, ?_, ?_, ?_, ?_, ?_, hA.ext (by simp [OpR.cells]) (Ext.setCell w6 ⟨gB, 5, none⟩ (.int .i64 (wrap64 (G.kind + 1))) (S := just gB) rfl) (by simp only [Esc.just]; omega), hB.set 5 (.int .i64 (wrap64 (G.kind + 1))) (by simp [OpR.cells]), rd_not hrA hn1 (Ext.setCell w6 ⟨gB, 5, none⟩ (.int .i64 (wrap64 (G.kind + 1))) (S := just gB) rfl), rd_not hrB hn2 (Ext.setCell w6 ⟨gB, 5, none⟩ (.int .i64 (wrap64 (G.kind + 1))) (S := just gB) rfl), hx6.set1 hgB 5 (.int .i64 (wrap64 (G.kind + 1)))⟩
          · intro h; exact wrap_ne _ hG1.kind (congrArg OpR.kind h)
          · exact ⟨hG1.dot, hG1.coll, hG1.ver, wrap_ok _, hG1.n, hG1.time, hG1.key, hG1.text, hG1.dots⟩
          · show G.dots.length ≤ 1000; omega
          · show G.key.length ≤ 1000; omega
          · show G.text.length ≤ 1000; omega
        · subst hq
          have cadd : ∀ w, (Op.stringOp .add (str G.key) { data := #[120] }).run Try.prog w = .ok (.string (str (G.key ++ [120]))) w := fun w => by
            rw [run_string_add_sum w _ _ (by rw [str_size]; show G.key.length + 1 ≤ _; omega), ← str_add]; rfl
          have e6 := hB.cell 6 _ rfl
          have f6 := hB.fr 6
          go_wp2_with fail
          go_meet
          refine ⟨{ G with key := G.key ++ [120] }, a2, c2, ?_, ?_, ?_, ?_, ?_, hA.ext (by simp [OpR.cells]) (Ext.setCell w6 ⟨gB, 6, none⟩ (.string (str (G.key ++ [120]))) (S := just gB) rfl) (by simp only [Esc.just]; omega), hB.set 6 (.string (str (G.key ++ [120]))) (by simp [OpR.cells]), rd_not hrA hn1 (Ext.setCell w6 ⟨gB, 6, none⟩ (.string (str (G.key ++ [120]))) (S := just gB) rfl), rd_not hrB hn2 (Ext.setCell w6 ⟨gB, 6, none⟩ (.string (str (G.key ++ [120]))) (S := just gB) rfl), hx6.set1 hgB 6 (.string (str (G.key ++ [120])))⟩
          · intro h; exact (by have := congrArg (fun z : OpR => z.key.length) h; simp at this)
          · exact ⟨hG1.dot, hG1.coll, hG1.ver, hG1.kind, hG1.n, hG1.time, (by show (G.key ++ [120]).length ≤ _; unfold maxLen; simp; omega), hG1.text, hG1.dots⟩
          · show G.dots.length ≤ 1000; omega
          · show (G.key ++ [120]).length ≤ 1000; simp; omega
          · show G.text.length ≤ 1000; omega
        · subst hq
          have cadd : ∀ w, (Op.stringOp .add (str G.text) { data := #[120] }).run Try.prog w = .ok (.string (str (G.text ++ [120]))) w := fun w => by
            rw [run_string_add_sum w _ _ (by rw [str_size]; show G.text.length + 1 ≤ _; omega), ← str_add]; rfl
          have e7 := hB.cell 7 _ rfl
          have f7 := hB.fr 7
          go_wp2_with fail
          go_meet
          refine ⟨{ G with text := G.text ++ [120] }, a2, c2, ?_, ?_, ?_, ?_, ?_, hA.ext (by simp [OpR.cells]) (Ext.setCell w6 ⟨gB, 7, none⟩ (.string (str (G.text ++ [120]))) (S := just gB) rfl) (by simp only [Esc.just]; omega), hB.set 7 (.string (str (G.text ++ [120]))) (by simp [OpR.cells]), rd_not hrA hn1 (Ext.setCell w6 ⟨gB, 7, none⟩ (.string (str (G.text ++ [120]))) (S := just gB) rfl), rd_not hrB hn2 (Ext.setCell w6 ⟨gB, 7, none⟩ (.string (str (G.text ++ [120]))) (S := just gB) rfl), hx6.set1 hgB 7 (.string (str (G.text ++ [120])))⟩
          · intro h; exact (by have := congrArg (fun z : OpR => z.text.length) h; simp at this)
          · exact ⟨hG1.dot, hG1.coll, hG1.ver, hG1.kind, hG1.n, hG1.time, hG1.key, (by show (G.text ++ [120]).length ≤ _; unfold maxLen; simp; omega), hG1.dots⟩
          · show G.dots.length ≤ 1000; omega
          · show G.key.length ≤ 1000; omega
          · show (G.text ++ [120]).length ≤ 1000; simp; omega
        · subst hq
          have e8 := hB.cell 8 _ rfl
          have f8 := hB.fr 8
          go_wp2_with fail
          go_meet
          refine ⟨{ G with n := wrap64 (G.n + 1) }, a2, c2, ?_, ?_, ?_, ?_, ?_, hA.ext (by simp [OpR.cells]) (Ext.setCell w6 ⟨gB, 8, none⟩ (.int .i64 (wrap64 (G.n + 1))) (S := just gB) rfl) (by simp only [Esc.just]; omega), hB.set 8 (.int .i64 (wrap64 (G.n + 1))) (by simp [OpR.cells]), rd_not hrA hn1 (Ext.setCell w6 ⟨gB, 8, none⟩ (.int .i64 (wrap64 (G.n + 1))) (S := just gB) rfl), rd_not hrB hn2 (Ext.setCell w6 ⟨gB, 8, none⟩ (.int .i64 (wrap64 (G.n + 1))) (S := just gB) rfl), hx6.set1 hgB 8 (.int .i64 (wrap64 (G.n + 1)))⟩
          · intro h; exact wrap_ne _ hG1.n (congrArg OpR.n h)
          · exact ⟨hG1.dot, hG1.coll, hG1.ver, hG1.kind, wrap_ok _, hG1.time, hG1.key, hG1.text, hG1.dots⟩
          · show G.dots.length ≤ 1000; omega
          · show G.key.length ≤ 1000; omega
          · show G.text.length ≤ 1000; omega
        · subst hq
          have e10 := hB.cell 10 _ rfl
          have e10 := (Ext.alloc no w6 (.cells #[] 23)).keeps e10 (fun h => h)
          have hs6 := hx6.size
          go_wp2_with (at_builtin; refine wpList_append TDots rfl rfl rfl (emptied3 w6 23) rfl (ys := ds G.dots) (hrB.alloc _) (by rw [ds_length]) (ds_one _) (by unfold maxLen; omega) (by omega) (by simp) ?_)
          intro a8 c8 w8 hA8
          have ho8 := hA8.own
          have hx8 : Ext no w6 w8 := Ext.ofBelow (((Below.refl _ _).alloc (Nat.le_refl _) _).trans ((emptied3 w6 23).below hA8.ext (by simp))) (Nat.le_refl _)
          rw [Nat.zero_add, List.nil_append] at ho8
          clear hA8
          have hs8 := hx8.size
          go_wp2_with (at_builtin; refine wpList_append TDots rfl rfl rfl (ho8.ext (Ext.alloc no _ _) (fun _ _ h => h)) rfl (Rd.lit w8 _ _ _) (by simp) (by intro u hu; simp at hu; rcases hu with rfl | rfl | rfl <;> rfl) (by unfold maxLen; omega) (by omega) (by simp; omega) ?_)
          intro a9 c9 w9 hA9
          have ho9 := hA9.own
          have hx9 : Ext no w6 w9 := Ext.ofBelow (hx8.belowAll.trans (((Below.refl _ _).alloc hs8 _).trans ((ho8.ext (Ext.alloc no _ _) (fun _ _ h => h)).below hA9.ext (by simp; omega)))) (Nat.le_refl _)
          clear hA9 ho8
          have hB9 := hB.ext (by simp [OpR.cells]) hx9 (fun h => h)
          have hA9 := hA.ext (by simp [OpR.cells]) hx9 (fun h => h)
          have hr9 := hrA.ext hx9 (fun _ _ h => h)
          have hg9 := hB.lt (by simp [OpR.cells])
          have e10' := hB9.cell 10 _ rfl
          have f10 := hB9.fr 10
          have hxa := hx6.comp hx9
          have HO : Rd w9 a9 (ds (G.dots ++ [⟨9, 0, 0⟩])) := by rw [ds_append]; exact ho9.rd
          have hbase : ∀ ad, a9 = some ad → ad.block ≠ gB := fun ad h => by have := (ho9.base ad h).1; omega
          clear e10 hx9 ho9
          go_wp2_with fail
          go_meet
          refine ⟨{ G with dots := G.dots ++ [⟨9, 0, 0⟩] }, a9, c9, ?_, ?_, ?_, ?_, ?_, hA9.ext (by simp [OpR.cells]) (Ext.setCell w9 ⟨gB, 10, none⟩ (.slice a9 (G.dots.length + 1) c9) (S := just gB) rfl) (by simp only [Esc.just]; omega), ?_, rd_not hr9 hn1 (Ext.setCell w9 ⟨gB, 10, none⟩ (.slice a9 (G.dots.length + 1) c9) (S := just gB) rfl), rd_not HO (fun _ => hbase) (Ext.setCell w9 ⟨gB, 10, none⟩ (.slice a9 (G.dots.length + 1) c9) (S := just gB) rfl), hxa.set1 hgB 10 (.slice a9 (G.dots.length + 1) c9)⟩
          · intro h; have := congrArg (fun z : OpR => z.dots.length) h; simp at this
          · exact ⟨hG1.dot, hG1.coll, hG1.ver, hG1.kind, hG1.n, hG1.time, hG1.key, hG1.text, fun d hd => by
              rcases List.mem_append.1 hd with hd | hd
              · exact hG1.dots d hd
              · simp at hd; subst hd; unfold DotR.ok I64ok; decide⟩
          · show (G.dots ++ [(⟨9, 0, 0⟩ : DotR)]).length ≤ 1000; simp; omega
          · show G.key.length ≤ 1000; omega
          · show G.text.length ≤ 1000; omega
          · have := hB9.set 10 (.slice a9 (G.dots.length + 1) c9) (by simp [OpR.cells])
            have hlen : (G.dots ++ [(⟨9, 0, 0⟩ : DotR)]).length = G.dots.length + 1 := by simp
            unfold OpR.cells; simp only; rw [hlen]; exact this
        -->B
      case rest =>
        obtain ⟨O, a3, c3, hOG, hO1, hO3, hO4, hO5, hA7, hB7, hrA7, hrO, hx7⟩ := hcut
        generalize wc = w7 at *
        clear hA hB hrA hrB hx6 hn1 hn2
        have HN := Lib.hid (show opEnc G ≠ opEnc O from fun h => hOG (opEnc_inj hG1 hO1 (by omega) (by omega) (by omega) hO4 hO5 hO3 h).symm)
        have HOG := Lib.hid hOG
        clear hOG
        have x0 := hA7.cell 0 _ rfl
        have y0 := hB7.cell 0 _ rfl
        have x1 := hA7.cell 1 _ rfl
        have y1 := hB7.cell 1 _ rfl
        have x2 := hA7.cell 2 _ rfl
        have y2 := hB7.cell 2 _ rfl
        have x3 := hA7.cell 3 _ rfl
        have y3 := hB7.cell 3 _ rfl
        have x4 := hA7.cell 4 _ rfl
        have y4 := hB7.cell 4 _ rfl
        have x5 := hA7.cell 5 _ rfl
        have y5 := hB7.cell 5 _ rfl
        have x6 := hA7.cell 6 _ rfl
        have y6 := hB7.cell 6 _ rfl
        have x7 := hA7.cell 7 _ rfl
        have y7 := hB7.cell 7 _ rfl
        have x8 := hA7.cell 8 _ rfl
        have y8 := hB7.cell 8 _ rfl
        have x9 := hA7.cell 9 _ rfl
        have y9 := hB7.cell 9 _ rfl
        have x10 := hA7.cell 10 _ rfl
        have y10 := hB7.cell 10 _ rfl
        go_upto_region 27 with fail
        --<C
        refine wp_region_F [0, 1, 4, 5, 10, 11, 16, 18, 19, 21] (looks [(0, fun z => Ext no w7 z), (1, fun z => Ext no w7 z), (4, fun z => Ext no w7 z), (5, fun z => Ext no w7 z), (10, fun z => Ext no w7 z), (11, fun z => Ext no w7 z), (16, fun z => Ext no w7 z), (18, fun z => True), (19, fun z => Ext no w7 z), (21, fun z => True)]) (by kernel_rfl) ?_
        have hT0 : ∀ k, looks [(0, fun z => Ext no w7 z), (1, fun z => Ext no w7 z), (4, fun z => Ext no w7 z), (5, fun z => Ext no w7 z), (10, fun z => Ext no w7 z), (11, fun z => Ext no w7 z), (16, fun z => Ext no w7 z), (18, fun z => True), (19, fun z => Ext no w7 z), (21, fun z => True)] k (w7.drew) := looks_all ⟨(Ext.drew no w7), (Ext.drew no w7), (Ext.drew no w7), (Ext.drew no w7), (Ext.drew no w7), (Ext.drew no w7), (Ext.drew no w7), trivial, (Ext.drew no w7), trivial, trivial⟩
        refine wpF_look 0 (v := .agg #[.int .i64 G.dot.dev, .int .i64 G.dot.ep, .int .i64 G.dot.seq, .int .i64 G.coll, .int .i64 G.ver, .int .i64 G.kind, .string (str G.key), .string (str G.text), .int .i64 G.n, .int .i64 G.time, .slice a1 G.dots.length c1]) rfl rfl (by kernel_rfl) (by kernel_rfl) (by kernel_rfl) (by kernel_rfl) (fun _ _ _ h => h) hT0 (by rfl) (fun w hS => by have hS : Ext no w7 w := hS; have q0 := hS.keeps x0 (fun h => h); have q1 := hS.keeps x1 (fun h => h); have q2 := hS.keeps x2 (fun h => h); have q3 := hS.keeps x3 (fun h => h); have q4 := hS.keeps x4 (fun h => h); have q5 := hS.keeps x5 (fun h => h); have q6 := hS.keeps x6 (fun h => h); have q7 := hS.keeps x7 (fun h => h); have q8 := hS.keeps x8 (fun h => h); have q9 := hS.keeps x9 (fun h => h); have q10 := hS.keeps x10 (fun h => h); go_simp) ?_
        simp only [Act.put, List.setIfInBounds_toArray, List.set_cons_zero, List.set_cons_succ]
        refine wpF_look 1 (v := .agg #[.int .i64 G.dot.dev, .int .i64 G.dot.ep, .int .i64 G.dot.seq, .int .i64 G.coll, .int .i64 G.ver, .int .i64 G.kind, .string (str G.key), .string (str G.text), .int .i64 G.n, .int .i64 G.time, .slice a1 G.dots.length c1]) rfl rfl (by kernel_rfl) (by kernel_rfl) (by kernel_rfl) (by kernel_rfl) (fun _ _ _ h => h) hT0 (by rfl) (fun w hS => by have hS : Ext no w7 w := hS; have q0 := hS.keeps x0 (fun h => h); have q1 := hS.keeps x1 (fun h => h); have q2 := hS.keeps x2 (fun h => h); have q3 := hS.keeps x3 (fun h => h); have q4 := hS.keeps x4 (fun h => h); have q5 := hS.keeps x5 (fun h => h); have q6 := hS.keeps x6 (fun h => h); have q7 := hS.keeps x7 (fun h => h); have q8 := hS.keeps x8 (fun h => h); have q9 := hS.keeps x9 (fun h => h); have q10 := hS.keeps x10 (fun h => h); go_simp) ?_
        simp only [Act.put, List.setIfInBounds_toArray, List.set_cons_zero, List.set_cons_succ]
        refine wpF_exec 2 rfl (by kernel_rfl) (by rfl) ?_
        intro K hK
        go_simp
        refine (same_any (w7.drew) G G a1 a1 c1 c1 (hrA7.ext (Ext.drew no w7) (fun _ _ h => h)) (hrA7.ext (Ext.drew no w7) (fun _ _ h => h)) (by omega) (by omega)).mono ?_
        rintro e wq2 ⟨r2, rfl, hs2, xh2⟩
        have hr : r2 = true := hs2.2 rfl
        subst hr
        clear hs2
        have hT1 : ∀ k, looks [(0, fun z => Ext no w7 z), (1, fun z => Ext no w7 z), (4, fun z => Ext no w7 z), (5, fun z => Ext no w7 z), (10, fun z => Ext no w7 z), (11, fun z => Ext no w7 z), (16, fun z => Ext no w7 z), (18, fun z => True), (19, fun z => Ext no w7 z), (21, fun z => True)] k (wq2) := looks_all ⟨((Ext.drew no w7).comp xh2), ((Ext.drew no w7).comp xh2), ((Ext.drew no w7).comp xh2), ((Ext.drew no w7).comp xh2), ((Ext.drew no w7).comp xh2), ((Ext.drew no w7).comp xh2), ((Ext.drew no w7).comp xh2), trivial, ((Ext.drew no w7).comp xh2), trivial, trivial⟩
        refine hK _ _ (looks [(0, fun z => Ext no w7 z), (1, fun z => Ext no w7 z), (4, fun z => Ext no w7 z), (5, fun z => Ext no w7 z), (10, fun z => Ext no w7 z), (11, fun z => Ext no w7 z), (16, fun z => Ext no w7 z), (18, fun z => True), (19, fun z => Ext no w7 z), (21, fun z => True)]) ⟨.inr (.inl (by kernel_rfl)), .inr (.inl (by kernel_rfl)), .inl (by kernel_rfl), .inl (by kernel_rfl), .inl (by kernel_rfl), .inl (by kernel_rfl), .inl (by kernel_rfl), .inl (by kernel_rfl), .inl (by kernel_rfl), .inl (by kernel_rfl), trivial⟩ hT1 ?_
        clear hK K
        try simp only [Act.put, List.setIfInBounds_toArray, List.set_cons_zero, List.set_cons_succ]
        refine wpF_take 3 (v := ?_) rfl (by kernel_rfl) (by kernel_rfl) (by kernel_rfl) (fun _ _ _ h => h) hT1 (by rfl) ?_ ?_
        rotate_left
        · (intro wq; go_simp; try with_reducible rfl)
        simp only [Act.put, List.setIfInBounds_toArray, List.set_cons_zero, List.set_cons_succ]
        refine wpF_look 4 (v := .agg #[.int .i64 G.dot.dev, .int .i64 G.dot.ep, .int .i64 G.dot.seq, .int .i64 G.coll, .int .i64 G.ver, .int .i64 G.kind, .string (str G.key), .string (str G.text), .int .i64 G.n, .int .i64 G.time, .slice a1 G.dots.length c1]) rfl rfl (by kernel_rfl) (by kernel_rfl) (by kernel_rfl) (by kernel_rfl) (fun _ _ _ h => h) hT1 (by rfl) (fun w hS => by have hS : Ext no w7 w := hS; have q0 := hS.keeps x0 (fun h => h); have q1 := hS.keeps x1 (fun h => h); have q2 := hS.keeps x2 (fun h => h); have q3 := hS.keeps x3 (fun h => h); have q4 := hS.keeps x4 (fun h => h); have q5 := hS.keeps x5 (fun h => h); have q6 := hS.keeps x6 (fun h => h); have q7 := hS.keeps x7 (fun h => h); have q8 := hS.keeps x8 (fun h => h); have q9 := hS.keeps x9 (fun h => h); have q10 := hS.keeps x10 (fun h => h); go_simp) ?_
        simp only [Act.put, List.setIfInBounds_toArray, List.set_cons_zero, List.set_cons_succ]
        refine wpF_look 5 (v := .agg #[.int .i64 O.dot.dev, .int .i64 O.dot.ep, .int .i64 O.dot.seq, .int .i64 O.coll, .int .i64 O.ver, .int .i64 O.kind, .string (str O.key), .string (str O.text), .int .i64 O.n, .int .i64 O.time, .slice a3 O.dots.length c3]) rfl rfl (by kernel_rfl) (by kernel_rfl) (by kernel_rfl) (by kernel_rfl) (fun _ _ _ h => h) hT1 (by rfl) (fun w hS => by have hS : Ext no w7 w := hS; have q0 := hS.keeps y0 (fun h => h); have q1 := hS.keeps y1 (fun h => h); have q2 := hS.keeps y2 (fun h => h); have q3 := hS.keeps y3 (fun h => h); have q4 := hS.keeps y4 (fun h => h); have q5 := hS.keeps y5 (fun h => h); have q6 := hS.keeps y6 (fun h => h); have q7 := hS.keeps y7 (fun h => h); have q8 := hS.keeps y8 (fun h => h); have q9 := hS.keeps y9 (fun h => h); have q10 := hS.keeps y10 (fun h => h); go_simp) ?_
        simp only [Act.put, List.setIfInBounds_toArray, List.set_cons_zero, List.set_cons_succ]
        refine wpF_exec 6 rfl (by kernel_rfl) (by rfl) ?_
        intro K hK
        go_simp
        refine (same_any (wq2) G O a1 a3 c1 c3 (hrA7.ext ((Ext.drew no w7).comp xh2) (fun _ _ h => h)) (hrO.ext ((Ext.drew no w7).comp xh2) (fun _ _ h => h)) (by omega) (by omega)).mono ?_
        rintro e wq6 ⟨r6, rfl, hs6, xh6⟩
        have hr : r6 = false := by cases hr : r6 with | false => rfl | true => exact absurd (hs6.1 hr).symm HOG.out
        subst hr
        clear hs6
        have hT2 : ∀ k, looks [(0, fun z => Ext no w7 z), (1, fun z => Ext no w7 z), (4, fun z => Ext no w7 z), (5, fun z => Ext no w7 z), (10, fun z => Ext no w7 z), (11, fun z => Ext no w7 z), (16, fun z => Ext no w7 z), (18, fun z => True), (19, fun z => Ext no w7 z), (21, fun z => True)] k (wq6) := looks_all ⟨(((Ext.drew no w7).comp xh2).comp xh6), (((Ext.drew no w7).comp xh2).comp xh6), (((Ext.drew no w7).comp xh2).comp xh6), (((Ext.drew no w7).comp xh2).comp xh6), (((Ext.drew no w7).comp xh2).comp xh6), (((Ext.drew no w7).comp xh2).comp xh6), (((Ext.drew no w7).comp xh2).comp xh6), trivial, (((Ext.drew no w7).comp xh2).comp xh6), trivial, trivial⟩
        refine hK _ _ (looks [(0, fun z => Ext no w7 z), (1, fun z => Ext no w7 z), (4, fun z => Ext no w7 z), (5, fun z => Ext no w7 z), (10, fun z => Ext no w7 z), (11, fun z => Ext no w7 z), (16, fun z => Ext no w7 z), (18, fun z => True), (19, fun z => Ext no w7 z), (21, fun z => True)]) ⟨.inr (.inl (by kernel_rfl)), .inr (.inl (by kernel_rfl)), .inr (.inl (by kernel_rfl)), .inr (.inl (by kernel_rfl)), .inl (by kernel_rfl), .inl (by kernel_rfl), .inl (by kernel_rfl), .inl (by kernel_rfl), .inl (by kernel_rfl), .inl (by kernel_rfl), trivial⟩ hT2 ?_
        clear hK K
        try simp only [Act.put, List.setIfInBounds_toArray, List.set_cons_zero, List.set_cons_succ]
        refine wpF_take 7 (v := ?_) rfl (by kernel_rfl) (by kernel_rfl) (by kernel_rfl) (fun _ _ _ h => h) hT2 (by rfl) ?_ ?_
        rotate_left
        · (intro wq; go_simp; try with_reducible rfl)
        simp only [Act.put, List.setIfInBounds_toArray, List.set_cons_zero, List.set_cons_succ]
        refine wpF_take 8 (v := ?_) rfl (by kernel_rfl) (by kernel_rfl) (by kernel_rfl) (fun _ _ _ h => h) hT2 (by rfl) ?_ ?_
        rotate_left
        · (intro wq; go_simp; try with_reducible rfl)
        simp only [Act.put, List.setIfInBounds_toArray, List.set_cons_zero, List.set_cons_succ]
        refine wpF_take 9 (v := ?_) rfl (by kernel_rfl) (by kernel_rfl) (by kernel_rfl) (fun _ _ _ h => h) hT2 (by rfl) ?_ ?_
        rotate_left
        · (intro wq; go_simp; try with_reducible rfl)
        simp only [Act.put, List.setIfInBounds_toArray, List.set_cons_zero, List.set_cons_succ]
        refine wpF_look 10 (v := .agg #[.int .i64 O.dot.dev, .int .i64 O.dot.ep, .int .i64 O.dot.seq, .int .i64 O.coll, .int .i64 O.ver, .int .i64 O.kind, .string (str O.key), .string (str O.text), .int .i64 O.n, .int .i64 O.time, .slice a3 O.dots.length c3]) rfl rfl (by kernel_rfl) (by kernel_rfl) (by kernel_rfl) (by kernel_rfl) (fun _ _ _ h => h) hT2 (by rfl) (fun w hS => by have hS : Ext no w7 w := hS; have q0 := hS.keeps y0 (fun h => h); have q1 := hS.keeps y1 (fun h => h); have q2 := hS.keeps y2 (fun h => h); have q3 := hS.keeps y3 (fun h => h); have q4 := hS.keeps y4 (fun h => h); have q5 := hS.keeps y5 (fun h => h); have q6 := hS.keeps y6 (fun h => h); have q7 := hS.keeps y7 (fun h => h); have q8 := hS.keeps y8 (fun h => h); have q9 := hS.keeps y9 (fun h => h); have q10 := hS.keeps y10 (fun h => h); go_simp) ?_
        simp only [Act.put, List.setIfInBounds_toArray, List.set_cons_zero, List.set_cons_succ]
        refine wpF_look 11 (v := .agg #[.int .i64 G.dot.dev, .int .i64 G.dot.ep, .int .i64 G.dot.seq, .int .i64 G.coll, .int .i64 G.ver, .int .i64 G.kind, .string (str G.key), .string (str G.text), .int .i64 G.n, .int .i64 G.time, .slice a1 G.dots.length c1]) rfl rfl (by kernel_rfl) (by kernel_rfl) (by kernel_rfl) (by kernel_rfl) (fun _ _ _ h => h) hT2 (by rfl) (fun w hS => by have hS : Ext no w7 w := hS; have q0 := hS.keeps x0 (fun h => h); have q1 := hS.keeps x1 (fun h => h); have q2 := hS.keeps x2 (fun h => h); have q3 := hS.keeps x3 (fun h => h); have q4 := hS.keeps x4 (fun h => h); have q5 := hS.keeps x5 (fun h => h); have q6 := hS.keeps x6 (fun h => h); have q7 := hS.keeps x7 (fun h => h); have q8 := hS.keeps x8 (fun h => h); have q9 := hS.keeps x9 (fun h => h); have q10 := hS.keeps x10 (fun h => h); go_simp) ?_
        simp only [Act.put, List.setIfInBounds_toArray, List.set_cons_zero, List.set_cons_succ]
        refine wpF_exec 12 rfl (by kernel_rfl) (by rfl) ?_
        intro K hK
        go_simp
        refine (same_any (wq6) O G a3 a1 c3 c1 (hrO.ext (((Ext.drew no w7).comp xh2).comp xh6) (fun _ _ h => h)) (hrA7.ext (((Ext.drew no w7).comp xh2).comp xh6) (fun _ _ h => h)) (by omega) (by omega)).mono ?_
        rintro e wq12 ⟨r12, rfl, hs12, xh12⟩
        have hr : r12 = false := by cases hr : r12 with | false => rfl | true => exact absurd (hs12.1 hr) HOG.out
        subst hr
        clear hs12
        have hT3 : ∀ k, looks [(0, fun z => Ext no w7 z), (1, fun z => Ext no w7 z), (4, fun z => Ext no w7 z), (5, fun z => Ext no w7 z), (10, fun z => Ext no w7 z), (11, fun z => Ext no w7 z), (16, fun z => Ext no w7 z), (18, fun z => True), (19, fun z => Ext no w7 z), (21, fun z => True)] k (wq12) := looks_all ⟨((((Ext.drew no w7).comp xh2).comp xh6).comp xh12), ((((Ext.drew no w7).comp xh2).comp xh6).comp xh12), ((((Ext.drew no w7).comp xh2).comp xh6).comp xh12), ((((Ext.drew no w7).comp xh2).comp xh6).comp xh12), ((((Ext.drew no w7).comp xh2).comp xh6).comp xh12), ((((Ext.drew no w7).comp xh2).comp xh6).comp xh12), ((((Ext.drew no w7).comp xh2).comp xh6).comp xh12), trivial, ((((Ext.drew no w7).comp xh2).comp xh6).comp xh12), trivial, trivial⟩
        refine hK _ _ (looks [(0, fun z => Ext no w7 z), (1, fun z => Ext no w7 z), (4, fun z => Ext no w7 z), (5, fun z => Ext no w7 z), (10, fun z => Ext no w7 z), (11, fun z => Ext no w7 z), (16, fun z => Ext no w7 z), (18, fun z => True), (19, fun z => Ext no w7 z), (21, fun z => True)]) ⟨.inr (.inl (by kernel_rfl)), .inr (.inl (by kernel_rfl)), .inr (.inl (by kernel_rfl)), .inr (.inl (by kernel_rfl)), .inr (.inl (by kernel_rfl)), .inr (.inl (by kernel_rfl)), .inl (by kernel_rfl), .inl (by kernel_rfl), .inl (by kernel_rfl), .inl (by kernel_rfl), trivial⟩ hT3 ?_
        clear hK K
        try simp only [Act.put, List.setIfInBounds_toArray, List.set_cons_zero, List.set_cons_succ]
        refine wpF_take 13 (v := ?_) rfl (by kernel_rfl) (by kernel_rfl) (by kernel_rfl) (fun _ _ _ h => h) hT3 (by rfl) ?_ ?_
        rotate_left
        · (intro wq; go_simp; try with_reducible rfl)
        simp only [Act.put, List.setIfInBounds_toArray, List.set_cons_zero, List.set_cons_succ]
        refine wpF_take 14 (v := ?_) rfl (by kernel_rfl) (by kernel_rfl) (by kernel_rfl) (fun _ _ _ h => h) hT3 (by rfl) ?_ ?_
        rotate_left
        · (intro wq; go_simp; try with_reducible rfl)
        simp only [Act.put, List.setIfInBounds_toArray, List.set_cons_zero, List.set_cons_succ]
        refine wpF_take 15 (v := ?_) rfl (by kernel_rfl) (by kernel_rfl) (by kernel_rfl) (fun _ _ _ h => h) hT3 (by rfl) ?_ ?_
        rotate_left
        · (intro wq; go_simp; try with_reducible rfl)
        simp only [Act.put, List.setIfInBounds_toArray, List.set_cons_zero, List.set_cons_succ]
        refine wpF_look 16 (v := .agg #[.int .i64 G.dot.dev, .int .i64 G.dot.ep, .int .i64 G.dot.seq, .int .i64 G.coll, .int .i64 G.ver, .int .i64 G.kind, .string (str G.key), .string (str G.text), .int .i64 G.n, .int .i64 G.time, .slice a1 G.dots.length c1]) rfl rfl (by kernel_rfl) (by kernel_rfl) (by kernel_rfl) (by kernel_rfl) (fun _ _ _ h => h) hT3 (by rfl) (fun w hS => by have hS : Ext no w7 w := hS; have q0 := hS.keeps x0 (fun h => h); have q1 := hS.keeps x1 (fun h => h); have q2 := hS.keeps x2 (fun h => h); have q3 := hS.keeps x3 (fun h => h); have q4 := hS.keeps x4 (fun h => h); have q5 := hS.keeps x5 (fun h => h); have q6 := hS.keeps x6 (fun h => h); have q7 := hS.keeps x7 (fun h => h); have q8 := hS.keeps x8 (fun h => h); have q9 := hS.keeps x9 (fun h => h); have q10 := hS.keeps x10 (fun h => h); go_simp) ?_
        simp only [Act.put, List.setIfInBounds_toArray, List.set_cons_zero, List.set_cons_succ]
        refine wpF_look 19 (v := .agg #[.int .i64 O.dot.dev, .int .i64 O.dot.ep, .int .i64 O.dot.seq, .int .i64 O.coll, .int .i64 O.ver, .int .i64 O.kind, .string (str O.key), .string (str O.text), .int .i64 O.n, .int .i64 O.time, .slice a3 O.dots.length c3]) rfl rfl (by kernel_rfl) (by kernel_rfl) (by kernel_rfl) (by kernel_rfl) (fun _ _ _ h => h) hT3 (by rfl) (fun w hS => by have hS : Ext no w7 w := hS; have q0 := hS.keeps y0 (fun h => h); have q1 := hS.keeps y1 (fun h => h); have q2 := hS.keeps y2 (fun h => h); have q3 := hS.keeps y3 (fun h => h); have q4 := hS.keeps y4 (fun h => h); have q5 := hS.keeps y5 (fun h => h); have q6 := hS.keeps y6 (fun h => h); have q7 := hS.keeps y7 (fun h => h); have q8 := hS.keeps y8 (fun h => h); have q9 := hS.keeps y9 (fun h => h); have q10 := hS.keeps y10 (fun h => h); go_simp) ?_
        simp only [Act.put, List.setIfInBounds_toArray, List.set_cons_zero, List.set_cons_succ]
        refine wpF_exec 17 rfl (by kernel_rfl) (by rfl) ?_
        intro K hK
        go_simp
        refine (opbytes_nil (wq12) G a1 c1 hG1 (hrA7.ext ((((Ext.drew no w7).comp xh2).comp xh6).comp xh12) (fun _ _ h => h)) (by omega) (by omega) (by omega)).mono ?_
        rintro e wq17 ⟨pa, pc, rfl, pr, xh17⟩
        have hT4 : ∀ k, looks [(0, fun z => Ext no w7 z), (1, fun z => Ext no w7 z), (4, fun z => Ext no w7 z), (5, fun z => Ext no w7 z), (10, fun z => Ext no w7 z), (11, fun z => Ext no w7 z), (16, fun z => Ext no w7 z), (18, fun z => Rd z pa (bs (opEnc G))), (19, fun z => Ext no w7 z), (21, fun z => True)] k (wq17) := looks_all ⟨(((((Ext.drew no w7).comp xh2).comp xh6).comp xh12).comp xh17), (((((Ext.drew no w7).comp xh2).comp xh6).comp xh12).comp xh17), (((((Ext.drew no w7).comp xh2).comp xh6).comp xh12).comp xh17), (((((Ext.drew no w7).comp xh2).comp xh6).comp xh12).comp xh17), (((((Ext.drew no w7).comp xh2).comp xh6).comp xh12).comp xh17), (((((Ext.drew no w7).comp xh2).comp xh6).comp xh12).comp xh17), (((((Ext.drew no w7).comp xh2).comp xh6).comp xh12).comp xh17), pr, (((((Ext.drew no w7).comp xh2).comp xh6).comp xh12).comp xh17), trivial, trivial⟩
        refine hK _ _ (looks [(0, fun z => Ext no w7 z), (1, fun z => Ext no w7 z), (4, fun z => Ext no w7 z), (5, fun z => Ext no w7 z), (10, fun z => Ext no w7 z), (11, fun z => Ext no w7 z), (16, fun z => Ext no w7 z), (18, fun z => Rd z pa (bs (opEnc G))), (19, fun z => Ext no w7 z), (21, fun z => True)]) ⟨.inr (.inl (by kernel_rfl)), .inr (.inl (by kernel_rfl)), .inr (.inl (by kernel_rfl)), .inr (.inl (by kernel_rfl)), .inr (.inl (by kernel_rfl)), .inr (.inl (by kernel_rfl)), .inr (.inl (by kernel_rfl)), .inl (by kernel_rfl), .inr (.inr (fun x h => h)), .inl (by kernel_rfl), trivial⟩ hT4 ?_
        clear hK K
        try simp only [Act.put, List.setIfInBounds_toArray, List.set_cons_zero, List.set_cons_succ]
        refine wpF_look 18 (v := .string (str (opEnc G))) rfl rfl (by kernel_rfl) (by kernel_rfl) (by kernel_rfl) (by kernel_rfl) (fun _ _ _ h => h) hT4 (by rfl) (fun w hS => by have hS : Rd w pa (bs (opEnc G)) := hS; exact yields_string (by exact Try.underlying37) (by exact Try.underlying5) (by exact Try.underlying9) rfl rfl rfl hS) ?_
        simp only [Act.put, List.setIfInBounds_toArray, List.set_cons_zero, List.set_cons_succ]
        refine wpF_exec 20 rfl (by kernel_rfl) (by rfl) ?_
        intro K hK
        go_simp
        refine (opbytes_nil (wq17) O a3 c3 hO1 (hrO.ext (((((Ext.drew no w7).comp xh2).comp xh6).comp xh12).comp xh17) (fun _ _ h => h)) (by omega) (by omega) (by omega)).mono ?_
        rintro e wq20 ⟨qa, qc, rfl, qr, xh20⟩
        have hT5 : ∀ k, looks [(0, fun z => Ext no w7 z), (1, fun z => Ext no w7 z), (4, fun z => Ext no w7 z), (5, fun z => Ext no w7 z), (10, fun z => Ext no w7 z), (11, fun z => Ext no w7 z), (16, fun z => Ext no w7 z), (18, fun z => Rd z pa (bs (opEnc G))), (19, fun z => Ext no w7 z), (21, fun z => Rd z qa (bs (opEnc O)))] k (wq20) := looks_all ⟨((((((Ext.drew no w7).comp xh2).comp xh6).comp xh12).comp xh17).comp xh20), ((((((Ext.drew no w7).comp xh2).comp xh6).comp xh12).comp xh17).comp xh20), ((((((Ext.drew no w7).comp xh2).comp xh6).comp xh12).comp xh17).comp xh20), ((((((Ext.drew no w7).comp xh2).comp xh6).comp xh12).comp xh17).comp xh20), ((((((Ext.drew no w7).comp xh2).comp xh6).comp xh12).comp xh17).comp xh20), ((((((Ext.drew no w7).comp xh2).comp xh6).comp xh12).comp xh17).comp xh20), ((((((Ext.drew no w7).comp xh2).comp xh6).comp xh12).comp xh17).comp xh20), (pr.ext xh20 (fun _ _ h => h)), ((((((Ext.drew no w7).comp xh2).comp xh6).comp xh12).comp xh17).comp xh20), qr, trivial⟩
        refine hK _ _ (looks [(0, fun z => Ext no w7 z), (1, fun z => Ext no w7 z), (4, fun z => Ext no w7 z), (5, fun z => Ext no w7 z), (10, fun z => Ext no w7 z), (11, fun z => Ext no w7 z), (16, fun z => Ext no w7 z), (18, fun z => Rd z pa (bs (opEnc G))), (19, fun z => Ext no w7 z), (21, fun z => Rd z qa (bs (opEnc O)))]) ⟨.inr (.inl (by kernel_rfl)), .inr (.inl (by kernel_rfl)), .inr (.inl (by kernel_rfl)), .inr (.inl (by kernel_rfl)), .inr (.inl (by kernel_rfl)), .inr (.inl (by kernel_rfl)), .inr (.inl (by kernel_rfl)), .inr (.inr (fun x h => h)), .inr (.inl (by kernel_rfl)), .inl (by kernel_rfl), trivial⟩ hT5 ?_
        clear hK K
        try simp only [Act.put, List.setIfInBounds_toArray, List.set_cons_zero, List.set_cons_succ]
        refine wpF_look 21 (v := .string (str (opEnc O))) rfl rfl (by kernel_rfl) (by kernel_rfl) (by kernel_rfl) (by kernel_rfl) (fun _ _ _ h => h) hT5 (by rfl) (fun w hS => by have hS : Rd w qa (bs (opEnc O)) := hS; exact yields_string (by exact Try.underlying37) (by exact Try.underlying5) (by exact Try.underlying9) rfl rfl rfl hS) ?_
        simp only [Act.put, List.setIfInBounds_toArray, List.set_cons_zero, List.set_cons_succ]
        refine wpF_take 22 (v := .bool true) rfl (by kernel_rfl) (by kernel_rfl) (by kernel_rfl) (fun _ _ _ h => h) hT5 (by rfl) (by intro wq; have cs := beqStrF HN.out; go_simp) ?_
        simp only [Act.put, List.setIfInBounds_toArray, List.set_cons_zero, List.set_cons_succ]
        refine wpF_take 23 (v := ?_) rfl (by kernel_rfl) (by kernel_rfl) (by kernel_rfl) (fun _ _ _ h => h) hT5 (by rfl) ?_ ?_
        rotate_left
        · (intro wq; go_simp; try with_reducible rfl)
        simp only [Act.put, List.setIfInBounds_toArray, List.set_cons_zero, List.set_cons_succ]
        refine wpF_take 24 (v := ?_) rfl (by kernel_rfl) (by kernel_rfl) (by kernel_rfl) (fun _ _ _ h => h) hT5 (by rfl) ?_ ?_
        rotate_left
        · (intro wq; go_simp; try with_reducible rfl)
        simp only [Act.put, List.setIfInBounds_toArray, List.set_cons_zero, List.set_cons_succ]
        refine wpF_done (by kernel_rfl) ?_ _
        go_wp2_with fail
        go_ret
        exact ⟨rfl, hx7.comp ((((((Ext.drew no w7).comp xh2).comp xh6).comp xh12).comp xh17).comp xh20)⟩
        -->C
end Go.Proofs.Ytfelipkbbefhhaa
