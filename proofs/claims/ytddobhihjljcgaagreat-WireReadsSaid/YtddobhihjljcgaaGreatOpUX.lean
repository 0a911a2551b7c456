/- The texts OpU OpV OpP OpW OpX OpZ in one. -/
import Derived.Test.YtddobhihjljcgaaGreatMA
import Derived.Test.YtddobhihjljcgaaGreatOpBD
/- Walks: ints and Bytes of ops. -/
namespace Go.Esc
open Go.RowKit
def dotEnc (d : DotR) : List UInt8 := [d.dev, d.ep, d.seq].flatMap encI
def headEnc (o : OpR) : List UInt8 := [o.dot.dev, o.dot.ep, o.dot.seq, o.coll, o.ver, o.kind, o.time].flatMap encI
def opEnc (o : OpR) : List UInt8 := headEnc o ++ encT o.key ++ encT o.text ++ [o.n, (o.dots.length : Int)].flatMap encI ++ o.dots.flatMap dotEnc
theorem encs_len : ∀ (t : List Int), (∀ n ∈ t, I64ok n) → (t.flatMap encI).length ≤ 10 * t.length
 | [], _ => by simp
 | n :: t, h => by
  have h1 := (encI_length n (h n (by simp))).1
  have h2 := encs_len t (fun m hm => h m (by simp [hm]))
  rw [List.flatMap_cons, List.length_append, List.length_cons]
  omega
theorem encs_take (t : List Int) (j : Nat) (n : Int) (h : t[j]? = some n) : (t.take (j + 1)).flatMap encI = (t.take j).flatMap encI ++ encI n := by
 obtain ⟨h1, h2⟩ := List.getElem?_eq_some_iff.1 h
 rw [List.take_succ_eq_append_getElem h1, List.flatMap_append, h2]
 simp
theorem dots_take (l : List DotR) (j : Nat) (d : DotR) (h : l[j]? = some d) : (l.take (j + 1)).flatMap dotEnc = (l.take j).flatMap dotEnc ++ dotEnc d := by
 obtain ⟨h1, h2⟩ := List.getElem?_eq_some_iff.1 h
 rw [List.take_succ_eq_append_getElem h1, List.flatMap_append, h2]
 simp
theorem dotEnc_len (d : DotR) (h : d.ok) : (dotEnc d).length ≤ 30 := by
 have := encs_len [d.dev, d.ep, d.seq] (by intro n hn; simp at hn; rcases hn with rfl | rfl | rfl; exact h.1; exact h.2.1; exact h.2.2)
 simpa [dotEnc] using this
theorem dotsEnc_len : ∀ (l : List DotR), (∀ d ∈ l, d.ok) → (l.flatMap dotEnc).length ≤ 30 * l.length
 | [], _ => by simp
 | d :: l, h => by
  have h1 := dotEnc_len d (h d (by simp))
  have h2 := dotsEnc_len l (fun m hm => h m (by simp [hm]))
  rw [List.flatMap_cons, List.length_append, List.length_cons]
  omega
theorem headEnc_len (o : OpR) (h : o.ok) : (headEnc o).length ≤ 70 := by
 have := encs_len [o.dot.dev, o.dot.ep, o.dot.seq, o.coll, o.ver, o.kind, o.time] (by
  intro n hn
  simp at hn
  rcases hn with rfl | rfl | rfl | rfl | rfl | rfl | rfl
  ·exact h.dot.1
  ·exact h.dot.2.1
  ·exact h.dot.2.2
  ·exact h.coll
  ·exact h.ver
  ·exact h.kind
  ·exact h.time)
 simpa [headEnc] using this
end Go.Esc
namespace Go.Proofs.YtddobhihjljcgaaGreat
open Go.RowKit Go.Esc
set_option linter.unusedVariables false
set_option linter.unusedSimpArgs false
theorem opints_any (w : World) (a b : Option Addr) (c cb : Nat) (l : List UInt8) (t : List Int) (hra : Rd w a (bs l)) (hl : l.length ≤ 100000000) (hrd : Rd w b (is t)) (ht : t.length ≤ 1000) (hok : ∀ n ∈ t, I64ok n) :
  Calls Tryz.prog 95 #[.slice a l.length c, .slice b t.length cb] w fun e w' => ∃ a' c', e = .returned (.slice a' (l ++ t.flatMap encI).length c') ∧ Rd w' a' (bs (l ++ t.flatMap encI)) ∧ Ext no w w' := by
 go_enter Tryz.func95, Tryz.ntmps95
 go_wp2_with fail
 go_loopw [0, 6, 9] (fun s0 s6 s9 wr => ∃ (j : Nat) (M : List UInt8) (a' : Option Addr) (c' : Nat), j ≤ t.length ∧ s9 = .int .i64 j ∧ M = l ++ (t.take j).flatMap encI ∧ s0 = .slice a' M.length c' ∧ Rd wr a' (bs M) ∧ Ext no w wr) (fun _ _ s9 _ => t.length - (intOf s9).toNat)
 case atStart => exact ⟨0, l, a, c, by omega, rfl, by simp, rfl, hra, Ext.refl _ _⟩
 case round =>
  obtain ⟨j, M, a1, c1, hj, rfl, hM, rfl, hrm, hx⟩ := hrel
  have HM := Lib.hid hM
  have hMl : M.length ≤ 100000000 + 10 * 1000 := by
   rw [hM, List.length_append]
   have := encs_len (t.take j) (fun n hn => hok n (List.mem_of_mem_take hn))
   rw [List.length_take] at this
   omega
  clear hM
  by_cases hjl : j < t.length
  ·have d1 : decide (j < t.length) = true := decT hjl
   have hr := hrd.ext hx (fun _ _ h => h)
   obtain ⟨ab, ao, rfl, _⟩ := hr.shape (by rw [is_length]; omega)
   have q0 : wr.cell? ⟨ab, ao + j, none⟩ = some (.int .i64 t[j]) := by
    have := hr.lookup j (by rw [is_length]; exact hjl)
    simpa [is, I64] using this
   have hn := hok t[j] (List.getElem_mem hjl)
   have HT := Lib.hid (encs_take t j t[j] (List.getElem?_eq_getElem hjl))
   generalize t[j] = n at *
   go_wp2_with fail
   refine (int_any wr a1 c1 M n hrm (by omega) hn).mono ?_
   rintro e w2 ⟨a2, c2, rfl, ho2, hx2⟩
   obtain ⟨M2, hM2⟩ : ∃ M2, M2 = M ++ encI n := ⟨_, rfl⟩
   rw [← hM2] at ho2 ⊢
   have HM2 := Lib.hid hM2
   clear hM2
   go_wp2_with fail
   go_roundw
   case rel => exact ⟨j + 1, M2, a2, c2, by omega, by go_num, by rw [HM2.out, HT.out, HM.out, List.append_assoc], rfl, ho2.rd, hx.comp hx2⟩
   case measure => simp [intOf]; omega
  ·have d1 : decide (j < t.length) = false := decF hjl
   have HE := Lib.hid (show l ++ t.flatMap encI = M by rw [HM.out, List.take_of_length_le (by omega)])
   go_wp2_with fail
   go_ret
   exact ⟨a1, c1, by rw [HE.out]; rfl, by rw [HE.out]; exact hrm, hx⟩
set_option maxRecDepth 100000 in
set_option maxHeartbeats 4000000 in
theorem opbytes_any (w : World) (o : OpR) (a ba : Option Addr) (c bc : Nat) (b : List UInt8) (hok : o.ok) (hr : Rd w a (ds o.dots)) (hdl : o.dots.length ≤ 1000) (hkl : o.key.length ≤ 1000) (htl : o.text.length ≤ 1000) (hb : Rd w ba (bs b)) (hbl : b.length ≤ 10000000) :
  Calls Tryz.prog 76 #[.slice ba b.length bc, o.v a c] w fun e w' => ∃ a' c', e = .returned (.slice a' (b ++ opEnc o).length c') ∧ Rd w' a' (bs (b ++ opEnc o)) ∧ Ext no w w' := by
 go_enter Tryz.func76, Tryz.ntmps76
 unfold OpR.v
 go_upto_region 1 with fail
 have hb0 := Blk.lit w #[.int .i64 o.dot.dev, .int .i64 o.dot.ep, .int .i64 o.dot.seq, .int .i64 o.coll, .int .i64 o.ver, .int .i64 o.kind, .string (str o.key), .string (str o.text), .int .i64 o.n, .int .i64 o.time, .slice a o.dots.length c] 62
 have hx := Ext.alloc no w (.cells #[.int .i64 o.dot.dev, .int .i64 o.dot.ep, .int .i64 o.dot.seq, .int .i64 o.coll, .int .i64 o.ver, .int .i64 o.kind, .string (str o.key), .string (str o.text), .int .i64 o.n, .int .i64 o.time, .slice a o.dots.length c] 62)
 generalize w.alloc (.cells #[.int .i64 o.dot.dev, .int .i64 o.dot.ep, .int .i64 o.dot.seq, .int .i64 o.coll, .int .i64 o.ver, .int .i64 o.kind, .string (str o.key), .string (str o.text), .int .i64 o.n, .int .i64 o.time, .slice a o.dots.length c] 62) = w1 at *
 have hr1 := hr.ext hx (fun _ _ h => h)
 have hb1 := hb.ext hx (fun _ _ h => h)
 clear hb
 have b0 := hb0.cell 0 _ rfl
 have b1 := hb0.cell 1 _ rfl
 have b2 := hb0.cell 2 _ rfl
 have b3 := hb0.cell 3 _ rfl
 have b4 := hb0.cell 4 _ rfl
 have b5 := hb0.cell 5 _ rfl
 have b6 := hb0.cell 6 _ rfl
 have b7 := hb0.cell 7 _ rfl
 have b8 := hb0.cell 8 _ rfl
 have b9 := hb0.cell 9 _ rfl
 have b10 := hb0.cell 10 _ rfl
 have hg := hb0.lt (by simp)
 generalize w.heap.size = g at hb0 hg b0 b1 b2 b3 b4 b5 b6 b7 b8 b9 b10 ⊢
 go_wp2_with fail
 refine (opints_any _ ba (some ⟨w1.heap.size, 0, none⟩) bc 7 b [o.dot.dev, o.dot.ep, o.dot.seq, o.coll, o.ver, o.kind, o.time] (hb1.alloc _) (by omega) (Rd.lit w1 _ _ _) (by simp) (by
  intro n hn
  simp at hn
  rcases hn with rfl | rfl | rfl | rfl | rfl | rfl | rfl
  ·exact hok.dot.1
  ·exact hok.dot.2.1
  ·exact hok.dot.2.2
  ·exact hok.coll
  ·exact hok.ver
  ·exact hok.kind
  ·exact hok.time)).mono ?_
 rintro e w2 ⟨a2, c2, rfl, hr2, hx2⟩
 have hx12 := (Ext.alloc no w1 _).comp hx2
 have hhl := headEnc_len o hok
 obtain ⟨L1, hL1⟩ : ∃ L1, L1 = b ++ [o.dot.dev, o.dot.ep, o.dot.seq, o.coll, o.ver, o.kind, o.time].flatMap encI := ⟨_, rfl⟩
 rw [← hL1] at hr2 ⊢
 have hL1' : L1 = b ++ headEnc o := hL1
 have hl1 : L1.length ≤ 10000070 := by rw [hL1', List.length_append]; omega
 have HL1 := Lib.hid hL1'
 clear hL1 hL1' hx2 hb1
 have hb2 := hb0.ext (by simp) hx12 (fun h => h)
 have hr3 := hr1.ext hx12 (fun _ _ h => h)
 replace hx := hx.comp hx12
 clear b0 b1 b2 b3 b4 b5 b6 b7 b8 b9 b10 hb0 hx12 hr1
 have b6 := hb2.cell 6 _ rfl
 have b7 := hb2.cell 7 _ rfl
 have b8 := hb2.cell 8 _ rfl
 have b10 := hb2.cell 10 _ rfl
 go_upto_region 2 with fail
 go_cut [0] (fun s0 wx => ∃ (M : List UInt8) (a' : Option Addr) (c' : Nat), s0 = .slice a' M.length c' ∧ M = L1 ++ encT o.key ++ encT o.text ++ [o.n, (o.dots.length : Int)].flatMap encI ∧ Rd wx a' (bs M) ∧ Ext no w2 wx)
 case first =>
  --<A
  refine wp_region_F [2, 5, 8, 10] (looks [(2, fun z => Ext no w2 z), (5, fun z => Ext no w2 z), (8, fun z => Ext no w2 z), (10, fun z => Ext no w2 z)]) (by kernel_rfl) ?_
  have hT0 : ∀ k, looks [(2, fun z => Ext no w2 z), (5, fun z => Ext no w2 z), (8, fun z => Ext no w2 z), (10, fun z => Ext no w2 z)] k (w2.drew) := looks_all ⟨(Ext.drew no w2), (Ext.drew no w2), (Ext.drew no w2), (Ext.drew no w2), trivial⟩
  refine wpF_tk 0 (v := ?_) rfl hT0 (by rfl) ?_ ?_
  rotate_left
  ·(intro wq; go_simp; try with_reducible rfl)
  simp only [pz]
  refine wpF_tk 1 (v := ?_) rfl hT0 (by rfl) ?_ ?_
  rotate_left
  ·(intro wq; go_simp; try with_reducible rfl)
  simp only [pz]
  refine wpF_lk 2 (v := .string (str o.key)) rfl hT0 (by rfl) (fun w hS => by have hS : Ext no w2 w := hS; have q := hS.keeps b6 (fun h => h); go_simp) ?_
  simp only [pz]
  refine wpF_tk 4 (v := ?_) rfl hT0 (by rfl) ?_ ?_
  rotate_left
  ·(intro wq; go_simp; try with_reducible rfl)
  simp only [pz]
  refine wpF_lk 5 (v := .string (str o.text)) rfl hT0 (by rfl) (fun w hS => by have hS : Ext no w2 w := hS; have q := hS.keeps b7 (fun h => h); go_simp) ?_
  simp only [pz]
  refine wpF_tk 7 (v := ?_) rfl hT0 (by rfl) ?_ ?_
  rotate_left
  ·(intro wq; go_simp; try with_reducible rfl)
  simp only [pz]
  refine wpF_lk 8 (v := .int .i64 o.n) rfl hT0 (by rfl) (fun w hS => by have hS : Ext no w2 w := hS; have q := hS.keeps b8 (fun h => h); go_simp) ?_
  simp only [pz]
  refine wpF_tk 9 (v := ?_) rfl hT0 (by rfl) ?_ ?_
  rotate_left
  ·(intro wq; go_simp; try with_reducible rfl)
  simp only [pz]
  refine wpF_lk 10 (v := .slice a o.dots.length c) rfl hT0 (by rfl) (fun w hS => by have hS : Ext no w2 w := hS; have q := hS.keeps b10 (fun h => h); go_simp) ?_
  simp only [pz]
  refine wpF_tk 11 (v := ?_) rfl hT0 (by rfl) ?_ ?_
  rotate_left
  ·(intro wq; go_simp; try with_reducible rfl)
  simp only [pz]
  refine wpF_execs [3, 12] (by kernel_rfl) (by simp) ?_
  intro j hj
  simp only [List.mem_cons, List.not_mem_nil, or_false] at hj
  rcases hj with rfl | rfl
  ·refine ⟨_, rfl, by rfl, ?_⟩
   intro K hK
   go_simp
   refine (text_any (w2.drew) a2 c2 L1 o.key (hr2.ext (Ext.drew no w2) (fun _ _ h => h)) (by omega) (by omega)).mono ?_
   rintro e wa ⟨aa, ca, rfl, hoa, hxa⟩
   obtain ⟨LA, hLA⟩ : ∃ LA, LA = L1 ++ encT o.key := ⟨_, rfl⟩
   rw [← hLA] at hoa ⊢
   have hLAl : LA.length ≤ 10001080 := by rw [hLA, List.length_append]; have := (encI_length (o.key.length : Int) ⟨by omega, by omega⟩).1; unfold encT; rw [List.length_append]; omega
   have HLA := Lib.hid hLA
   clear hLA
   have hT1 : ∀ k, looks [(2, fun z => Ext no w2 z), (5, fun z => Ext no w2 z), (8, fun z => Ext no w2 z), (10, fun z => Ext no w2 z)] k (wa) := looks_all ⟨((Ext.drew no w2).comp hxa), ((Ext.drew no w2).comp hxa), ((Ext.drew no w2).comp hxa), ((Ext.drew no w2).comp hxa), trivial⟩
   refine hK _ _ (looks [(2, fun z => Ext no w2 z), (5, fun z => Ext no w2 z), (8, fun z => Ext no w2 z), (10, fun z => Ext no w2 z)]) ⟨.inr (.inl (by kernel_rfl)), .inr (.inr (fun x h => h)), .inr (.inr (fun x h => h)), .inr (.inr (fun x h => h)), trivial⟩ hT1 ?_
   clear hK K
   try simp only [pz]
   refine wpF_execs [6, 12] (by kernel_rfl) (by simp) ?_
   intro j hj
   simp only [List.mem_cons, List.not_mem_nil, or_false] at hj
   rcases hj with rfl | rfl
   ·refine ⟨_, rfl, by rfl, ?_⟩
    intro K hK
    go_simp
    refine (text_any (wa) aa ca LA o.text (hoa.rd.ext (Ext.refl no wa) (fun _ _ h => h)) (by omega) (by omega)).mono ?_
    rintro e wb ⟨ab, cb, rfl, hob, hxb⟩
    obtain ⟨LB, hLB⟩ : ∃ LB, LB = LA ++ encT o.text := ⟨_, rfl⟩
    rw [← hLB] at hob ⊢
    have hLBl : LB.length ≤ 10003000 := by rw [hLB, List.length_append]; have := (encI_length (o.text.length : Int) ⟨by omega, by omega⟩).1; unfold encT; rw [List.length_append]; omega
    have HLB := Lib.hid hLB
    clear hLB
    have hT2 : ∀ k, looks [(2, fun z => Ext no w2 z), (5, fun z => Ext no w2 z), (8, fun z => Ext no w2 z), (10, fun z => Ext no w2 z)] k (wb) := looks_all ⟨(((Ext.drew no w2).comp hxa).comp hxb), (((Ext.drew no w2).comp hxa).comp hxb), (((Ext.drew no w2).comp hxa).comp hxb), (((Ext.drew no w2).comp hxa).comp hxb), trivial⟩
    refine hK _ _ (looks [(2, fun z => Ext no w2 z), (5, fun z => Ext no w2 z), (8, fun z => Ext no w2 z), (10, fun z => Ext no w2 z)]) ⟨.inr (.inl (by kernel_rfl)), .inr (.inl (by kernel_rfl)), .inr (.inr (fun x h => h)), .inr (.inr (fun x h => h)), trivial⟩ hT2 ?_
    clear hK K
    try simp only [pz]
    refine wpF_exec 12 rfl (by kernel_rfl) (by rfl) ?_
    intro K hK
    go_simp
    have hT3 : ∀ k, looks [(2, fun z => Ext no w2 z), (5, fun z => Ext no w2 z), (8, fun z => Ext no w2 z), (10, fun z => Ext no w2 z)] k (((wb).alloc (.cells #[.int .i64 o.n, .int .i64 (o.dots.length : Int)] 3))) := looks_all ⟨((((Ext.drew no w2).comp hxa).comp hxb).comp (Ext.alloc no _ (.cells #[.int .i64 o.n, .int .i64 (o.dots.length : Int)] 3))), ((((Ext.drew no w2).comp hxa).comp hxb).comp (Ext.alloc no _ (.cells #[.int .i64 o.n, .int .i64 (o.dots.length : Int)] 3))), ((((Ext.drew no w2).comp hxa).comp hxb).comp (Ext.alloc no _ (.cells #[.int .i64 o.n, .int .i64 (o.dots.length : Int)] 3))), ((((Ext.drew no w2).comp hxa).comp hxb).comp (Ext.alloc no _ (.cells #[.int .i64 o.n, .int .i64 (o.dots.length : Int)] 3))), trivial⟩
    refine hK _ _ (looks [(2, fun z => Ext no w2 z), (5, fun z => Ext no w2 z), (8, fun z => Ext no w2 z), (10, fun z => Ext no w2 z)]) ⟨.inr (.inr (fun x h => h)), .inr (.inr (fun x h => h)), .inr (.inl (by kernel_rfl)), .inr (.inl (by kernel_rfl)), trivial⟩ hT3 ?_
    clear hK K
    try simp only [pz]
    refine wpF_exec 13 rfl (by kernel_rfl) (by rfl) ?_
    intro K hK
    go_simp
    refine (opints_any (((wb).alloc (.cells #[.int .i64 o.n, .int .i64 (o.dots.length : Int)] 3))) ab (some ⟨wb.heap.size, 0, none⟩) cb 2 LB [o.n, (o.dots.length : Int)] (hob.rd.ext ((Ext.refl no wb).comp (Ext.alloc no _ (.cells #[.int .i64 o.n, .int .i64 (o.dots.length : Int)] 3))) (fun _ _ h => h)) (by omega) (Rd.lit (wb) _ _ _) (by simp) (by intro n hn; simp at hn; rcases hn with rfl | rfl; exact hok.n; exact ⟨by omega, by omega⟩)).mono ?_
    rintro e wd ⟨ad, cd, rfl, hrd, hxd⟩
    obtain ⟨LD, hLD⟩ : ∃ LD, LD = LB ++ [o.n, (o.dots.length : Int)].flatMap encI := ⟨_, rfl⟩
    rw [← hLD] at hrd ⊢
    have HLD := Lib.hid hLD
    clear hLD
    have hT4 : ∀ k, looks [(2, fun z => Ext no w2 z), (5, fun z => Ext no w2 z), (8, fun z => Ext no w2 z), (10, fun z => Ext no w2 z)] k (wd) := looks_all ⟨(((((Ext.drew no w2).comp hxa).comp hxb).comp (Ext.alloc no _ (.cells #[.int .i64 o.n, .int .i64 (o.dots.length : Int)] 3))).comp hxd), (((((Ext.drew no w2).comp hxa).comp hxb).comp (Ext.alloc no _ (.cells #[.int .i64 o.n, .int .i64 (o.dots.length : Int)] 3))).comp hxd), (((((Ext.drew no w2).comp hxa).comp hxb).comp (Ext.alloc no _ (.cells #[.int .i64 o.n, .int .i64 (o.dots.length : Int)] 3))).comp hxd), (((((Ext.drew no w2).comp hxa).comp hxb).comp (Ext.alloc no _ (.cells #[.int .i64 o.n, .int .i64 (o.dots.length : Int)] 3))).comp hxd), trivial⟩
    refine hK _ _ (looks [(2, fun z => Ext no w2 z), (5, fun z => Ext no w2 z), (8, fun z => Ext no w2 z), (10, fun z => Ext no w2 z)]) ⟨.inr (.inl (by kernel_rfl)), .inr (.inl (by kernel_rfl)), .inr (.inl (by kernel_rfl)), .inr (.inl (by kernel_rfl)), trivial⟩ hT4 ?_
    clear hK K
    try simp only [pz]
    refine wpF_tk 14 (v := ?_) rfl hT4 (by rfl) ?_ ?_
    rotate_left
    ·(intro wq; go_simp; try with_reducible rfl)
    simp only [pz]
    refine wpF_done (by kernel_rfl) ?_ _
    go_wp2_with fail
    go_meet
    exact ⟨LD, ad, cd, rfl, by rw [HLD.out, HLB.out, HLA.out], hrd, (((((Ext.drew no w2).comp hxa).comp hxb).comp (Ext.alloc no _ (.cells #[.int .i64 o.n, .int .i64 (o.dots.length : Int)] 3))).comp hxd)⟩
   ·refine ⟨_, rfl, by rfl, ?_⟩
    intro K hK
    go_simp
    have hT2 : ∀ k, looks [(2, fun z => Ext no w2 z), (5, fun z => Ext no w2 z), (8, fun z => Ext no w2 z), (10, fun z => Ext no w2 z)] k (((wa).alloc (.cells #[.int .i64 o.n, .int .i64 (o.dots.length : Int)] 3))) := looks_all ⟨(((Ext.drew no w2).comp hxa).comp (Ext.alloc no _ (.cells #[.int .i64 o.n, .int .i64 (o.dots.length : Int)] 3))), (((Ext.drew no w2).comp hxa).comp (Ext.alloc no _ (.cells #[.int .i64 o.n, .int .i64 (o.dots.length : Int)] 3))), (((Ext.drew no w2).comp hxa).comp (Ext.alloc no _ (.cells #[.int .i64 o.n, .int .i64 (o.dots.length : Int)] 3))), (((Ext.drew no w2).comp hxa).comp (Ext.alloc no _ (.cells #[.int .i64 o.n, .int .i64 (o.dots.length : Int)] 3))), trivial⟩
    refine hK _ _ (looks [(2, fun z => Ext no w2 z), (5, fun z => Ext no w2 z), (8, fun z => Ext no w2 z), (10, fun z => Ext no w2 z)]) ⟨.inr (.inr (fun x h => h)), .inr (.inr (fun x h => h)), .inr (.inl (by kernel_rfl)), .inr (.inl (by kernel_rfl)), trivial⟩ hT2 ?_
    clear hK K
    try simp only [pz]
    refine wpF_exec 6 rfl (by kernel_rfl) (by rfl) ?_
    intro K hK
    go_simp
    refine (text_any (((wa).alloc (.cells #[.int .i64 o.n, .int .i64 (o.dots.length : Int)] 3))) aa ca LA o.text (hoa.rd.ext ((Ext.refl no wa).comp (Ext.alloc no _ (.cells #[.int .i64 o.n, .int .i64 (o.dots.length : Int)] 3))) (fun _ _ h => h)) (by omega) (by omega)).mono ?_
    rintro e wb ⟨ab, cb, rfl, hob, hxb⟩
    obtain ⟨LB, hLB⟩ : ∃ LB, LB = LA ++ encT o.text := ⟨_, rfl⟩
    rw [← hLB] at hob ⊢
    have hLBl : LB.length ≤ 10003000 := by rw [hLB, List.length_append]; have := (encI_length (o.text.length : Int) ⟨by omega, by omega⟩).1; unfold encT; rw [List.length_append]; omega
    have HLB := Lib.hid hLB
    clear hLB
    have hT3 : ∀ k, looks [(2, fun z => Ext no w2 z), (5, fun z => Ext no w2 z), (8, fun z => Ext no w2 z), (10, fun z => Ext no w2 z)] k (wb) := looks_all ⟨((((Ext.drew no w2).comp hxa).comp (Ext.alloc no _ (.cells #[.int .i64 o.n, .int .i64 (o.dots.length : Int)] 3))).comp hxb), ((((Ext.drew no w2).comp hxa).comp (Ext.alloc no _ (.cells #[.int .i64 o.n, .int .i64 (o.dots.length : Int)] 3))).comp hxb), ((((Ext.drew no w2).comp hxa).comp (Ext.alloc no _ (.cells #[.int .i64 o.n, .int .i64 (o.dots.length : Int)] 3))).comp hxb), ((((Ext.drew no w2).comp hxa).comp (Ext.alloc no _ (.cells #[.int .i64 o.n, .int .i64 (o.dots.length : Int)] 3))).comp hxb), trivial⟩
    refine hK _ _ (looks [(2, fun z => Ext no w2 z), (5, fun z => Ext no w2 z), (8, fun z => Ext no w2 z), (10, fun z => Ext no w2 z)]) ⟨.inr (.inl (by kernel_rfl)), .inr (.inl (by kernel_rfl)), .inr (.inr (fun x h => h)), .inr (.inr (fun x h => h)), trivial⟩ hT3 ?_
    clear hK K
    try simp only [pz]
    refine wpF_exec 13 rfl (by kernel_rfl) (by rfl) ?_
    intro K hK
    go_simp
    refine (opints_any (wb) ab (some ⟨wa.heap.size, 0, none⟩) cb 2 LB [o.n, (o.dots.length : Int)] (hob.rd.ext (Ext.refl no wb) (fun _ _ h => h)) (by omega) ((Rd.lit (wa) _ _ _).ext hxb (fun _ _ h => h)) (by simp) (by intro n hn; simp at hn; rcases hn with rfl | rfl; exact hok.n; exact ⟨by omega, by omega⟩)).mono ?_
    rintro e wd ⟨ad, cd, rfl, hrd, hxd⟩
    obtain ⟨LD, hLD⟩ : ∃ LD, LD = LB ++ [o.n, (o.dots.length : Int)].flatMap encI := ⟨_, rfl⟩
    rw [← hLD] at hrd ⊢
    have HLD := Lib.hid hLD
    clear hLD
    have hT4 : ∀ k, looks [(2, fun z => Ext no w2 z), (5, fun z => Ext no w2 z), (8, fun z => Ext no w2 z), (10, fun z => Ext no w2 z)] k (wd) := looks_all ⟨(((((Ext.drew no w2).comp hxa).comp (Ext.alloc no _ (.cells #[.int .i64 o.n, .int .i64 (o.dots.length : Int)] 3))).comp hxb).comp hxd), (((((Ext.drew no w2).comp hxa).comp (Ext.alloc no _ (.cells #[.int .i64 o.n, .int .i64 (o.dots.length : Int)] 3))).comp hxb).comp hxd), (((((Ext.drew no w2).comp hxa).comp (Ext.alloc no _ (.cells #[.int .i64 o.n, .int .i64 (o.dots.length : Int)] 3))).comp hxb).comp hxd), (((((Ext.drew no w2).comp hxa).comp (Ext.alloc no _ (.cells #[.int .i64 o.n, .int .i64 (o.dots.length : Int)] 3))).comp hxb).comp hxd), trivial⟩
    refine hK _ _ (looks [(2, fun z => Ext no w2 z), (5, fun z => Ext no w2 z), (8, fun z => Ext no w2 z), (10, fun z => Ext no w2 z)]) ⟨.inr (.inl (by kernel_rfl)), .inr (.inl (by kernel_rfl)), .inr (.inl (by kernel_rfl)), .inr (.inl (by kernel_rfl)), trivial⟩ hT4 ?_
    clear hK K
    try simp only [pz]
    refine wpF_tk 14 (v := ?_) rfl hT4 (by rfl) ?_ ?_
    rotate_left
    ·(intro wq; go_simp; try with_reducible rfl)
    simp only [pz]
    refine wpF_done (by kernel_rfl) ?_ _
    go_wp2_with fail
    go_meet
    exact ⟨LD, ad, cd, rfl, by rw [HLD.out, HLB.out, HLA.out], hrd, (((((Ext.drew no w2).comp hxa).comp (Ext.alloc no _ (.cells #[.int .i64 o.n, .int .i64 (o.dots.length : Int)] 3))).comp hxb).comp hxd)⟩
  ·refine ⟨_, rfl, by rfl, ?_⟩
   intro K hK
   go_simp
   have hT1 : ∀ k, looks [(2, fun z => Ext no w2 z), (5, fun z => Ext no w2 z), (8, fun z => Ext no w2 z), (10, fun z => Ext no w2 z)] k (((w2.drew).alloc (.cells #[.int .i64 o.n, .int .i64 (o.dots.length : Int)] 3))) := looks_all ⟨((Ext.drew no w2).comp (Ext.alloc no _ (.cells #[.int .i64 o.n, .int .i64 (o.dots.length : Int)] 3))), ((Ext.drew no w2).comp (Ext.alloc no _ (.cells #[.int .i64 o.n, .int .i64 (o.dots.length : Int)] 3))), ((Ext.drew no w2).comp (Ext.alloc no _ (.cells #[.int .i64 o.n, .int .i64 (o.dots.length : Int)] 3))), ((Ext.drew no w2).comp (Ext.alloc no _ (.cells #[.int .i64 o.n, .int .i64 (o.dots.length : Int)] 3))), trivial⟩
   refine hK _ _ (looks [(2, fun z => Ext no w2 z), (5, fun z => Ext no w2 z), (8, fun z => Ext no w2 z), (10, fun z => Ext no w2 z)]) ⟨.inr (.inr (fun x h => h)), .inr (.inr (fun x h => h)), .inr (.inl (by kernel_rfl)), .inr (.inl (by kernel_rfl)), trivial⟩ hT1 ?_
   clear hK K
   try simp only [pz]
   refine wpF_exec 3 rfl (by kernel_rfl) (by rfl) ?_
   intro K hK
   go_simp
   refine (text_any (((w2.drew).alloc (.cells #[.int .i64 o.n, .int .i64 (o.dots.length : Int)] 3))) a2 c2 L1 o.key (hr2.ext ((Ext.drew no w2).comp (Ext.alloc no _ (.cells #[.int .i64 o.n, .int .i64 (o.dots.length : Int)] 3))) (fun _ _ h => h)) (by omega) (by omega)).mono ?_
   rintro e wa ⟨aa, ca, rfl, hoa, hxa⟩
   obtain ⟨LA, hLA⟩ : ∃ LA, LA = L1 ++ encT o.key := ⟨_, rfl⟩
   rw [← hLA] at hoa ⊢
   have hLAl : LA.length ≤ 10001080 := by rw [hLA, List.length_append]; have := (encI_length (o.key.length : Int) ⟨by omega, by omega⟩).1; unfold encT; rw [List.length_append]; omega
   have HLA := Lib.hid hLA
   clear hLA
   have hT2 : ∀ k, looks [(2, fun z => Ext no w2 z), (5, fun z => Ext no w2 z), (8, fun z => Ext no w2 z), (10, fun z => Ext no w2 z)] k (wa) := looks_all ⟨(((Ext.drew no w2).comp (Ext.alloc no _ (.cells #[.int .i64 o.n, .int .i64 (o.dots.length : Int)] 3))).comp hxa), (((Ext.drew no w2).comp (Ext.alloc no _ (.cells #[.int .i64 o.n, .int .i64 (o.dots.length : Int)] 3))).comp hxa), (((Ext.drew no w2).comp (Ext.alloc no _ (.cells #[.int .i64 o.n, .int .i64 (o.dots.length : Int)] 3))).comp hxa), (((Ext.drew no w2).comp (Ext.alloc no _ (.cells #[.int .i64 o.n, .int .i64 (o.dots.length : Int)] 3))).comp hxa), trivial⟩
   refine hK _ _ (looks [(2, fun z => Ext no w2 z), (5, fun z => Ext no w2 z), (8, fun z => Ext no w2 z), (10, fun z => Ext no w2 z)]) ⟨.inr (.inl (by kernel_rfl)), .inr (.inr (fun x h => h)), .inr (.inr (fun x h => h)), .inr (.inr (fun x h => h)), trivial⟩ hT2 ?_
   clear hK K
   try simp only [pz]
   refine wpF_exec 6 rfl (by kernel_rfl) (by rfl) ?_
   intro K hK
   go_simp
   refine (text_any (wa) aa ca LA o.text (hoa.rd.ext (Ext.refl no wa) (fun _ _ h => h)) (by omega) (by omega)).mono ?_
   rintro e wb ⟨ab, cb, rfl, hob, hxb⟩
   obtain ⟨LB, hLB⟩ : ∃ LB, LB = LA ++ encT o.text := ⟨_, rfl⟩
   rw [← hLB] at hob ⊢
   have hLBl : LB.length ≤ 10003000 := by rw [hLB, List.length_append]; have := (encI_length (o.text.length : Int) ⟨by omega, by omega⟩).1; unfold encT; rw [List.length_append]; omega
   have HLB := Lib.hid hLB
   clear hLB
   have hT3 : ∀ k, looks [(2, fun z => Ext no w2 z), (5, fun z => Ext no w2 z), (8, fun z => Ext no w2 z), (10, fun z => Ext no w2 z)] k (wb) := looks_all ⟨((((Ext.drew no w2).comp (Ext.alloc no _ (.cells #[.int .i64 o.n, .int .i64 (o.dots.length : Int)] 3))).comp hxa).comp hxb), ((((Ext.drew no w2).comp (Ext.alloc no _ (.cells #[.int .i64 o.n, .int .i64 (o.dots.length : Int)] 3))).comp hxa).comp hxb), ((((Ext.drew no w2).comp (Ext.alloc no _ (.cells #[.int .i64 o.n, .int .i64 (o.dots.length : Int)] 3))).comp hxa).comp hxb), ((((Ext.drew no w2).comp (Ext.alloc no _ (.cells #[.int .i64 o.n, .int .i64 (o.dots.length : Int)] 3))).comp hxa).comp hxb), trivial⟩
   refine hK _ _ (looks [(2, fun z => Ext no w2 z), (5, fun z => Ext no w2 z), (8, fun z => Ext no w2 z), (10, fun z => Ext no w2 z)]) ⟨.inr (.inl (by kernel_rfl)), .inr (.inl (by kernel_rfl)), .inr (.inr (fun x h => h)), .inr (.inr (fun x h => h)), trivial⟩ hT3 ?_
   clear hK K
   try simp only [pz]
   refine wpF_exec 13 rfl (by kernel_rfl) (by rfl) ?_
   intro K hK
   go_simp
   refine (opints_any (wb) ab (some ⟨w2.heap.size, 0, none⟩) cb 2 LB [o.n, (o.dots.length : Int)] (hob.rd.ext (Ext.refl no wb) (fun _ _ h => h)) (by omega) (((Rd.lit (w2.drew) _ _ _).ext hxa (fun _ _ h => h)).ext hxb (fun _ _ h => h)) (by simp) (by intro n hn; simp at hn; rcases hn with rfl | rfl; exact hok.n; exact ⟨by omega, by omega⟩)).mono ?_
   rintro e wd ⟨ad, cd, rfl, hrd, hxd⟩
   obtain ⟨LD, hLD⟩ : ∃ LD, LD = LB ++ [o.n, (o.dots.length : Int)].flatMap encI := ⟨_, rfl⟩
   rw [← hLD] at hrd ⊢
   have HLD := Lib.hid hLD
   clear hLD
   have hT4 : ∀ k, looks [(2, fun z => Ext no w2 z), (5, fun z => Ext no w2 z), (8, fun z => Ext no w2 z), (10, fun z => Ext no w2 z)] k (wd) := looks_all ⟨(((((Ext.drew no w2).comp (Ext.alloc no _ (.cells #[.int .i64 o.n, .int .i64 (o.dots.length : Int)] 3))).comp hxa).comp hxb).comp hxd), (((((Ext.drew no w2).comp (Ext.alloc no _ (.cells #[.int .i64 o.n, .int .i64 (o.dots.length : Int)] 3))).comp hxa).comp hxb).comp hxd), (((((Ext.drew no w2).comp (Ext.alloc no _ (.cells #[.int .i64 o.n, .int .i64 (o.dots.length : Int)] 3))).comp hxa).comp hxb).comp hxd), (((((Ext.drew no w2).comp (Ext.alloc no _ (.cells #[.int .i64 o.n, .int .i64 (o.dots.length : Int)] 3))).comp hxa).comp hxb).comp hxd), trivial⟩
   refine hK _ _ (looks [(2, fun z => Ext no w2 z), (5, fun z => Ext no w2 z), (8, fun z => Ext no w2 z), (10, fun z => Ext no w2 z)]) ⟨.inr (.inl (by kernel_rfl)), .inr (.inl (by kernel_rfl)), .inr (.inl (by kernel_rfl)), .inr (.inl (by kernel_rfl)), trivial⟩ hT4 ?_
   clear hK K
   try simp only [pz]
   refine wpF_tk 14 (v := ?_) rfl hT4 (by rfl) ?_ ?_
   rotate_left
   ·(intro wq; go_simp; try with_reducible rfl)
   simp only [pz]
   refine wpF_done (by kernel_rfl) ?_ _
   go_wp2_with fail
   go_meet
   exact ⟨LD, ad, cd, rfl, by rw [HLD.out, HLB.out, HLA.out], hrd, (((((Ext.drew no w2).comp (Ext.alloc no _ (.cells #[.int .i64 o.n, .int .i64 (o.dots.length : Int)] 3))).comp hxa).comp hxb).comp hxd)⟩
  -->A
 case rest =>
  obtain ⟨M, a3, c3, e0, hM, hrm, hx3⟩ := hcut
  subst e0
  generalize wc = w3 at *
  have hMl : M.length ≤ 10010000 := by
   rw [hM]
   have h1 := (encI_length (o.key.length : Int) ⟨by omega, by omega⟩).1
   have h2 := (encI_length (o.text.length : Int) ⟨by omega, by omega⟩).1
   have h3 := encs_len [o.n, (o.dots.length : Int)] (by intro n hn; simp at hn; rcases hn with rfl | rfl; exact hok.n; exact ⟨by omega, by omega⟩)
   unfold encT
   simp only [List.length_append]
   simp only [List.length_cons, List.length_nil] at h3
   omega
  have HM := Lib.hid hM
  clear hM
  have hb3 := hb2.ext (by simp) hx3 (fun h => h)
  replace hx := hx.comp hx3
  have c10 := hb3.cell 10 _ rfl
  clear b6 b7 b8 b10 hb2 hr3 hx3 hr2
  go_wp2_with fail
  go_loopw [0, 6, 44] (fun s0 s6 s44 wr => ∃ (j : Nat) (M2 : List UInt8) (a' : Option Addr) (c' : Nat), j ≤ o.dots.length ∧ s44 = .int .i64 j ∧ M2 = M ++ (o.dots.take j).flatMap dotEnc ∧ s0 = .slice a' M2.length c' ∧ Rd wr a' (bs M2) ∧ Ext no w3 wr) (fun _ _ s44 _ => o.dots.length - (intOf s44).toNat)
  case atStart => exact ⟨0, M, a3, c3, by omega, rfl, by simp, rfl, hrm, Ext.refl _ _⟩
  case round =>
   obtain ⟨j, M2, a4, c4, hj, rfl, hM2, rfl, hrm2, hxr⟩ := hrel
   have hM2l : M2.length ≤ 10010000 + 30 * 1000 := by
    rw [hM2, List.length_append]
    have := dotsEnc_len (o.dots.take j) (fun n hn => hok.dots n (List.mem_of_mem_take hn))
    rw [List.length_take] at this
    omega
   have HM2 := Lib.hid hM2
   clear hM2
   by_cases hjl : j < o.dots.length
   ·have d1 : decide (j < o.dots.length) = true := decT hjl
    have hrr := hr.ext (hx.comp hxr) (fun _ _ h => h)
    obtain ⟨ab, ao, rfl, _⟩ := ds_shape hrr (by omega)
    obtain ⟨d, hd⟩ : ∃ d, o.dots[j]? = some d := ⟨_, List.getElem?_eq_getElem hjl⟩
    have x0 := ds_cell hrr hd 0 _ rfl
    have x1 := ds_cell hrr hd 1 _ rfl
    have x2 := ds_cell hrr hd 2 _ rfl
    rw [Nat.add_zero] at x0
    have hdok := hok.dots d (List.mem_of_getElem? hd)
    have HD := Lib.hid (dots_take o.dots j d hd)
    go_upto_region 6 with fail
    have hdb := Blk.lit wr #[.int .i64 d.dev, .int .i64 d.ep, .int .i64 d.seq] 59
    have hx5 := Ext.alloc no wr (.cells #[.int .i64 d.dev, .int .i64 d.ep, .int .i64 d.seq] 59)
    have hrm3 := hrm2.ext hx5 (fun _ _ h => h)
    generalize wr.alloc (.cells #[.int .i64 d.dev, .int .i64 d.ep, .int .i64 d.seq] 59) = w5 at *
    have y0 := hdb.cell 0 _ rfl
    have y1 := hdb.cell 1 _ rfl
    have y2 := hdb.cell 2 _ rfl
    clear x0 x1 x2 hdb hrm2
    go_wp2_with fail
    refine (opints_any _ a4 (some ⟨w5.heap.size, 0, none⟩) c4 3 M2 [d.dev, d.ep, d.seq] (hrm3.alloc _) (by omega) (Rd.lit w5 _ _ _) (by simp) (by
     intro n hn
     simp at hn
     rcases hn with rfl | rfl | rfl
     ·exact hdok.1
     ·exact hdok.2.1
     ·exact hdok.2.2)).mono ?_
    rintro e w6 ⟨a6, c6, rfl, hr6, hx6⟩
    obtain ⟨M3, hM3⟩ : ∃ M3, M3 = M2 ++ [d.dev, d.ep, d.seq].flatMap encI := ⟨_, rfl⟩
    rw [← hM3] at hr6 ⊢
    have HM3 := Lib.hid (show M3 = M2 ++ dotEnc d from hM3)
    clear hM3
    have hxe := (hxr.comp hx5).comp ((Ext.alloc no w5 _).comp hx6)
    go_wp2_with fail
    go_roundw
    case rel => exact ⟨j + 1, M3, a6, c6, by omega, by go_num, by rw [HM3.out, HM2.out, HD.out, List.append_assoc], rfl, hr6, hxe⟩
    case measure => simp [intOf]; omega
   ·have d1 : decide (j < o.dots.length) = false := decF hjl
    have HE := Lib.hid (show b ++ opEnc o = M2 by
     rw [HM2.out, HM.out, HL1.out, List.take_of_length_le (by omega)]
     unfold opEnc
     simp only [List.append_assoc])
    go_wp2_with fail
    go_ret
    exact ⟨a4, c4, by rw [HE.out]; rfl, by rw [HE.out]; exact hrm2, hx.comp hxr⟩
end Go.Proofs.YtddobhihjljcgaaGreat
/- Operations' bytes tell them apart. -/
namespace Go.Esc
open Go.RowKit
end Go.Esc
/- Operations read, plainly. -/
namespace Go.Esc
open Go.RowKit
def pDot (s : RS) : DotR × RS := (⟨(rInt s).1, (rInt (rInt s).2).1, (rInt (rInt (rInt s).2).2).1⟩, (rInt (rInt (rInt s).2).2).2)
def pDots : Nat → RS → List DotR × RS
 | 0, s => ([], s)
 | n + 1, s => if s.e ≠ 0 then ([], s) else ((pDot s).1 :: (pDots n (pDot s).2).1, (pDots n (pDot s).2).2)
/-- Ahead of the dots: the operation, how many dots, what is left. -/
def pHead (s : RS) : OpR × Int × RS :=
 let d := pDot s
 let a := rInt d.2
 let b := rInt a.2
 let k := rInt b.2
 let t := rInt k.2
 let y := rText t.2
 let x := rText y.2
 let n := rInt x.2
 let c := rInt n.2
 (⟨d.1, a.1, b.1, k.1, y.1, x.1, n.1, t.1, []⟩, c.1, c.2)
def pBad (c : Int) : Prop := c < 0 ∨ 8 < c
instance (c : Int) : Decidable (pBad c) := by unfold pBad; infer_instance
/-- With the dots. -/
def pRead (s : RS) : OpR × RS :=
 let a := pHead s
 let s1 := if pBad a.2.1 then rFail a.2.2 4 else a.2.2
 let r := pDots (if pBad a.2.1 then 0 else a.2.1.toNat) s1
 ({ a.1 with dots := r.1 }, r.2)
theorem rInt_err_stays {s : RS} (h : s.e ≠ 0) : (rInt s).2 = s := by rw [rInt_skip h]
theorem pDot_err {s : RS} (h : s.e ≠ 0) : (pDot s).2 = s := by
 unfold pDot
 simp only [rInt_err_stays h]
theorem pDots_err {s : RS} (h : s.e ≠ 0) (n : Nat) : pDots n s = ([], s) := by
 cases n with
 | zero => rfl
 | succ n => unfold pDots; rw [if_pos h]
theorem rInt_okn (s : RS) : I64ok (rInt s).1 := by
 have h0 : I64ok (0 : Int) := by unfold I64ok; omega
 unfold rInt
 split
 ·exact h0
 ·split
  ·first
    | (rename_i u r h; exact sgn_ok u (scan_lt s.l 0 true (by omega) u r h))
    | exact h0
  ·first
    | exact h0
    | (rename_i u r h; exact sgn_ok u (scan_lt s.l 0 true (by omega) u r h))
theorem pDot_ok (s : RS) : (pDot s).1.ok := ⟨rInt_okn _, rInt_okn _, rInt_okn _⟩
theorem pDots_ok : ∀ (n : Nat) (s : RS), ∀ d ∈ (pDots n s).1, d.ok
 | 0, s, d, h => by simp [pDots] at h
 | n + 1, s, d, h => by
  unfold pDots at h
  split at h
  ·simp at h
  ·rcases List.mem_cons.1 h with rfl | h
   ·exact pDot_ok s
   ·exact pDots_ok n _ d h
theorem pDots_len : ∀ (n : Nat) (s : RS), (pDots n s).1.length ≤ n
 | 0, s => by simp [pDots]
 | n + 1, s => by
  unfold pDots
  split
  ·simp
  ·simp; exact pDots_len n _
end Go.Esc
/- Operations as they are read, plainly. -/
namespace Go.Esc
open Go.RowKit
theorem rText_len (s : RS) : (rText s).1.length ≤ 65535 := by
 unfold rText
 split
 ·simp
 ·split
  ·simp
  ·rename_i n r h
   have := rLen_le _ _ _ h
   split
   ·simp only [List.length_take]
    omega
   ·simp
theorem pRead_fine (s : RS) : (pRead s).1.ok ∧ (pRead s).1.key.length ≤ 65535 ∧ (pRead s).1.text.length ≤ 65535 ∧ (pRead s).1.dots.length ≤ 8 := by
 have hd : (pRead s).1.dots.length ≤ 8 := by
  unfold pRead
  simp only
  split
  ·exact Nat.le_trans (pDots_len _ _) (by omega)
  ·rename_i h
   refine Nat.le_trans (pDots_len _ _) ?_
   unfold pBad at h
   omega
 have hk : (pRead s).1.key.length ≤ 65535 := by unfold pRead pHead; exact rText_len _
 have ht : (pRead s).1.text.length ≤ 65535 := by unfold pRead pHead; exact rText_len _
 refine ⟨⟨?_, ?_, ?_, ?_, ?_, ?_, ?_, ?_, ?_⟩, hk, ht, hd⟩
 ·unfold pRead pHead; exact pDot_ok _
 ·unfold pRead pHead; exact rInt_okn _
 ·unfold pRead pHead; exact rInt_okn _
 ·unfold pRead pHead; exact rInt_okn _
 ·unfold pRead pHead; exact rInt_okn _
 ·unfold pRead pHead; exact rInt_okn _
 ·exact Nat.le_trans hk (by unfold maxLen; omega)
 ·exact Nat.le_trans ht (by unfold maxLen; omega)
 ·unfold pRead; exact pDots_ok _ _
end Go.Esc
/- All dots of an operation, plainly. -/
namespace Go.Esc
open Go.RowKit
/-- All dots, an error or none. -/
def pAll : Nat → RS → List DotR × RS
 | 0, s => ([], s)
 | n + 1, s => ((pDot s).1 :: (pAll n (pDot s).2).1, (pAll n (pDot s).2).2)
theorem pAll_err {s : RS} (h : s.e ≠ 0) : ∀ n, (pAll n s).2 = s
 | 0 => rfl
 | n + 1 => by unfold pAll; simp only; rw [pDot_err h]; exact pAll_err h n
theorem pAll_state : ∀ (n : Nat) (s : RS), (pAll n s).2 = (pDots n s).2
 | 0, s => rfl
 | n + 1, s => by
  by_cases h : s.e ≠ 0
  ·rw [pAll_err h, pDots_err h]
  ·unfold pAll pDots
   rw [if_neg h]
   exact pAll_state n _
theorem pAll_list : ∀ (n : Nat) (s : RS), (pDots n s).2.e = 0 → (pAll n s).1 = (pDots n s).1
 | 0, s, _ => rfl
 | n + 1, s, he => by
  by_cases h : s.e ≠ 0
  ·rw [pDots_err h] at he; exact absurd he h
  ·unfold pAll
   unfold pDots at he ⊢
   rw [if_neg h] at he ⊢
   simp only at he ⊢
   rw [pAll_list n _ he]
end Go.Esc
/- What is read is written as it stood. -/
namespace Go.Esc
open Go.RowKit
theorem rInt_e {s : RS} (h : (rInt s).2.e = 0) : s.e = 0 := by
 by_cases h0 : s.e = 0
 ·exact h0
 ·rw [rInt_skip h0] at h; exact h
theorem rText_e {s : RS} (h : (rText s).2.e = 0) : s.e = 0 := by
 by_cases h0 : s.e = 0
 ·exact h0
 ·rw [rText_skip h0] at h; exact h
theorem rInt_canon {s : RS} (h : (rInt s).2.e = 0) : s.l = encI (rInt s).1 ++ (rInt s).2.l := by
 have h0 := rInt_e h
 cases hs : scan 0 true s.l with
 | mk v r =>
  cases v with
  | inl k =>
   rw [rInt_err h0 hs] at h
   have := scan_err _ _ _ _ _ hs
   simp only at h
   omega
  | inr u =>
   rw [rInt_ok h0 hs]
   simp only
   rw [encI_sgn]
   exact scan_canon _ _ _ hs
theorem rText_canon {s : RS} (h : (rText s).2.e = 0) : s.l = encT (rText s).1 ++ (rText s).2.l := by
 have h0 := rText_e h
 cases hs : scan 0 true s.l with
 | mk v r =>
  cases v with
  | inl k =>
   rw [rText_err h0 (rLen_err_of hs)] at h
   have := scan_err _ _ _ _ _ hs
   simp only at h
   omega
  | inr u =>
   by_cases hb : 0 ≤ sgn u ∧ sgn u ≤ 65535
   ·have hl := rLen_ok_of hs hb.1 hb.2
    by_cases hn : (sgn u).toNat ≤ r.length
    ·rw [rText_ok h0 hl hn]
     simp only
     unfold encT
     rw [List.length_take, Nat.min_eq_left hn, Int.toNat_of_nonneg hb.1, encI_sgn, List.append_assoc, List.take_append_drop]
     exact scan_canon _ _ _ hs
    ·rw [rText_cut h0 hl (by omega)] at h
     simp only at h
     omega
   ·rw [rText_err h0 (rLen_many_of hs hb)] at h
    simp only at h
    omega
theorem pDot_canon {s : RS} (h : (pDot s).2.e = 0) : s.l = dotEnc (pDot s).1 ++ (pDot s).2.l := by
 unfold pDot at *
 simp only at *
 have h2 := rInt_e h
 have h1 := rInt_e h2
 rw [rInt_canon h1]
 simp only [dotEnc, List.flatMap_cons, List.flatMap_nil, List.append_nil, List.append_assoc]
 congr 1
 rw [rInt_canon h2]
 congr 1
 exact rInt_canon h
theorem pDots_canon : ∀ (n : Nat) (s : RS), (pDots n s).2.e = 0 → s.l = (pDots n s).1.flatMap dotEnc ++ (pDots n s).2.l ∧ (pDots n s).1.length = n ∧ s.e = 0
 | 0, s, h => ⟨by simp [pDots], rfl, h⟩
 | n + 1, s, h => by
  by_cases h0 : s.e ≠ 0
  ·rw [pDots_err h0] at h; exact absurd h h0
  ·unfold pDots at *
   rw [if_neg h0] at h ⊢
   simp only at h ⊢
   obtain ⟨h1, h2, h3⟩ := pDots_canon n (pDot s).2 h
   refine ⟨?_, by rw [List.length_cons, h2], by omega⟩
   rw [List.flatMap_cons, List.append_assoc, ← h1]
   exact pDot_canon h3
theorem rFail_e (s : RS) (k : Int) (hk : k ≠ 0) : (rFail s k).e ≠ 0 := by
 unfold rFail
 split
 ·exact hk
 ·assumption
theorem pHead_canon {s : RS} (h : (pHead s).2.2.e = 0) : s.l = headEnc (pHead s).1 ++ encT (pHead s).1.key ++ encT (pHead s).1.text ++ [(pHead s).1.n, (pHead s).2.1].flatMap encI ++ (pHead s).2.2.l := by
 unfold pHead at *
 simp only at *
 have h8 := rInt_e h
 have h7 := rInt_e h8
 have h6 := rText_e h7
 have h5 := rText_e h6
 have h4 := rInt_e h5
 have h3 := rInt_e h4
 have h2 := rInt_e h3
 have h1 := rInt_e h2
 have c1 := pDot_canon h1
 have c2 := rInt_canon h2
 have c3 := rInt_canon h3
 have c4 := rInt_canon h4
 have c5 := rInt_canon h5
 have c6 := rText_canon h6
 have c7 := rText_canon h7
 have c8 := rInt_canon h8
 have c9 := rInt_canon h
 simp only [headEnc, List.flatMap_cons, List.flatMap_nil, List.append_nil, List.append_assoc]
 rw [c1]
 simp only [dotEnc, List.flatMap_cons, List.flatMap_nil, List.append_nil, List.append_assoc]
 congr 3
 rw [c2]
 congr 1
 rw [c3]
 congr 1
 rw [c4]
 congr 1
 rw [c5]
 congr 1
 rw [c6]
 congr 1
 rw [c7]
 congr 1
 rw [c8]
 congr 1
theorem pRead_canon {s : RS} (h : (pRead s).2.e = 0) : s.l = opEnc (pRead s).1 ++ (pRead s).2.l := by
 unfold pRead at *
 simp only at *
 by_cases hb : pBad (pHead s).2.1
 ·rw [if_pos hb, if_pos hb] at h
  have := pDots_err (rFail_e (pHead s).2.2 4 (by omega)) 0
  rw [this] at h
  exact absurd h (rFail_e _ _ (by omega))
 ·simp only [if_neg hb] at *
  obtain ⟨h1, h2, h3⟩ := pDots_canon _ _ h
  have c := pHead_canon h3
  have hn : ((pHead s).2.1.toNat : Int) = (pHead s).2.1 := by unfold pBad at hb; omega
  rw [c, h1]
  unfold opEnc headEnc
  simp only
  rw [h2, hn]
  simp only [List.append_assoc]
end Go.Esc
