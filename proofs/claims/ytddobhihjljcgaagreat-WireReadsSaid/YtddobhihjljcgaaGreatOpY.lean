/- Walks of escrowref9: Nums, Bytes. -/
import Derived.Test.YtddobhihjljcgaaGreatOpUX
import Derived.Test.YtddobhihjljcgaaGreatRefAG
namespace Go.Proofs.YtddobhihjljcgaaGreat
open Go.RowKit Go.Esc
set_option linter.unusedVariables false
set_option linter.unusedSimpArgs false
theorem xnums_any (w : World) (B : Nat) (a b : Option Addr) (c cb : Nat) (n0 : Nat) (xs : List Value) (t : List Int) (ho : Own w B a 1 n0 c xs) (hB : B ≤ w.heap.size) (hl : n0 ≤ 100000000)
  (hrd : Rd w b (is t)) (hbn : 0 < t.length → ∀ ad, b = some ad → ¬ blk a ad.block) (ht : t.length ≤ 1000) (hok : ∀ n ∈ t, I64ok n) :
  Calls Tryz.prog 18 #[.slice a n0 c, .slice b t.length cb] w fun e w' => ∃ a' c', e = .returned (.slice a' (n0 + (t.flatMap encI).length) c') ∧ App w w' B 1 a n0 c xs a' c' (t.flatMap encI).length (bs (t.flatMap encI)) := by
 have hlb : ∀ ad, a = some ad → ad.block < w.heap.size := fun ad h => (ho.base ad h).2.1
 go_enter Tryz.func18, Tryz.ntmps18
 go_wp2_with fail
 go_loopw [0, 5] (fun s0 s5 wr => ∃ (k : Nat) (E : List UInt8) (a' : Option Addr) (c' : Nat), k ≤ t.length ∧ s5 = .int .i64 k ∧ E = (t.take k).flatMap encI ∧ s0 = .slice a' (n0 + E.length) c' ∧ App w wr B 1 a n0 c xs a' c' E.length (bs E)) (fun _ s5 _ => t.length - (intOf s5).toNat)
 case atStart => exact ⟨0, [], a, c, Nat.zero_le _, rfl, by simp, rfl, App.start ho⟩
 case round =>
  obtain ⟨k, E, a', c', hk, rfl, hE, rfl, happ⟩ := hrel
  have hEl : E.length ≤ 10000 := by
   rw [hE]
   have := encs_len (t.take k) (fun n hn => hok n (List.mem_of_mem_take hn))
   rw [List.length_take] at this
   omega
  have HE := Lib.hid hE
  clear hE
  by_cases hlt : k < t.length
  ·have d1 : decide (k < t.length) = true := decT hlt
   obtain ⟨ad, rfl, _⟩ := hrd.ne (by simp; omega)
   have hc := happ.ext.keeps (hrd.cell k (by simpa using hlt)) (by rw [add_block]; exact hbn (by omega) ad rfl)
   rw [show (is t)[k]'(by simpa using hlt) = .int .i64 t[k] from by simp [is, I64]] at hc
   have hn := hok t[k] (List.getElem_mem hlt)
   have HT := Lib.hid (encs_take t k t[k] (List.getElem?_eq_getElem hlt))
   generalize t[k] = m at *
   go_wp2_with fail
   refine (rint_any wr B a' c' _ _ m happ.own (by have := happ.ext.size; omega) (by omega) hn).mono ?_
   rintro e w2 ⟨a2, c2, rfl, happ2⟩
   have hap3 := happ.trans happ2 hlb
   clear happ happ2
   obtain ⟨E2, hE2⟩ : ∃ E2, E2 = E ++ encI m := ⟨_, rfl⟩
   have hE2l : E2.length = E.length + (encI m).length := by rw [hE2, List.length_append]
   have hap4 : App w w2 B 1 a n0 c xs a2 c2 E2.length (bs E2) := hap3.cast hE2l.symm (by rw [hE2, bs_append])
   have HE2 := Lib.hid hE2
   have HL := Lib.hid hE2l
   clear hE2 hE2l hap3
   go_wp2_with fail
   go_roundw
   case rel => exact ⟨k + 1, E2, a2, c2, by omega, by go_num, by rw [HE2.out, HT.out, HE.out], by rw [HL.out, Nat.add_assoc], hap4⟩
   case measure => simp [intOf]; omega
  ·have d1 : decide (k < t.length) = false := decF hlt
   have HF := Lib.hid (show t.flatMap encI = E by rw [HE.out, List.take_of_length_le (by omega)])
   go_wp2_with fail
   go_ret
   rw [HF.out]
   exact ⟨a', c', rfl, happ⟩
set_option maxRecDepth 100000 in
set_option maxHeartbeats 8000000 in
theorem xbytes_any (w : World) (B : Nat) (a : Option Addr) (c n0 : Nat) (xs : List Value) (o : OpR) (od : Option Addr) (oc : Nat) (ho : Own w B a 1 n0 c xs) (hB : B ≤ w.heap.size) (hn0 : n0 ≤ 100000) (hok : o.ok) (hr : Rd w od (ds o.dots)) (hda : ds o.dots ≠ [] → ∀ ad, od = some ad → ¬ blk a ad.block) (hdl : o.dots.length ≤ 1000) (hkl : o.key.length ≤ 1000) (htl : o.text.length ≤ 1000) :
  Calls Tryz.prog 52 #[.slice a n0 c, o.v od oc] w fun e w' => ∃ a' c', e = .returned (.slice a' (n0 + (opEnc o).length) c') ∧ App w w' B 1 a n0 c xs a' c' (opEnc o).length (bs (opEnc o)) := by
 have hlb0 : ∀ ad, a = some ad → ad.block < w.heap.size := fun ad h => (ho.base ad h).2.1
 go_enter Tryz.func52, Tryz.ntmps52
 unfold OpR.v
 go_upto_region 1 with fail
 have hb0 := Blk.lit w #[.int .i64 o.dot.dev, .int .i64 o.dot.ep, .int .i64 o.dot.seq, .int .i64 o.coll, .int .i64 o.ver, .int .i64 o.kind, .string (str o.key), .string (str o.text), .int .i64 o.n, .int .i64 o.time, .slice od o.dots.length oc] 62
 have hx := Ext.alloc no w (.cells #[.int .i64 o.dot.dev, .int .i64 o.dot.ep, .int .i64 o.dot.seq, .int .i64 o.coll, .int .i64 o.ver, .int .i64 o.kind, .string (str o.key), .string (str o.text), .int .i64 o.n, .int .i64 o.time, .slice od o.dots.length oc] 62)
 have hr1 := hr.ext hx (fun _ _ h => h)
 have ho1 := ho.ext hx (fun _ _ h => h)
 have hs1 : w.heap.size < (w.alloc (.cells #[.int .i64 o.dot.dev, .int .i64 o.dot.ep, .int .i64 o.dot.seq, .int .i64 o.coll, .int .i64 o.ver, .int .i64 o.kind, .string (str o.key), .string (str o.text), .int .i64 o.n, .int .i64 o.time, .slice od o.dots.length oc] 62)).heap.size := by simp
 have hng : ¬ blk a w.heap.size := by rintro ⟨ad, h, he⟩; have := hlb0 ad h; omega
 generalize w.alloc (.cells #[.int .i64 o.dot.dev, .int .i64 o.dot.ep, .int .i64 o.dot.seq, .int .i64 o.coll, .int .i64 o.ver, .int .i64 o.kind, .string (str o.key), .string (str o.text), .int .i64 o.n, .int .i64 o.time, .slice od o.dots.length oc] 62) = w1 at *
 have hlb : ∀ ad, a = some ad → ad.block < w1.heap.size := fun ad h => by have := hlb0 ad h; omega
 have hB1 : B ≤ w1.heap.size := by omega
 have b0 := hb0.cell 0 _ rfl
 have b1 := hb0.cell 1 _ rfl
 have b2 := hb0.cell 2 _ rfl
 have b3 := hb0.cell 3 _ rfl
 have b4 := hb0.cell 4 _ rfl
 have b5 := hb0.cell 5 _ rfl
 have b6 := hb0.cell 6 _ rfl
 have b7 := hb0.cell 7 _ rfl
 have b8 := hb0.cell 8 _ rfl
 have b9 := hb0.cell 9 _ rfl
 have b10 := hb0.cell 10 _ rfl
 generalize w.heap.size = g at hb0 hng b0 b1 b2 b3 b4 b5 b6 b7 b8 b9 b10 ⊢
 go_wp2_with fail
 refine (xnums_any _ B a (some ⟨w1.heap.size, 0, none⟩) c 7 n0 xs [o.dot.dev, o.dot.ep, o.dot.seq, o.coll, o.ver, o.kind, o.time] (ho1.alloc _) (by simp; omega) (by omega) (Rd.lit w1 _ _ _) (fun _ ad h => by cases h; rintro ⟨ad', ha', he⟩; have := hlb ad' ha'; simp only at he; omega) (by simp) (by
  intro n hn
  simp at hn
  rcases hn with rfl | rfl | rfl | rfl | rfl | rfl | rfl
  ·exact hok.dot.1
  ·exact hok.dot.2.1
  ·exact hok.dot.2.2
  ·exact hok.coll
  ·exact hok.ver
  ·exact hok.kind
  ·exact hok.time)).mono ?_
 rintro e w2 ⟨a2, c2, rfl, hA2⟩
 have hA := App.pre (Ext.alloc no w1 _) hA2
 have hhl := headEnc_len o hok
 obtain ⟨E, hE⟩ : ∃ E, E = [o.dot.dev, o.dot.ep, o.dot.seq, o.coll, o.ver, o.kind, o.time].flatMap encI := ⟨_, rfl⟩
 rw [← hE] at hA ⊢
 have hEl : E.length ≤ 70 := by rw [hE]; exact hhl
 have HE := Lib.hid (show E = headEnc o from hE)
 clear hE hA2
 go_upto_region 2 with fail
 --<A
 refine wp_region_F [2, 5, 8] (looks [(2, fun z => Ext (blk a) w1 z), (5, fun z => Ext (blk a) w1 z), (8, fun z => Ext (blk a) w1 z)]) (by kernel_rfl) ?_
 have hT0 : ∀ k, looks [(2, fun z => Ext (blk a) w1 z), (5, fun z => Ext (blk a) w1 z), (8, fun z => Ext (blk a) w1 z)] k (w2.drew) := looks_all ⟨(hA.ext.comp (Ext.drew _ w2)), (hA.ext.comp (Ext.drew _ w2)), (hA.ext.comp (Ext.drew _ w2)), trivial⟩
 refine wpF_tk 0 (v := ?_) rfl hT0 (by rfl) ?_ ?_
 rotate_left
 ·(intro wq; go_simp; try with_reducible rfl)
 simp only [pz]
 refine wpF_tk 1 (v := ?_) rfl hT0 (by rfl) ?_ ?_
 rotate_left
 ·(intro wq; go_simp; try with_reducible rfl)
 simp only [pz]
 refine wpF_lk 2 (v := .string (str o.key)) rfl hT0 (by rfl) (fun w hS => by have hS : Ext (blk a) w1 w := hS; have q := hS.keeps b6 hng; go_simp) ?_
 simp only [pz]
 refine wpF_tk 4 (v := ?_) rfl hT0 (by rfl) ?_ ?_
 rotate_left
 ·(intro wq; go_simp; try with_reducible rfl)
 simp only [pz]
 refine wpF_lk 5 (v := .string (str o.text)) rfl hT0 (by rfl) (fun w hS => by have hS : Ext (blk a) w1 w := hS; have q := hS.keeps b7 hng; go_simp) ?_
 simp only [pz]
 refine wpF_tk 7 (v := ?_) rfl hT0 (by rfl) ?_ ?_
 rotate_left
 ·(intro wq; go_simp; try with_reducible rfl)
 simp only [pz]
 refine wpF_lk 8 (v := .int .i64 o.n) rfl hT0 (by rfl) (fun w hS => by have hS : Ext (blk a) w1 w := hS; have q := hS.keeps b8 hng; go_simp) ?_
 simp only [pz]
 refine wpF_exec 3 rfl (by kernel_rfl) (by rfl) ?_
 intro K hK
 go_simp
 refine (rtext_any w2.drew B a2 c2 _ _ o.key hA.own.drew (by have := hA.ext.size; show B ≤ w2.heap.size; omega) (by omega) (by omega)).mono ?_
 rintro e wa ⟨aa, ca, rfl, hp⟩
 have hA3 := hA.trans (App.pre (Ext.drew no w2) hp) hlb
 obtain ⟨E3, hE3⟩ : ∃ E3, E3 = E ++ encT o.key := ⟨_, rfl⟩
 have hl3 : E3.length = E.length + (encT o.key).length := by rw [hE3, List.length_append]
 replace hA3 : App w1 wa B 1 a n0 c xs aa ca E3.length (bs E3) := hA3.cast hl3.symm (by rw [hE3, bs_append])
 rw [show n0 + E.length + (encT o.key).length = n0 + E3.length by rw [hl3, Nat.add_assoc]]
 have hl3' : E3.length ≤ 1080 := by rw [hl3]; have := (encI_length (o.key.length : Int) ⟨by omega, by omega⟩).1; unfold encT; rw [List.length_append]; omega
 have HE3 := Lib.hid hE3
 clear hE3 hl3 hp
 have hT1 : ∀ k, looks [(2, fun z => Ext (blk a) w1 z), (5, fun z => Ext (blk a) w1 z), (8, fun z => Ext (blk a) w1 z)] k (wa) := looks_all ⟨hA3.ext, hA3.ext, hA3.ext, trivial⟩
 refine hK _ _ (looks [(2, fun z => Ext (blk a) w1 z), (5, fun z => Ext (blk a) w1 z), (8, fun z => Ext (blk a) w1 z)]) ⟨.inr (.inl (by kernel_rfl)), .inr (.inr (fun x h => h)), .inr (.inr (fun x h => h)), trivial⟩ hT1 ?_
 clear hK K
 try simp only [pz]
 refine wpF_exec 6 rfl (by kernel_rfl) (by rfl) ?_
 intro K hK
 go_simp
 refine (rtext_any wa B aa ca _ _ o.text hA3.own (by have := hA3.ext.size; omega) (by omega) (by omega)).mono ?_
 rintro e wb ⟨ab, cb, rfl, hp⟩
 have hA4 := hA3.trans hp hlb
 obtain ⟨E4, hE4⟩ : ∃ E4, E4 = E3 ++ encT o.text := ⟨_, rfl⟩
 have hl4 : E4.length = E3.length + (encT o.text).length := by rw [hE4, List.length_append]
 replace hA4 : App w1 wb B 1 a n0 c xs ab cb E4.length (bs E4) := hA4.cast hl4.symm (by rw [hE4, bs_append])
 rw [show n0 + E3.length + (encT o.text).length = n0 + E4.length by rw [hl4, Nat.add_assoc]]
 have hl4' : E4.length ≤ 2090 := by rw [hl4]; have := (encI_length (o.text.length : Int) ⟨by omega, by omega⟩).1; unfold encT; rw [List.length_append]; omega
 have HE4 := Lib.hid hE4
 clear hE4 hl4 hp
 have hT2 : ∀ k, looks [(2, fun z => Ext (blk a) w1 z), (5, fun z => Ext (blk a) w1 z), (8, fun z => Ext (blk a) w1 z)] k (wb) := looks_all ⟨hA4.ext, hA4.ext, hA4.ext, trivial⟩
 refine hK _ _ (looks [(2, fun z => Ext (blk a) w1 z), (5, fun z => Ext (blk a) w1 z), (8, fun z => Ext (blk a) w1 z)]) ⟨.inr (.inl (by kernel_rfl)), .inr (.inl (by kernel_rfl)), .inr (.inr (fun x h => h)), trivial⟩ hT2 ?_
 clear hK K
 try simp only [pz]
 refine wpF_exec 9 rfl (by kernel_rfl) (by rfl) ?_
 intro K hK
 go_simp
 refine (rint_any wb B ab cb _ _ o.n hA4.own (by have := hA4.ext.size; omega) (by omega) hok.n).mono ?_
 rintro e wd ⟨ad, cd, rfl, hp⟩
 have hA5 := hA4.trans hp hlb
 obtain ⟨E5, hE5⟩ : ∃ E5, E5 = E4 ++ encI o.n := ⟨_, rfl⟩
 have hl5 : E5.length = E4.length + (encI o.n).length := by rw [hE5, List.length_append]
 replace hA5 : App w1 wd B 1 a n0 c xs ad cd E5.length (bs E5) := hA5.cast hl5.symm (by rw [hE5, bs_append])
 rw [show n0 + E4.length + (encI o.n).length = n0 + E5.length by rw [hl5, Nat.add_assoc]]
 have hl5' : E5.length ≤ 2100 := by rw [hl5]; have := (encI_length o.n hok.n).1; omega
 have HE5 := Lib.hid hE5
 clear hE5 hl5 hp
 have hT3 : ∀ k, looks [(2, fun z => Ext (blk a) w1 z), (5, fun z => Ext (blk a) w1 z), (8, fun z => Ext (blk a) w1 z)] k (wd) := looks_all ⟨hA5.ext, hA5.ext, hA5.ext, trivial⟩
 refine hK _ _ (looks [(2, fun z => Ext (blk a) w1 z), (5, fun z => Ext (blk a) w1 z), (8, fun z => Ext (blk a) w1 z)]) ⟨.inr (.inl (by kernel_rfl)), .inr (.inl (by kernel_rfl)), .inr (.inl (by kernel_rfl)), trivial⟩ hT3 ?_
 clear hK K
 try simp only [pz]
 refine wpF_tk 10 (v := ?_) rfl hT3 (by rfl) ?_ ?_
 rotate_left
 ·(intro wq; go_simp; try with_reducible rfl)
 simp only [pz]
 refine wpF_done (by kernel_rfl) ?_ _
 have c10 := hA5.ext.keeps b10 hng
 go_wp2_with fail
 refine (rint_any wd B ad cd _ _ (o.dots.length : Int) hA5.own (by have := hA5.ext.size; omega) (by omega) ⟨by omega, by omega⟩).mono ?_
 rintro e we ⟨ae, ce, rfl, hp⟩
 have hA6 := hA5.trans hp hlb
 obtain ⟨E6, hE6⟩ : ∃ E6, E6 = E5 ++ encI (o.dots.length : Int) := ⟨_, rfl⟩
 have hl6 : E6.length = E5.length + (encI (o.dots.length : Int)).length := by rw [hE6, List.length_append]
 replace hA6 : App w1 we B 1 a n0 c xs ae ce E6.length (bs E6) := hA6.cast hl6.symm (by rw [hE6, bs_append])
 rw [show n0 + E5.length + (encI (o.dots.length : Int)).length = n0 + E6.length by rw [hl6, Nat.add_assoc]]
 have hl6' : E6.length ≤ 2110 := by rw [hl6]; have := (encI_length (o.dots.length : Int) ⟨by omega, by omega⟩).1; omega
 have HE6 := Lib.hid (show E6 = headEnc o ++ encT o.key ++ encT o.text ++ [o.n, (o.dots.length : Int)].flatMap encI by rw [hE6, HE5.out, HE4.out, HE3.out, HE.out]; simp)
 clear hE6 hl6 hp hA5 hA4 hA3 hA c10
 go_wp2_with fail
 go_loopw [0, 5] (fun s0 s5 wr => ∃ (j : Nat) (M : List UInt8) (a' : Option Addr) (c' : Nat), j ≤ o.dots.length ∧ s5 = .int .i64 j ∧ M = E6 ++ (o.dots.take j).flatMap dotEnc ∧ s0 = .slice a' (n0 + M.length) c' ∧ App w1 wr B 1 a n0 c xs a' c' M.length (bs M)) (fun _ s5 _ => o.dots.length - (intOf s5).toNat)
 case atStart => exact ⟨0, E6, ae, ce, by omega, rfl, by simp, rfl, hA6⟩
 case round =>
  obtain ⟨j, M, a4, c4, hj, rfl, hM, rfl, happ⟩ := hrel
  have hMl : M.length ≤ 2110 + 30 * 1000 := by
   rw [hM, List.length_append]
   have := dotsEnc_len (o.dots.take j) (fun n hn => hok.dots n (List.mem_of_mem_take hn))
   rw [List.length_take] at this
   omega
  have HM := Lib.hid hM
  clear hM
  have c10 := happ.ext.keeps b10 hng
  by_cases hjl : j < o.dots.length
  ·have d1 : decide (j < o.dots.length) = true := decT hjl
   obtain ⟨xb, xo, rfl, _⟩ := ds_shape hr1 (by omega)
   obtain ⟨d, hd⟩ : ∃ d, o.dots[j]? = some d := ⟨_, List.getElem?_eq_getElem hjl⟩
   have hnd : ¬ blk a xb := hda (by intro h; have := congrArg List.length h; rw [ds_length] at this; simp only [List.length_nil] at this; omega) _ rfl
   have x0 := ds_cell hr1 hd 0 _ rfl
   have x1 := ds_cell hr1 hd 1 _ rfl
   have x2 := ds_cell hr1 hd 2 _ rfl
   rw [Nat.add_zero] at x0
   have hdok := hok.dots d (List.mem_of_getElem? hd)
   have HD := Lib.hid (dots_take o.dots j d hd)
   go_upto_region 7 with fail
   --<L
   refine wp_region_F [2, 6, 8, 12, 14, 18] (looks [(2, fun z => Ext (blk a) w1 z), (6, fun z => Ext (blk a) w1 z), (8, fun z => Ext (blk a) w1 z), (12, fun z => Ext (blk a) w1 z), (14, fun z => Ext (blk a) w1 z), (18, fun z => Ext (blk a) w1 z)]) (by kernel_rfl) ?_
   have hT0 : ∀ k, looks [(2, fun z => Ext (blk a) w1 z), (6, fun z => Ext (blk a) w1 z), (8, fun z => Ext (blk a) w1 z), (12, fun z => Ext (blk a) w1 z), (14, fun z => Ext (blk a) w1 z), (18, fun z => Ext (blk a) w1 z)] k (wr.drew) := looks_all ⟨(happ.ext.comp (Ext.drew _ wr)), (happ.ext.comp (Ext.drew _ wr)), (happ.ext.comp (Ext.drew _ wr)), (happ.ext.comp (Ext.drew _ wr)), (happ.ext.comp (Ext.drew _ wr)), (happ.ext.comp (Ext.drew _ wr)), trivial⟩
   refine wpF_tk 0 (v := ?_) rfl hT0 (by rfl) ?_ ?_
   rotate_left
   ·(intro wq; go_simp; try with_reducible rfl)
   simp only [pz]
   refine wpF_tk 1 (v := ?_) rfl hT0 (by rfl) ?_ ?_
   rotate_left
   ·(intro wq; go_simp; try with_reducible rfl)
   simp only [pz]
   refine wpF_lk 2 (v := .slice (some ⟨xb, xo, none⟩) o.dots.length oc) rfl hT0 (by rfl) (fun w hS => by have hS : Ext (blk a) w1 w := hS; have q := hS.keeps b10 hng; go_simp) ?_
   simp only [pz]
   refine wpF_tk 3 (v := ?_) rfl hT0 (by rfl) ?_ ?_
   rotate_left
   ·(intro wq; go_simp; try with_reducible rfl)
   simp only [pz]
   refine wpF_tk 4 (v := .pointer (some ⟨xb, xo + j * 3, none⟩)) rfl hT0 (by rfl) (by intro wq; go_simp) ?_
   simp only [pz]
   refine wpF_tk 5 (v := ?_) rfl hT0 (by rfl) ?_ ?_
   rotate_left
   ·(intro wq; go_simp; try with_reducible rfl)
   simp only [pz]
   refine wpF_lk 6 (v := .int .i64 d.dev) rfl hT0 (by rfl) (fun w hS => by have hS : Ext (blk a) w1 w := hS; have q := hS.keeps x0 hnd; go_simp) ?_
   simp only [pz]
   refine wpF_tk 7 (v := ?_) rfl hT0 (by rfl) ?_ ?_
   rotate_left
   ·(intro wq; go_simp; try with_reducible rfl)
   simp only [pz]
   refine wpF_lk 8 (v := .slice (some ⟨xb, xo, none⟩) o.dots.length oc) rfl hT0 (by rfl) (fun w hS => by have hS : Ext (blk a) w1 w := hS; have q := hS.keeps b10 hng; go_simp) ?_
   simp only [pz]
   refine wpF_tk 9 (v := ?_) rfl hT0 (by rfl) ?_ ?_
   rotate_left
   ·(intro wq; go_simp; try with_reducible rfl)
   simp only [pz]
   refine wpF_tk 10 (v := .pointer (some ⟨xb, xo + j * 3, none⟩)) rfl hT0 (by rfl) (by intro wq; go_simp) ?_
   simp only [pz]
   refine wpF_tk 11 (v := ?_) rfl hT0 (by rfl) ?_ ?_
   rotate_left
   ·(intro wq; go_simp; try with_reducible rfl)
   simp only [pz]
   refine wpF_lk 12 (v := .int .i64 d.ep) rfl hT0 (by rfl) (fun w hS => by have hS : Ext (blk a) w1 w := hS; have q := hS.keeps x1 hnd; go_simp) ?_
   simp only [pz]
   refine wpF_tk 13 (v := ?_) rfl hT0 (by rfl) ?_ ?_
   rotate_left
   ·(intro wq; go_simp; try with_reducible rfl)
   simp only [pz]
   refine wpF_lk 14 (v := .slice (some ⟨xb, xo, none⟩) o.dots.length oc) rfl hT0 (by rfl) (fun w hS => by have hS : Ext (blk a) w1 w := hS; have q := hS.keeps b10 hng; go_simp) ?_
   simp only [pz]
   refine wpF_tk 15 (v := ?_) rfl hT0 (by rfl) ?_ ?_
   rotate_left
   ·(intro wq; go_simp; try with_reducible rfl)
   simp only [pz]
   refine wpF_tk 16 (v := .pointer (some ⟨xb, xo + j * 3, none⟩)) rfl hT0 (by rfl) (by intro wq; go_simp) ?_
   simp only [pz]
   refine wpF_tk 17 (v := ?_) rfl hT0 (by rfl) ?_ ?_
   rotate_left
   ·(intro wq; go_simp; try with_reducible rfl)
   simp only [pz]
   refine wpF_lk 18 (v := .int .i64 d.seq) rfl hT0 (by rfl) (fun w hS => by have hS : Ext (blk a) w1 w := hS; have q := hS.keeps x2 hnd; go_simp) ?_
   simp only [pz]
   refine wpF_exec 19 rfl (by kernel_rfl) (by rfl) ?_
   intro K hK
   go_simp
   have hT1 : ∀ k, looks [(2, fun z => Ext (blk a) w1 z), (6, fun z => Ext (blk a) w1 z), (8, fun z => Ext (blk a) w1 z), (12, fun z => Ext (blk a) w1 z), (14, fun z => Ext (blk a) w1 z), (18, fun z => Ext (blk a) w1 z)] k ((wr.alloc (.cells #[.int .i64 d.dev, .int .i64 d.ep, .int .i64 d.seq] 3)).drew) := looks_all ⟨(happ.ext.comp ((Ext.alloc (blk a) wr (.cells #[.int .i64 d.dev, .int .i64 d.ep, .int .i64 d.seq] 3)).comp (Ext.drew _ _))), (happ.ext.comp ((Ext.alloc (blk a) wr (.cells #[.int .i64 d.dev, .int .i64 d.ep, .int .i64 d.seq] 3)).comp (Ext.drew _ _))), (happ.ext.comp ((Ext.alloc (blk a) wr (.cells #[.int .i64 d.dev, .int .i64 d.ep, .int .i64 d.seq] 3)).comp (Ext.drew _ _))), (happ.ext.comp ((Ext.alloc (blk a) wr (.cells #[.int .i64 d.dev, .int .i64 d.ep, .int .i64 d.seq] 3)).comp (Ext.drew _ _))), (happ.ext.comp ((Ext.alloc (blk a) wr (.cells #[.int .i64 d.dev, .int .i64 d.ep, .int .i64 d.seq] 3)).comp (Ext.drew _ _))), (happ.ext.comp ((Ext.alloc (blk a) wr (.cells #[.int .i64 d.dev, .int .i64 d.ep, .int .i64 d.seq] 3)).comp (Ext.drew _ _))), trivial⟩
   refine hK _ _ (looks [(2, fun z => Ext (blk a) w1 z), (6, fun z => Ext (blk a) w1 z), (8, fun z => Ext (blk a) w1 z), (12, fun z => Ext (blk a) w1 z), (14, fun z => Ext (blk a) w1 z), (18, fun z => Ext (blk a) w1 z)]) ⟨.inr (.inl (by kernel_rfl)), .inr (.inl (by kernel_rfl)), .inr (.inl (by kernel_rfl)), .inr (.inl (by kernel_rfl)), .inr (.inl (by kernel_rfl)), .inr (.inl (by kernel_rfl)), trivial⟩ hT1 ?_
   clear hK K
   try simp only [pz]
   refine wpF_exec 20 rfl (by kernel_rfl) (by rfl) ?_
   intro K hK
   go_simp
   refine (xnums_any ((wr.alloc (.cells #[.int .i64 d.dev, .int .i64 d.ep, .int .i64 d.seq] 3)).drew) B a4 (some ⟨wr.heap.size, 0, none⟩) c4 3 _ _ [d.dev, d.ep, d.seq] ((happ.own.alloc _).drew) (by have := happ.ext.size; show B ≤ (wr.alloc (.cells #[.int .i64 d.dev, .int .i64 d.ep, .int .i64 d.seq] 3)).heap.size; simp; omega) (by omega) ((Rd.lit wr _ _ _).drew) (fun _ ad h => by cases h; rintro ⟨ad', ha', he⟩; have := (happ.own.base ad' ha').2.1; simp only at he; omega) (by simp) (by intro n hn; simp at hn; rcases hn with rfl | rfl | rfl; exact hdok.1; exact hdok.2.1; exact hdok.2.2)).mono ?_
   rintro e w9 ⟨a9, c9, rfl, hp⟩
   have hp' : App wr w9 B 1 a4 _ c4 _ a9 c9 (dotEnc d).length (bs (dotEnc d)) := App.pre ((Ext.alloc no wr (.cells #[.int .i64 d.dev, .int .i64 d.ep, .int .i64 d.seq] 3)).comp (Ext.drew no _)) hp
   have hA9 := happ.trans hp' hlb
   obtain ⟨M9, hM9⟩ : ∃ M9, M9 = M ++ dotEnc d := ⟨_, rfl⟩
   have hl9 : M9.length = M.length + (dotEnc d).length := by rw [hM9, List.length_append]
   replace hA9 : App w1 w9 B 1 a n0 c xs a9 c9 M9.length (bs M9) := hA9.cast hl9.symm (by rw [hM9, bs_append])
   rw [show n0 + M.length + ([d.dev, d.ep, d.seq].flatMap encI).length = n0 + M9.length by rw [hl9, Nat.add_assoc]; rfl]
   have HM9 := Lib.hid hM9
   clear hM9 hl9 hp hp'
   have hT2 : ∀ k, looks [(2, fun z => Ext (blk a) w1 z), (6, fun z => Ext (blk a) w1 z), (8, fun z => Ext (blk a) w1 z), (12, fun z => Ext (blk a) w1 z), (14, fun z => Ext (blk a) w1 z), (18, fun z => Ext (blk a) w1 z)] k (w9) := looks_all ⟨hA9.ext, hA9.ext, hA9.ext, hA9.ext, hA9.ext, hA9.ext, trivial⟩
   refine hK _ _ (looks [(2, fun z => Ext (blk a) w1 z), (6, fun z => Ext (blk a) w1 z), (8, fun z => Ext (blk a) w1 z), (12, fun z => Ext (blk a) w1 z), (14, fun z => Ext (blk a) w1 z), (18, fun z => Ext (blk a) w1 z)]) ⟨.inr (.inl (by kernel_rfl)), .inr (.inl (by kernel_rfl)), .inr (.inl (by kernel_rfl)), .inr (.inl (by kernel_rfl)), .inr (.inl (by kernel_rfl)), .inr (.inl (by kernel_rfl)), trivial⟩ hT2 ?_
   clear hK K
   try simp only [pz]
   refine wpF_tk 21 (v := ?_) rfl hT2 (by rfl) ?_ ?_
   rotate_left
   ·(intro wq; go_simp; try with_reducible rfl)
   simp only [pz]
   refine wpF_done (by kernel_rfl) ?_ _
   go_wp2_with fail
   go_roundw
   case rel => exact ⟨j + 1, M9, a9, c9, by omega, by go_num, by rw [HM9.out, HM.out, HD.out, List.append_assoc], rfl, hA9⟩
   case measure => simp [intOf]; omega
   -->L
  ·have d1 : decide (j < o.dots.length) = false := decF hjl
   have HF := Lib.hid (show opEnc o = M by rw [HM.out, HE6.out, List.take_of_length_le (by omega)]; rfl)
   go_wp2_with fail
   go_ret
   rw [HF.out]
   exact ⟨a4, c4, rfl, App.pre hx happ⟩
 -->A
end Go.Proofs.YtddobhihjljcgaaGreat
