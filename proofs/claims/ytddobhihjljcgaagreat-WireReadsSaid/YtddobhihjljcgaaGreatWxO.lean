/- The reference's writer of replies. -/
import Derived.Test.YtddobhihjljcgaaGreatWxA
import Derived.Test.YtddobhihjljcgaaGreatRefAG
namespace Go.Proofs.YtddobhihjljcgaaGreat
open Go.RowKit Go.Esc
set_option linter.unusedVariables false
set_option linter.unusedSimpArgs false
set_option maxRecDepth 100000 in
set_option maxHeartbeats 16000000 in
theorem xreply_any (w w0 : World) (B : Nat) (a : Option Addr) (c n0 : Nat) (xs : List Value) (C : ReplyR) (h : ReplyA) (ho : Own w B a 1 n0 c xs) (hB : B ≤ w.heap.size) (hn0 : n0 ≤ 1000) (hin : C.In w0 h) (hw0 : w0.heap.size ≤ B) (hx0 : Ext (upfrom B) w0 w) (hok : C.ok) (hf : C.few) :
  Calls Tryz.prog 20 #[.slice a n0 c, C.val h] w fun e w' => ∃ a' c', e = .returned (.slice a' (n0 + (replyEnc C).length) c') ∧ App w w' B 1 a n0 c xs a' c' (replyEnc C).length (bs (replyEnc C)) := by
 have hlb0 : ∀ ad, a = some ad → ad.block < w.heap.size := fun ad h => (ho.base ad h).2.1
 have hsl := hf.sl
 have hil := hf.il
 have hul := hf.ul
 go_enter Tryz.func20, Tryz.ntmps20
 unfold ReplyR.val
 go_upto_region 1 with fail
 have hb0 := Blk.lit w #[.int .i64 C.err, .int .i64 C.n, .int .i64 C.dev, .int .i64 C.ep, .int .i64 C.til, .int .i64 C.last, .slice h.s C.slices.length h.sc, .slice h.i C.ids.length h.ic, .slice h.u C.used.length h.uc] 34
 have hx := Ext.alloc no w (.cells #[.int .i64 C.err, .int .i64 C.n, .int .i64 C.dev, .int .i64 C.ep, .int .i64 C.til, .int .i64 C.last, .slice h.s C.slices.length h.sc, .slice h.i C.ids.length h.ic, .slice h.u C.used.length h.uc] 34)
 have hng : ¬ blk a w.heap.size := by rintro ⟨ad, h, he⟩; have := hlb0 ad h; omega
 have hs0 : w.heap.size < (w.alloc (.cells #[.int .i64 C.err, .int .i64 C.n, .int .i64 C.dev, .int .i64 C.ep, .int .i64 C.til, .int .i64 C.last, .slice h.s C.slices.length h.sc, .slice h.i C.ids.length h.ic, .slice h.u C.used.length h.uc] 34)).heap.size := by simp
 generalize w.alloc (.cells #[.int .i64 C.err, .int .i64 C.n, .int .i64 C.dev, .int .i64 C.ep, .int .i64 C.til, .int .i64 C.last, .slice h.s C.slices.length h.sc, .slice h.i C.ids.length h.ic, .slice h.u C.used.length h.uc] 34) = v1 at *
 generalize w.heap.size = g at hb0 hng ⊢
 have b0 := hb0.cell 0 _ rfl
 have b1 := hb0.cell 1 _ rfl
 have b2 := hb0.cell 2 _ rfl
 have b3 := hb0.cell 3 _ rfl
 have b4 := hb0.cell 4 _ rfl
 have b5 := hb0.cell 5 _ rfl
 have b6 := hb0.cell 6 _ rfl
 have b7 := hb0.cell 7 _ rfl
 have b8 := hb0.cell 8 _ rfl
 go_upto_region 2 with fail
 have hl0 := Blk.lit v1 #[.int .i64 C.dev, .int .i64 C.ep, .int .i64 C.til, .int .i64 C.last, .slice h.s C.slices.length h.sc, .slice h.i C.ids.length h.ic, .slice h.u C.used.length h.uc] 32
 have hy := Ext.alloc no v1 (.cells #[.int .i64 C.dev, .int .i64 C.ep, .int .i64 C.til, .int .i64 C.last, .slice h.s C.slices.length h.sc, .slice h.i C.ids.length h.ic, .slice h.u C.used.length h.uc] 32)
 have hb0 := hb0.ext (by simp) hy (fun h => h)
 have hnl : ¬ blk a v1.heap.size := by rintro ⟨ad, h, he⟩; have := hlb0 ad h; have := hx.size; omega
 replace hx := hx.comp hy
 clear b0 b1 b2 b3 b4 b5 b6 b7 b8
 have hs1 : v1.heap.size < (v1.alloc (.cells #[.int .i64 C.dev, .int .i64 C.ep, .int .i64 C.til, .int .i64 C.last, .slice h.s C.slices.length h.sc, .slice h.i C.ids.length h.ic, .slice h.u C.used.length h.uc] 32)).heap.size := by simp
 generalize v1.alloc (.cells #[.int .i64 C.dev, .int .i64 C.ep, .int .i64 C.til, .int .i64 C.last, .slice h.s C.slices.length h.sc, .slice h.i C.ids.length h.ic, .slice h.u C.used.length h.uc] 32) = w1 at *
 obtain ⟨gl, hgl⟩ : ∃ v, v = v1.heap.size := ⟨_, rfl⟩
 rw [← hgl] at hl0 hnl hs1 ⊢
 have hlb : ∀ ad, a = some ad → ad.block < w1.heap.size := fun ad h => by have := hlb0 ad h; omega
 have hB1 : B ≤ w1.heap.size := by omega
 have ho1 := ho.ext hx (fun _ _ h => h)
 have hx1 : Ext (upfrom B) w0 w1 := hx0.comp (hx.mono (fun _ _ h => h.elim))
 clear hgl hy
 have b0 := hb0.cell 0 _ rfl
 have b1 := hb0.cell 1 _ rfl
 have l0 := hl0.cell 0 _ rfl
 have l1 := hl0.cell 1 _ rfl
 have l2 := hl0.cell 2 _ rfl
 have l3 := hl0.cell 3 _ rfl
 have l4 := hl0.cell 4 _ rfl
 have l5 := hl0.cell 5 _ rfl
 have l6 := hl0.cell 6 _ rfl
 go_wp2_with fail
 refine (xnums_any _ B a (some ⟨w1.heap.size, 0, none⟩) c 7 n0 xs [C.err, C.n, C.dev, C.ep, C.til, C.last, (C.slices.length : Int)] (ho1.alloc _) (by simp; omega) (by omega) (Rd.lit w1 _ _ _) (fun _ ad h => by cases h; rintro ⟨ad', ha', he⟩; have := hlb ad' ha'; simp only at he; omega) (by simp) (by
  intro n hn
  simp at hn
  rcases hn with rfl | rfl | rfl | rfl | rfl | rfl | rfl
  ·exact hok.err
  ·exact hok.n
  ·exact hok.dev
  ·exact hok.ep
  ·exact hok.til
  ·exact hok.last
  ·exact len_ok (by omega))).mono ?_
 rintro e w2 ⟨a2, c2, rfl, hA2⟩
 have hA := App.pre (Ext.alloc no w1 _) hA2
 obtain ⟨E1, hE⟩ : ∃ E, E = [C.err, C.n, C.dev, C.ep, C.til, C.last, (C.slices.length : Int)].flatMap encI := ⟨_, rfl⟩
 rw [← hE] at hA ⊢
 have hEl : E1.length ≤ 70 := by
  rw [hE]
  exact encs_le (l := [C.err, C.n, C.dev, C.ep, C.til, C.last, (C.slices.length : Int)]) (by simp [hok.err, hok.n, hok.dev, hok.ep, hok.til, hok.last, len_ok (show C.slices.length ≤ 1000 by omega)])
 have HE1 := Lib.hid hE
 clear hE hA2 b0 b1
 go_wp2_with fail
 go_loopw [0, 6] (fun s0 s6 wr => ∃ (i : Nat) (E : List UInt8) (a' : Option Addr) (c' : Nat), i ≤ C.slices.length ∧ s6 = .int .i64 i ∧ E = E1 ++ (C.slices.take i).flatMap sliceEnc ∧ s0 = .slice a' (n0 + E.length) c' ∧ App w1 wr B 1 a n0 c xs a' c' E.length (bs E)) (fun _ s6 _ => C.slices.length - (intOf s6).toNat)
 case atStart => exact ⟨0, E1, a2, c2, Nat.zero_le _, rfl, by simp, rfl, hA⟩
 case round =>
  obtain ⟨i, E, a3, c3, hi, rfl, hE, rfl, happ⟩ := hrel
  have hEl2 : E.length ≤ 70 + 110 * C.slices.length := by
   rw [hE, List.length_append]
   have := flat_le (C.slices.take i) (f := sliceEnc) (k := 110) (fun x hx => sliceEnc_le (hok.slices x (List.mem_of_mem_take hx)) (hf.sk x (List.mem_of_mem_take hx)))
   rw [List.length_take] at this
   omega
  have HE := Lib.hid hE
  clear hE hA
  have z5 := happ.ext.keeps l4 hnl
  have hxr := hx1.comp (happ.up ho1)
  by_cases hlt : i < C.slices.length
  ·have d1 : decide (i < C.slices.length) = true := decT hlt
   obtain ⟨y, hym⟩ : ∃ y, C.slices[i]? = some y := ⟨_, List.getElem?_eq_getElem hlt⟩
   have hyk := hok.slices y (List.mem_of_getElem? hym)
   have hfy := hf.sk y (List.mem_of_getElem? hym)
   have hrq := rd_up hin.s hw0 hxr
   obtain ⟨ob, oof, hsb, _⟩ := rows_shape kSlice (by omega) hrq (by omega)
   rw [hsb] at hrq z5
   have y0 : wr.cell? ⟨ob, oof + i * 5, none⟩ = some (.string (str y.key)) := rows_cell kSlice hrq hym 0 _ rfl
   have y1 : wr.cell? ⟨ob, oof + i * 5 + 1, none⟩ = some (.int .i64 y.up) := rows_cell kSlice hrq hym 1 _ rfl
   have y2 : wr.cell? ⟨ob, oof + i * 5 + 2, none⟩ = some (.int .i64 y.down) := rows_cell kSlice hrq hym 2 _ rfl
   have y3 : wr.cell? ⟨ob, oof + i * 5 + 3, none⟩ = some (.int .i64 y.uu) := rows_cell kSlice hrq hym 3 _ rfl
   have y4 : wr.cell? ⟨ob, oof + i * 5 + 4, none⟩ = some (.int .i64 y.ud) := rows_cell kSlice hrq hym 4 _ rfl
   have HT := Lib.hid (flat_take sliceEnc C.slices i y hym)
   clear hrq hym hsb
   have hq := Blk.lit wr #[.string (str y.key), .int .i64 y.up, .int .i64 y.down, .int .i64 y.uu, .int .i64 y.ud] 64
   have hxq := Ext.alloc no wr (.cells #[.string (str y.key), .int .i64 y.up, .int .i64 y.down, .int .i64 y.uu, .int .i64 y.ud] 64)
   have ha3 : ∀ ad, a3 = some ad → ad.block < wr.heap.size := fun ad h => (happ.own.base ad h).2.1
   have hBw : B ≤ wr.heap.size := by have := happ.ext.size; omega
   have happ := happ.later hxq
   have hws : wr.heap.size < (wr.alloc (.cells #[.string (str y.key), .int .i64 y.up, .int .i64 y.down, .int .i64 y.uu, .int .i64 y.ud] 64)).heap.size := by simp
   go_upto_region 7 with fail
   generalize wr.alloc (.cells #[.string (str y.key), .int .i64 y.up, .int .i64 y.down, .int .i64 y.uu, .int .i64 y.ud] 64) = wb at *
   obtain ⟨gv, hgv⟩ : ∃ v, v = wr.heap.size := ⟨_, rfl⟩
   rw [← hgv] at hq hBw hws ⊢
   have hgv3 : ¬ blk a3 gv := by rintro ⟨ad, h, he⟩; have := ha3 ad h; omega
   have ha3 : ∀ ad, a3 = some ad → ad.block < wb.heap.size := fun ad h => by have := ha3 ad h; omega
   have hBw : B ≤ wb.heap.size := by omega
   have q0 := hq.cell 0 _ rfl
   have q1 := hq.cell 1 _ rfl
   have q2 := hq.cell 2 _ rfl
   have q3 := hq.cell 3 _ rfl
   have q4 := hq.cell 4 _ rfl
   have hints : ∀ n ∈ [y.up, y.down, y.uu, y.ud], I64ok n := by simp [hyk.up, hyk.down, hyk.uu, hyk.ud]
   clear hgv y0 y1 y2 y3 y4 z5 hxq
   refine wp_region_F [2, 5, 7, 9, 11] (looks [(2, fun z => Ext (blk a3) wb z), (5, fun z => Ext (blk a3) wb z), (7, fun z => Ext (blk a3) wb z), (9, fun z => Ext (blk a3) wb z), (11, fun z => Ext (blk a3) wb z)]) (by kernel_rfl) ?_
   have hXd := Ext.drew (blk a3) wb
   have hAd := happ.later (Ext.drew no wb)
   generalize wb.drew = wd at *
   have hT0 : ∀ k, looks [(2, fun z => Ext (blk a3) wb z), (5, fun z => Ext (blk a3) wb z), (7, fun z => Ext (blk a3) wb z), (9, fun z => Ext (blk a3) wb z), (11, fun z => Ext (blk a3) wb z)] k (wd) := looks_all ⟨hXd, hXd, hXd, hXd, hXd, trivial⟩
   refine wpF_tk 0 (v := ?_) rfl hT0 (by rfl) ?_ ?_
   rotate_left
   ·(intro wq; go_simp; try with_reducible rfl)
   simp only [pz]
   refine wpF_tk 1 (v := ?_) rfl hT0 (by rfl) ?_ ?_
   rotate_left
   ·(intro wq; go_simp; try with_reducible rfl)
   simp only [pz]
   refine wpF_lk 2 (v := .string (str y.key)) rfl hT0 (by rfl) (fun w hS => by have hS : Ext (blk a3) wb w := hS; have q := hS.keeps q0 hgv3; go_simp) ?_
   simp only [pz]
   refine wpF_tk 4 (v := ?_) rfl hT0 (by rfl) ?_ ?_
   rotate_left
   ·(intro wq; go_simp; try with_reducible rfl)
   simp only [pz]
   refine wpF_lk 5 (v := .int .i64 y.up) rfl hT0 (by rfl) (fun w hS => by have hS : Ext (blk a3) wb w := hS; have q := hS.keeps q1 hgv3; go_simp) ?_
   simp only [pz]
   refine wpF_tk 6 (v := ?_) rfl hT0 (by rfl) ?_ ?_
   rotate_left
   ·(intro wq; go_simp; try with_reducible rfl)
   simp only [pz]
   refine wpF_lk 7 (v := .int .i64 y.down) rfl hT0 (by rfl) (fun w hS => by have hS : Ext (blk a3) wb w := hS; have q := hS.keeps q2 hgv3; go_simp) ?_
   simp only [pz]
   refine wpF_tk 8 (v := ?_) rfl hT0 (by rfl) ?_ ?_
   rotate_left
   ·(intro wq; go_simp; try with_reducible rfl)
   simp only [pz]
   refine wpF_lk 9 (v := .int .i64 y.uu) rfl hT0 (by rfl) (fun w hS => by have hS : Ext (blk a3) wb w := hS; have q := hS.keeps q3 hgv3; go_simp) ?_
   simp only [pz]
   refine wpF_tk 10 (v := ?_) rfl hT0 (by rfl) ?_ ?_
   rotate_left
   ·(intro wq; go_simp; try with_reducible rfl)
   simp only [pz]
   refine wpF_lk 11 (v := .int .i64 y.ud) rfl hT0 (by rfl) (fun w hS => by have hS : Ext (blk a3) wb w := hS; have q := hS.keeps q4 hgv3; go_simp) ?_
   simp only [pz]
   refine wpF_execs [3, 12] (by kernel_rfl) (by simp) ?_
   intro j hj
   simp only [List.mem_cons, List.not_mem_nil, or_false] at hj
   rcases hj with rfl | rfl
   ·refine ⟨_, rfl, by rfl, ?_⟩
    intro K hK
    go_simp
    refine (rtext_any wd B a3 c3 _ _ y.key hAd.own (by have := hXd.size; have := hBw; omega) (by omega) (by omega)).mono ?_
    rintro e x1 ⟨aT, cT, rfl, hp⟩
    obtain ⟨F1, hF1, hl1, hA1⟩ := (hAd).more hp hlb
    rw [hl1]
    have HF1 := Lib.hid hF1
    have hF1l : F1.length ≤ E.length + 70 := by rw [hF1, List.length_append]; have := encT_le (t := y.key) (by omega); omega
    have hX1 : Ext (blk a3) wb x1 := (hXd).comp hp.ext
    clear hF1 hl1 hp
    have hT1 : ∀ k, looks [(2, fun z => Ext (blk a3) wb z), (5, fun z => Ext (blk a3) wb z), (7, fun z => Ext (blk a3) wb z), (9, fun z => Ext (blk a3) wb z), (11, fun z => Ext (blk a3) wb z)] k (x1) := looks_all ⟨hX1, hX1, hX1, hX1, hX1, trivial⟩
    refine hK _ _ (looks [(2, fun z => Ext (blk a3) wb z), (5, fun z => Ext (blk a3) wb z), (7, fun z => Ext (blk a3) wb z), (9, fun z => Ext (blk a3) wb z), (11, fun z => Ext (blk a3) wb z)]) ⟨.inr (.inl (by kernel_rfl)), .inr (.inr (fun x h => h)), .inr (.inr (fun x h => h)), .inr (.inr (fun x h => h)), .inr (.inr (fun x h => h)), trivial⟩ hT1 ?_
    clear hK K
    try simp only [pz]
    refine wpF_exec 12 rfl (by kernel_rfl) (by rfl) ?_
    intro K hK
    go_simp
    have hR : Rd (x1.alloc (.cells #[.int .i64 y.up, .int .i64 y.down, .int .i64 y.uu, .int .i64 y.ud] 3)) (some ⟨x1.heap.size, 0, none⟩) (is [y.up, y.down, y.uu, y.ud]) := Rd.lit x1 _ _ _
    have hXr := Ext.alloc no x1 (.cells #[.int .i64 y.up, .int .i64 y.down, .int .i64 y.uu, .int .i64 y.ud] 3)
    have hXs : Ext (blk a3) wb (x1.alloc (.cells #[.int .i64 y.up, .int .i64 y.down, .int .i64 y.uu, .int .i64 y.ud] 3)) := (hX1).comp (hXr.mono (fun _ _ h => h.elim))
    obtain ⟨rb, hrb⟩ : ∃ v, v = x1.heap.size := ⟨_, rfl⟩
    rw [← hrb] at hR ⊢
    have hRc : rb < (x1.alloc (.cells #[.int .i64 y.up, .int .i64 y.down, .int .i64 y.uu, .int .i64 y.ud] 3)).heap.size := by rw [hrb]; simp
    have hRb : ∀ ad, aT = some ad → ad.block ≠ rb := fun ad h => by have := (hA1.own.base ad h).2.1; omega
    have hA1 := hA1.later hXr
    clear hrb hXr
    generalize x1.alloc (.cells #[.int .i64 y.up, .int .i64 y.down, .int .i64 y.uu, .int .i64 y.ud] 3) = y2 at *
    have hT2 : ∀ k, looks [(2, fun z => Ext (blk a3) wb z), (5, fun z => Ext (blk a3) wb z), (7, fun z => Ext (blk a3) wb z), (9, fun z => Ext (blk a3) wb z), (11, fun z => Ext (blk a3) wb z)] k (y2) := looks_all ⟨hXs, hXs, hXs, hXs, hXs, trivial⟩
    refine hK _ _ (looks [(2, fun z => Ext (blk a3) wb z), (5, fun z => Ext (blk a3) wb z), (7, fun z => Ext (blk a3) wb z), (9, fun z => Ext (blk a3) wb z), (11, fun z => Ext (blk a3) wb z)]) ⟨.inr (.inr (fun x h => h)), .inr (.inl (by kernel_rfl)), .inr (.inl (by kernel_rfl)), .inr (.inl (by kernel_rfl)), .inr (.inl (by kernel_rfl)), trivial⟩ hT2 ?_
    clear hK K
    try simp only [pz]
    refine wpF_exec 13 rfl (by kernel_rfl) (by rfl) ?_
    intro K hK
    go_simp
    refine (xnums_any y2 B aT (some ⟨rb, 0, none⟩) cT 4 _ _ [y.up, y.down, y.uu, y.ud] hA1.own (by have := hXs.size; have := hBw; omega) (by omega) hR (fun _ ad h => by cases h; rintro ⟨ad', ha', he⟩; exact hRb ad' ha' he) (by simp) hints).mono ?_
    rintro e w9 ⟨a9, c9, rfl, hp⟩
    obtain ⟨F2, hF2, hl2, hA2⟩ := hA1.more hp hlb
    rw [hl2]
    have HF2 := Lib.hid hF2
    have hX9 := (hXs).comp ((Ext.refl (blk a3) y2).mono (fun _ _ h => h))
    clear hF2 hl2 hp
    have hT3 : ∀ k, looks [(2, fun z => True), (5, fun z => True), (7, fun z => True), (9, fun z => True), (11, fun z => True)] k (w9) := looks_all ⟨trivial, trivial, trivial, trivial, trivial, trivial⟩
    refine hK _ _ (looks [(2, fun z => True), (5, fun z => True), (7, fun z => True), (9, fun z => True), (11, fun z => True)]) ⟨.inr (.inl (by kernel_rfl)), .inr (.inl (by kernel_rfl)), .inr (.inl (by kernel_rfl)), .inr (.inl (by kernel_rfl)), .inr (.inl (by kernel_rfl)), trivial⟩ hT3 ?_
    clear hK K
    try simp only [pz]
    refine wpF_tk 14 (v := ?_) rfl hT3 (by rfl) ?_ ?_
    rotate_left
    ·(intro wq; go_simp; try with_reducible rfl)
    simp only [pz]
    refine wpF_done (by kernel_rfl) ?_ _
    go_wp2_with fail
    go_roundw
    case rel => exact ⟨i + 1, F2, a9, c9, by omega, by go_num, by rw [HF2.out, HF1.out, HE.out, HT.out, List.append_assoc, List.append_assoc]; rfl, rfl, hA2⟩
    case measure => simp [intOf]; omega
   ·refine ⟨_, rfl, by rfl, ?_⟩
    intro K hK
    go_simp
    have hR : Rd (wd.alloc (.cells #[.int .i64 y.up, .int .i64 y.down, .int .i64 y.uu, .int .i64 y.ud] 3)) (some ⟨wd.heap.size, 0, none⟩) (is [y.up, y.down, y.uu, y.ud]) := Rd.lit wd _ _ _
    have hXr := Ext.alloc no wd (.cells #[.int .i64 y.up, .int .i64 y.down, .int .i64 y.uu, .int .i64 y.ud] 3)
    have hXs : Ext (blk a3) wb (wd.alloc (.cells #[.int .i64 y.up, .int .i64 y.down, .int .i64 y.uu, .int .i64 y.ud] 3)) := (hXd).comp (hXr.mono (fun _ _ h => h.elim))
    obtain ⟨rb, hrb⟩ : ∃ v, v = wd.heap.size := ⟨_, rfl⟩
    rw [← hrb] at hR ⊢
    have hRc : rb < (wd.alloc (.cells #[.int .i64 y.up, .int .i64 y.down, .int .i64 y.uu, .int .i64 y.ud] 3)).heap.size := by rw [hrb]; simp
    have hRa' : ∀ ad, a3 = some ad → ad.block ≠ rb := fun ad h => by have := ha3 ad h; have := hXd.size; omega
    have hRa : ¬ blk a3 rb := by rintro ⟨ad, h, he⟩; exact hRa' ad h he
    have hB3 := (hAd).later hXr
    clear hrb hXr
    generalize wd.alloc (.cells #[.int .i64 y.up, .int .i64 y.down, .int .i64 y.uu, .int .i64 y.ud] 3) = y1 at *
    have hT1 : ∀ k, looks [(2, fun z => Ext (blk a3) wb z), (5, fun z => Ext (blk a3) wb z), (7, fun z => Ext (blk a3) wb z), (9, fun z => Ext (blk a3) wb z), (11, fun z => Ext (blk a3) wb z)] k (y1) := looks_all ⟨hXs, hXs, hXs, hXs, hXs, trivial⟩
    refine hK _ _ (looks [(2, fun z => Ext (blk a3) wb z), (5, fun z => Ext (blk a3) wb z), (7, fun z => Ext (blk a3) wb z), (9, fun z => Ext (blk a3) wb z), (11, fun z => Ext (blk a3) wb z)]) ⟨.inr (.inr (fun x h => h)), .inr (.inl (by kernel_rfl)), .inr (.inl (by kernel_rfl)), .inr (.inl (by kernel_rfl)), .inr (.inl (by kernel_rfl)), trivial⟩ hT1 ?_
    clear hK K
    try simp only [pz]
    refine wpF_exec 3 rfl (by kernel_rfl) (by rfl) ?_
    intro K hK
    go_simp
    refine (rtext_any y1 B a3 c3 _ _ y.key hB3.own (by have := hXs.size; have := hBw; omega) (by omega) (by omega)).mono ?_
    rintro e x2 ⟨aT, cT, rfl, hp⟩
    obtain ⟨F1, hF1, hl1, hA1⟩ := (hB3).more hp hlb
    rw [hl1]
    have HF1 := Lib.hid hF1
    have hF1l : F1.length ≤ E.length + 70 := by rw [hF1, List.length_append]; have := encT_le (t := y.key) (by omega); omega
    have hX1 : Ext (blk a3) wb x2 := (hXs).comp hp.ext
    have hR := hR.ext hp.ext (fun ad h => by cases h; exact hRa)
    have hRb := hp.apart hRc hRa'
    clear hF1 hl1 hp
    have hT2 : ∀ k, looks [(2, fun z => Ext (blk a3) wb z), (5, fun z => Ext (blk a3) wb z), (7, fun z => Ext (blk a3) wb z), (9, fun z => Ext (blk a3) wb z), (11, fun z => Ext (blk a3) wb z)] k (x2) := looks_all ⟨hX1, hX1, hX1, hX1, hX1, trivial⟩
    refine hK _ _ (looks [(2, fun z => Ext (blk a3) wb z), (5, fun z => Ext (blk a3) wb z), (7, fun z => Ext (blk a3) wb z), (9, fun z => Ext (blk a3) wb z), (11, fun z => Ext (blk a3) wb z)]) ⟨.inr (.inl (by kernel_rfl)), .inr (.inr (fun x h => h)), .inr (.inr (fun x h => h)), .inr (.inr (fun x h => h)), .inr (.inr (fun x h => h)), trivial⟩ hT2 ?_
    clear hK K
    try simp only [pz]
    refine wpF_exec 13 rfl (by kernel_rfl) (by rfl) ?_
    intro K hK
    go_simp
    refine (xnums_any x2 B aT (some ⟨rb, 0, none⟩) cT 4 _ _ [y.up, y.down, y.uu, y.ud] hA1.own (by have := hX1.size; have := hBw; omega) (by omega) hR (fun _ ad h => by cases h; rintro ⟨ad', ha', he⟩; exact hRb ad' ha' he) (by simp) hints).mono ?_
    rintro e w9 ⟨a9, c9, rfl, hp⟩
    obtain ⟨F2, hF2, hl2, hA2⟩ := hA1.more hp hlb
    rw [hl2]
    have HF2 := Lib.hid hF2
    have hX9 := (hX1).comp ((Ext.refl (blk a3) x2).mono (fun _ _ h => h))
    clear hF2 hl2 hp
    have hT3 : ∀ k, looks [(2, fun z => True), (5, fun z => True), (7, fun z => True), (9, fun z => True), (11, fun z => True)] k (w9) := looks_all ⟨trivial, trivial, trivial, trivial, trivial, trivial⟩
    refine hK _ _ (looks [(2, fun z => True), (5, fun z => True), (7, fun z => True), (9, fun z => True), (11, fun z => True)]) ⟨.inr (.inl (by kernel_rfl)), .inr (.inl (by kernel_rfl)), .inr (.inl (by kernel_rfl)), .inr (.inl (by kernel_rfl)), .inr (.inl (by kernel_rfl)), trivial⟩ hT3 ?_
    clear hK K
    try simp only [pz]
    refine wpF_tk 14 (v := ?_) rfl hT3 (by rfl) ?_ ?_
    rotate_left
    ·(intro wq; go_simp; try with_reducible rfl)
    simp only [pz]
    refine wpF_done (by kernel_rfl) ?_ _
    go_wp2_with fail
    go_roundw
    case rel => exact ⟨i + 1, F2, a9, c9, by omega, by go_num, by rw [HF2.out, HF1.out, HE.out, HT.out, List.append_assoc, List.append_assoc]; rfl, rfl, hA2⟩
    case measure => simp [intOf]; omega
  ·have d1 : decide (i < C.slices.length) = false := decF hlt
   have z6 := happ.ext.keeps l5 hnl
   have HF := Lib.hid (show E = E1 ++ C.slices.flatMap sliceEnc by rw [HE.out, List.take_of_length_le (by omega)])
   clear HE
   go_wp2_with fail
   refine (rint_any wr B a3 c3 _ _ (C.ids.length : Int) happ.own (by have := happ.ext.size; omega) (by omega) ⟨by omega, by omega⟩).mono ?_
   rintro e w5 ⟨a5, c5, rfl, hp⟩
   have hi5 := (encI_length (C.ids.length : Int) ⟨by omega, by omega⟩).1
   obtain ⟨E2, hE2, hl5, hA5⟩ := happ.more hp hlb
   rw [hl5]
   have hE2l : E2.length ≤ 4600 := by rw [hE2, List.length_append]; omega
   have HE2 := Lib.hid hE2
   clear hE2 hl5 hp happ hxr z5 z6 hlt hEl2 hi
   go_wp2_with fail
   go_loopw [0, 8] (fun s0 s8 wr => ∃ (i : Nat) (E : List UInt8) (a' : Option Addr) (c' : Nat), i ≤ C.ids.length ∧ s8 = .int .i64 i ∧ E = E2 ++ (C.ids.take i).flatMap rangeEnc ∧ s0 = .slice a' (n0 + E.length) c' ∧ App w1 wr B 1 a n0 c xs a' c' E.length (bs E)) (fun _ s8 _ => C.ids.length - (intOf s8).toNat)
   case atStart => exact ⟨0, E2, a5, c5, Nat.zero_le _, rfl, by simp, rfl, hA5⟩
   case round =>
    clear hA5
    obtain ⟨i, E, a3, c3, hi, rfl, hE, rfl, happ⟩ := hrel
    have hEl2 : E.length ≤ 4600 + 20 * C.ids.length := by
     rw [hE, List.length_append]
     have := flat_le (C.ids.take i) (f := rangeEnc) (k := 20) (fun x hx => rangeEnc_le (hok.ids x (List.mem_of_mem_take hx)))
     rw [List.length_take] at this
     omega
    have HE := Lib.hid hE
    clear hE
    have z5 := happ.ext.keeps l5 hnl
    have hxr := hx1.comp (happ.up ho1)
    have hBr : B ≤ wr.heap.size := by have := happ.ext.size; omega
    by_cases hlt : i < C.ids.length
    ·have d1 : decide (i < C.ids.length) = true := decT hlt
     obtain ⟨y, hym⟩ : ∃ y, C.ids[i]? = some y := ⟨_, List.getElem?_eq_getElem hlt⟩
     have hyk := hok.ids y (List.mem_of_getElem? hym)
     have hrq := rd_up hin.i hw0 hxr
     have hfar := rd_far hin.i hw0 happ.own (by intro e; have := congrArg List.length e; rw [rows_length kRange] at this; simp only [List.length_nil] at this; omega)
     obtain ⟨ob, oof, hsb, _⟩ := rows_shape kRange (by omega) hrq (by omega)
     have hnd : ¬ blk a3 ob := hfar _ hsb
     rw [hsb] at hrq z5
     have y0 : wr.cell? ⟨ob, oof + i * 2, none⟩ = some (.int .i64 y.lo) := rows_cell kRange hrq hym 0 _ rfl
     have y1 : wr.cell? ⟨ob, oof + i * 2 + 1, none⟩ = some (.int .i64 y.hi) := rows_cell kRange hrq hym 1 _ rfl
     have HT := Lib.hid (flat_take rangeEnc C.ids i y hym)
     have hnl3 : ¬ blk a3 gl := by
      rintro ⟨ad, ha, he⟩
      rcases happ.loc with ⟨e1, _⟩ | e1
      ·exact hnl ⟨ad, by rw [← e1]; exact ha, he⟩
      ·have := e1 ad ha; omega
     have hnl := hnl3
     clear hrq hym hsb hfar
     go_upto_region 12 with fail
     refine wp_region_F [2, 6, 8, 12] (looks [(2, fun z => Ext (blk a3) wr z), (6, fun z => Ext (blk a3) wr z), (8, fun z => Ext (blk a3) wr z), (12, fun z => Ext (blk a3) wr z)]) (by kernel_rfl) ?_
     have hT0 : ∀ k, looks [(2, fun z => Ext (blk a3) wr z), (6, fun z => Ext (blk a3) wr z), (8, fun z => Ext (blk a3) wr z), (12, fun z => Ext (blk a3) wr z)] k (wr.drew) := looks_all ⟨(Ext.drew (blk a3) wr), (Ext.drew (blk a3) wr), (Ext.drew (blk a3) wr), (Ext.drew (blk a3) wr), trivial⟩
     refine wpF_tk 0 (v := ?_) rfl hT0 (by rfl) ?_ ?_
     rotate_left
     ·(intro wq; go_simp; try with_reducible rfl)
     simp only [pz]
     refine wpF_tk 1 (v := ?_) rfl hT0 (by rfl) ?_ ?_
     rotate_left
     ·(intro wq; go_simp; try with_reducible rfl)
     simp only [pz]
     refine wpF_lk 2 (v := .slice (some ⟨ob, oof, none⟩) C.ids.length h.ic) rfl hT0 (by rfl) (fun w hS => by have hS : Ext (blk a3) wr w := hS; have q := hS.keeps z5 hnl; go_simp) ?_
     simp only [pz]
     refine wpF_tk 3 (v := ?_) rfl hT0 (by rfl) ?_ ?_
     rotate_left
     ·(intro wq; go_simp; try with_reducible rfl)
     simp only [pz]
     refine wpF_tk 4 (v := .pointer (some ⟨ob, oof + i * 2, none⟩)) rfl hT0 (by rfl) (by intro wq; go_simp) ?_
     simp only [pz]
     refine wpF_tk 5 (v := ?_) rfl hT0 (by rfl) ?_ ?_
     rotate_left
     ·(intro wq; go_simp; try with_reducible rfl)
     simp only [pz]
     refine wpF_lk 6 (v := .int .i64 y.lo) rfl hT0 (by rfl) (fun w hS => by have hS : Ext (blk a3) wr w := hS; have q := hS.keeps y0 hnd; go_simp) ?_
     simp only [pz]
     refine wpF_tk 7 (v := ?_) rfl hT0 (by rfl) ?_ ?_
     rotate_left
     ·(intro wq; go_simp; try with_reducible rfl)
     simp only [pz]
     refine wpF_lk 8 (v := .slice (some ⟨ob, oof, none⟩) C.ids.length h.ic) rfl hT0 (by rfl) (fun w hS => by have hS : Ext (blk a3) wr w := hS; have q := hS.keeps z5 hnl; go_simp) ?_
     simp only [pz]
     refine wpF_tk 9 (v := ?_) rfl hT0 (by rfl) ?_ ?_
     rotate_left
     ·(intro wq; go_simp; try with_reducible rfl)
     simp only [pz]
     refine wpF_tk 10 (v := .pointer (some ⟨ob, oof + i * 2, none⟩)) rfl hT0 (by rfl) (by intro wq; go_simp) ?_
     simp only [pz]
     refine wpF_tk 11 (v := ?_) rfl hT0 (by rfl) ?_ ?_
     rotate_left
     ·(intro wq; go_simp; try with_reducible rfl)
     simp only [pz]
     refine wpF_lk 12 (v := .int .i64 y.hi) rfl hT0 (by rfl) (fun w hS => by have hS : Ext (blk a3) wr w := hS; have q := hS.keeps y1 hnd; go_simp) ?_
     simp only [pz]
     refine wpF_exec 13 rfl (by kernel_rfl) (by rfl) ?_
     intro K hK
     go_simp
     have hT1 : ∀ k, looks [(2, fun z => Ext (blk a3) wr z), (6, fun z => Ext (blk a3) wr z), (8, fun z => Ext (blk a3) wr z), (12, fun z => Ext (blk a3) wr z)] k ((wr.alloc (.cells #[.int .i64 y.lo, .int .i64 y.hi] 3)).drew) := looks_all ⟨((Ext.alloc (blk a3) wr (.cells #[.int .i64 y.lo, .int .i64 y.hi] 3)).comp (Ext.drew _ _)), ((Ext.alloc (blk a3) wr (.cells #[.int .i64 y.lo, .int .i64 y.hi] 3)).comp (Ext.drew _ _)), ((Ext.alloc (blk a3) wr (.cells #[.int .i64 y.lo, .int .i64 y.hi] 3)).comp (Ext.drew _ _)), ((Ext.alloc (blk a3) wr (.cells #[.int .i64 y.lo, .int .i64 y.hi] 3)).comp (Ext.drew _ _)), trivial⟩
     refine hK _ _ (looks [(2, fun z => Ext (blk a3) wr z), (6, fun z => Ext (blk a3) wr z), (8, fun z => Ext (blk a3) wr z), (12, fun z => Ext (blk a3) wr z)]) ⟨.inr (.inl (by kernel_rfl)), .inr (.inl (by kernel_rfl)), .inr (.inl (by kernel_rfl)), .inr (.inl (by kernel_rfl)), trivial⟩ hT1 ?_
     clear hK K
     try simp only [pz]
     refine wpF_exec 14 rfl (by kernel_rfl) (by rfl) ?_
     intro K hK
     go_simp
     refine (xnums_any ((wr.alloc (.cells #[.int .i64 y.lo, .int .i64 y.hi] 3)).drew) B a3 (some ⟨wr.heap.size, 0, none⟩) c3 2 _ _ [y.lo, y.hi] ((happ.own.alloc _).drew) (by show B ≤ (wr.alloc (.cells #[.int .i64 y.lo, .int .i64 y.hi] 3)).heap.size; simp; omega) (by omega) ((Rd.lit wr _ _ _).drew) (fun _ ad h => by cases h; rintro ⟨ad', ha', he⟩; have := (happ.own.base ad' ha').2.1; simp only at he; omega) (by simp) (by simp [hyk.lo, hyk.hi])).mono ?_
     rintro e w9 ⟨a9, c9, rfl, hp⟩
     have hp' := App.pre ((Ext.alloc no wr (.cells #[.int .i64 y.lo, .int .i64 y.hi] 3)).comp (Ext.drew no _)) hp
     obtain ⟨F2, hF2, hl2, hA2⟩ := happ.more hp' hlb
     rw [hl2]
     have HF2 := Lib.hid hF2
     clear hF2 hl2 hp hp'
     have hT2 : ∀ k, looks [(2, fun z => True), (6, fun z => True), (8, fun z => True), (12, fun z => True)] k (w9) := looks_all ⟨trivial, trivial, trivial, trivial, trivial⟩
     refine hK _ _ (looks [(2, fun z => True), (6, fun z => True), (8, fun z => True), (12, fun z => True)]) ⟨.inr (.inl (by kernel_rfl)), .inr (.inl (by kernel_rfl)), .inr (.inl (by kernel_rfl)), .inr (.inl (by kernel_rfl)), trivial⟩ hT2 ?_
     clear hK K
     try simp only [pz]
     refine wpF_tk 15 (v := ?_) rfl hT2 (by rfl) ?_ ?_
     rotate_left
     ·(intro wq; go_simp; try with_reducible rfl)
     simp only [pz]
     refine wpF_done (by kernel_rfl) ?_ _
     go_wp2_with fail
     go_roundw
     case rel => exact ⟨i + 1, F2, a9, c9, by omega, by go_num, by rw [HF2.out, HE.out, HT.out, List.append_assoc]; rfl, rfl, hA2⟩
     case measure => simp [intOf]; omega
    ·have d1 : decide (i < C.ids.length) = false := decF hlt
     have z6 := happ.ext.keeps l6 hnl
     have HF2 := Lib.hid (show E = E2 ++ C.ids.flatMap rangeEnc by rw [HE.out, List.take_of_length_le (by omega)])
     have hru := rd_up hin.u hw0 hxr
     go_wp2_with fail
     refine (rints_any wr B a3 h.u c3 h.uc _ _ C.used happ.own hBr (by omega) hru (fun hl => rd_far hin.u hw0 happ.own (by intro e; have := congrArg List.length e; rw [is_length] at this; simp only [List.length_nil] at this; omega)) (by omega) hok.used).mono ?_
     rintro e w7 ⟨a7, c7, rfl, hp⟩
     obtain ⟨F, hF, hl7, hA7⟩ := happ.more hp hlb
     have HG := Lib.hid (show replyEnc C = F by rw [hF, HF2.out, HE2.out, HF.out, HE1.out]; unfold replyEnc encs; simp)
     rw [hl7]
     clear hF hl7 hp
     go_wp2_with fail
     go_ret
     rw [HG.out]
     exact ⟨a7, c7, rfl, App.pre hx hA7⟩
end Go.Proofs.YtddobhihjljcgaaGreat
