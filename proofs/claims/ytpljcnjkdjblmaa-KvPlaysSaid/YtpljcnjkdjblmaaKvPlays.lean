/- The walk of KvPlays. -/
import Derived.Test.YtpljcnjkdjblmaaKvTo
import Derived.Test.YtpljcnjkdjblmaaKvFe
import Derived.Test.YtpljcnjkdjblmaaKvGt
namespace Go.Esc
open Go.RowKit
/-- A batch that stays readable while blocks of the law's are written. -/
structure Batch (w0 w : World) (a : Option Addr) (L : List ChangeR) (c : Nat) (top : Nat) : Prop where
  rd : Rd w a (rows ChangeR.cells L)
  ok : ∀ x ∈ L, x.ok
  len : L.length ≤ c
  cap : c ≤ maxLen
  few : L.length ≤ 25
  far : L ≠ [] → ∀ ad, a = some ad → ad.block < w0.heap.size ∨ top ≤ ad.block
theorem Batch.keep {w0 w w' : World} {a : Option Addr} {L : List ChangeR} {c top : Nat} {S : Nat → Prop} (h : Batch w0 w a L c top) (hx : Ext S w w') (hS : ∀ k, S k → w0.heap.size ≤ k ∧ k < top) : Batch w0 w' a L c top := by
  refine ⟨?_, h.ok, h.len, h.cap, h.few, h.far⟩
  by_cases hL : L = []
  · rw [hL]; exact Rd.nil _ _
  · refine h.rd.ext hx (fun ad ha e => ?_)
    have h1 := hS _ e
    rcases h.far hL ad ha with h2 | h2 <;> omega
end Go.Esc
namespace Go.Proofs.Ytpljcnjkdjblmaa
open Go.RowKit Go.Esc
set_option linter.unusedVariables false
set_option linter.unusedSimpArgs false

set_option maxRecDepth 100000 in
set_option maxHeartbeats 32000000 in
theorem kvplays_walk (w : World) (la : Option Addr) (l : List ActR) (lc : Nat) (from' : List UInt8) (n co : Int) (key : List UInt8) (hr : Rd w la (rows ActR.cells l)) (hg : ∀ x ∈ l, x.good w) (hlc : l.length ≤ lc) (hcm : lc ≤ maxLen) (hfm : from'.length ≤ maxLen) (hn : I64ok n) (hco : I64ok co) (hkm : key.length ≤ maxLen) :
    Calls Try.prog 7 #[.slice la l.length lc, .string (str from'), .int .i64 n, .int .i64 co, .string (str key)] w fun e w' => e = .returned (.bool true) ∧ Ext no w w' := by
  have HG := Lib.hid hg
  have Hcm := Lib.hid hcm
  have Hkm := Lib.hid hkm
  unfold maxLen at hcm hfm hkm
  clear hg
  go_enter Try.func7, Try.ntmps7
  go_wp2_with fail
  refine (kvknown_any w).mono ?_
  rintro e w0 ⟨rfl, hx0⟩
  have hr0 := hr.ext hx0 (fun _ _ h => h)
  have hg0 : ∀ x ∈ l, x.good w0 := fun x hx => by
    have h := HG.out x hx
    exact ⟨h.kind, h.n, h.rd.ext hx0 (fun _ _ h => h), h.ok, h.len, h.cap⟩
  have HG0 := Lib.hid hg0
  clear hg0
  go_wp2_with fail
  refine (kvfew_any w0 la l lc hr0 HG0.out hlc Hcm.out).mono ?_
  rintro e _ ⟨r, rfl, hfew, rfl⟩
  cases r with
  | false =>
    clear hfew
    go_wp2_with fail
    go_ret
    exact ⟨rfl, hx0⟩
  | true =>
  have hf := hfew rfl
  have hl60 := hf.1
  have HF := Lib.hid hf
  clear hfew hf
  by_cases hf60 : 60 < from'.length
  · have d4 : decide ((60 : Int) < ((str from').size : Int)) = true := decT (by rw [str_size]; omega)
    have d4' : decide (60 < (str from').size) = true := decT (by rw [str_size]; omega)
    go_wp2_with fail
    go_ret
    exact ⟨rfl, hx0⟩
  have d4 : decide ((60 : Int) < ((str from').size : Int)) = false := decF (by rw [str_size]; omega)
  have d4' : decide (60 < (str from').size) = false := decF (by rw [str_size]; omega)
  by_cases hk60 : 60 < key.length
  · have d5 : decide ((60 : Int) < ((str key).size : Int)) = true := decT (by rw [str_size]; omega)
    have d5' : decide (60 < (str key).size) = true := decT (by rw [str_size]; omega)
    go_wp2_with fail
    go_ret
    exact ⟨rfl, hx0⟩
  have d5 : decide ((60 : Int) < ((str key).size : Int)) = false := decF (by rw [str_size]; omega)
  have d5' : decide (60 < (str key).size) = false := decF (by rw [str_size]; omega)
  go_wp2_with fail
  refine (newdisk_any w0 1048576 (by omega) (by omega) (fun _ => False)).mono ?_
  rintro e w1 ⟨g, rfl, hD, hgg, hx1⟩
  have hW1 := hx0.comp hx1
  have hgw : w.heap.size ≤ g := by have := hx0.size; omega
  have hw1 := hW1.size
  clear hx0 hx1 hgg hr0 HG0 d4 d4' d5 d5'
  go_wp2_with fail
  refine (kvfresh w1 g 1048576 hD (by omega)).mono ?_
  rintro e w2 ⟨s, j, b, rfl, hSt, ⟨h1, h2, h3⟩, hx2⟩
  have hW2 : Ext no w w2 := hW1.trans hx2 (fun k hk e => by have e : k = g := e; omega)
  have hw2 := hx2.size
  clear hx2 hD hW1
  go_upto_region 8 with fail
  have hTw := Two.start hSt 35
  have hxb := Ext.alloc no w2 (.cells #[.slice none 0 0, .slice none 0 0, .slice none 0 0] 35)
  generalize w2.alloc (.cells #[.slice none 0 0, .slice none 0 0, .slice none 0 0] 35) = w3 at *
  obtain ⟨x, hx⟩ : ∃ x, x = w2.heap.size := ⟨_, rfl⟩
  rw [← hx] at hTw ⊢
  have hwx : w.heap.size ≤ x := by have := hW2.size; omega
  have hW3 := hW2.comp hxb
  have hgg : ∀ k, three g s j k → w.heap.size ≤ k := fun k hk => by rcases hk with e | e | e <;> omega
  have HGG := Lib.hid hgg
  have HTw := Lib.hid hTw
  clear hx hxb hSt hTw hW2 hgg h1 h2 h3 hw2
  go_wp2_with fail
  go_loopw [13, 14, 16] (fun s13 s14 s16 wr => ∃ (i s j b n' : Nat) (ds : DS) (m : KvM) (X : KvX) (q : Trio) (D : Nat), s13 = .pointer (some ⟨s, 0, none⟩) ∧ s14 = .int .i64 0 ∧ s16 = .int .i64 i ∧ i ≤ l.length ∧ D ≤ 4 * i ∧ (∀ k, three g s j k → w.heap.size ≤ k) ∧ Two wr g s j b x ds n' m X q 1048576 0 D ∧ Ext no w wr) (fun _ _ s16 _ => l.length - (intOf s16).toNat)
  case atStart => exact ⟨0, s, j, b, 0, _, _, _, _, 0, rfl, rfl, rfl, Nat.zero_le _, by omega, HGG.out, HTw.out, hW3⟩
  case round =>
    clear HTw HGG hW3
    obtain ⟨i, s, j, b, n', ds, m, X, q, D, rfl, rfl, rfl, hil, hDi, hgg, hTw, hW⟩ := hrel
    have HGG := Lib.hid hgg
    have HTw := Lib.hid hTw
    clear hgg hTw
    by_cases hin : i < l.length
    · have d1 : decide (i < l.length) = true := decT hin
      obtain ⟨t, ht⟩ : ∃ t, l[i]? = some t := ⟨_, List.getElem?_eq_getElem hin⟩
      have htg := HG.out t (List.mem_of_getElem? ht)
      have htf := (HF.out.2 t (List.mem_of_getElem? ht)).1
      obtain ⟨ob, off, hsa, _⟩ := rows_shape kAct (by omega) hr (by omega)
      subst hsa
      have hrr := hr.ext hW (fun _ _ h => h)
      have y1 : wr.cell? ⟨ob, off + i * 3 + 1, none⟩ = some (.int .i64 t.n) := rows_cell kAct hrr ht 1 _ rfl
      have y2 : wr.cell? ⟨ob, off + i * 3 + 2, none⟩ = some (.slice t.a t.l.length t.c) := rows_cell kAct hrr ht 2 _ rfl
      have HT0 := Lib.hid ht
      have hwr := hW.size
      have hbat : Batch w wr t.a t.l t.c wr.heap.size := ⟨htg.rd.ext hW (fun _ _ h => h), htg.ok, htg.len, htg.cap, htf, fun hne ad ha => by
        obtain ⟨b0, o0, h1, h2⟩ := rows_shape kChange (by omega) htg.rd (by cases hh : t.l with | nil => exact absurd hh hne | cons _ _ => simp)
        rw [ha] at h1
        cases h1
        exact .inl h2⟩
      have HBat := Lib.hid hbat
      have htk := htg.kind
      clear hrr ht htg htf hbat
      obtain ⟨tt, htt⟩ : ∃ tt : Bool, decide (0 < t.n.tmod 4) = tt := ⟨_, rfl⟩
      obtain ⟨T, hT⟩ : ∃ T, T = wr.heap.size := ⟨_, rfl⟩
      have hT1 : T ≤ wr.heap.size := by omega
      have hT2 : wr.heap.size ≤ T := by omega
      rw [← hT] at HBat
      clear hT
      go_upto_if 70 with fail
      clear htt
      go_cut [17] (fun s17 wx => ∃ (a : Option Addr) (L : List ChangeR) (c : Nat), s17 = .slice a L.length c ∧ Batch w wx a L c T ∧ Ext no wr wx)
      case first =>
        cases tt with
        | true =>
          go_wp2_with fail
          refine (kvgood_any wr t.a t.l t.c HBat.out.rd HBat.out.ok HBat.out.len HBat.out.cap).mono ?_
          rintro e w1 ⟨ga, gc, rfl, hog, hxg⟩
          have hGl := goodL_len t.l
          have hGo := goodL_ok t.l HBat.out.ok
          generalize goodL t.l = G at *
          have HB := Lib.hid (show Batch w w1 ga G gc T from ⟨hog.rd, hGo, hog.nc, hog.cm, by omega, fun _ ad ha => .inr (by have := (hog.base ad ha).1; omega)⟩)
          clear hog hGo
          go_wp2_with fail
          go_meet
          exact ⟨ga, G, gc, rfl, HB.out, hxg⟩
        | false =>
          go_wp2_with fail
          go_meet
          exact ⟨t.a, t.l, t.c, rfl, HBat.out, Ext.refl _ _⟩
      case rest =>
      obtain ⟨a, L, c, rfl, hbat, hxc⟩ := hcut
      have HB := Lib.hid hbat
      have h3T : ∀ k, three g s j k → w.heap.size ≤ k ∧ k < T := fun k hk => ⟨HGG.out k hk, by have := HTw.out.three_lt k hk; omega⟩
      have H3T := Lib.hid h3T
      have hxT : x < T := by have := HTw.out.kx.blk.lt (by simp); omega
      have hfe := hbat.few
      have hTc := hxc.size
      clear hbat h3T y1 y2 HBat
      have hf : Rd (wc.alloc (.cells #[] 39)) a (rows ChangeR.cells L) := HB.out.rd.ext (Ext.alloc no wc _) (fun _ _ h => h)
      obtain ⟨B, hBB⟩ : ∃ B, B = wc.heap.size := ⟨_, rfl⟩
      have hz : Own (wc.alloc (.cells #[] 39)) B (some ⟨wc.heap.size, 0, none⟩) 4 0 0 [] := by rw [hBB]; exact Own.fresh wc _ _ _ _ _ _ _ _ (Nat.le_refl _) (by simp) (Nat.le_refl _) (Nat.zero_le _) (by simp) (by simp) (.inl (Nat.le_refl _))
      have hB3 : B ≤ wc.heap.size := by omega
      have hB4 : wc.heap.size ≤ B := by omega
      clear hBB
      go_wp2_with (at_builtin; refine wpList_append TChange rfl rfl rfl hz rfl hf (by rw [rows_length kChange]) (oneChange _) ?c1 ?c2 (by simp; omega) ?_)
      case c1 => unfold maxLen; omega
      case c2 => omega
      intro a1 c1 u1 hp1
      try rw [Nat.zero_add]
      have ho1 := hp1.own
      rw [Nat.zero_add, List.nil_append] at ho1
      have hxA : Ext no wc u1 := (Ext.alloc no _ _).trans hp1.ext (fun k hk => by rintro ⟨ad, h, hb⟩; cases h; simp only at hb; omega)
      have hWu := (hW.comp hxc).comp hxA
      have hTu := HTw.out.no (hxc.comp hxA)
      have HBu := Lib.hid (HB.out.keep hxA (fun _ h => h.elim))
      have hTuz := hxA.size
      have HTu := Lib.hid hTu
      have hor := ho1.rd
      have hon := ho1.nc
      have hoc := ho1.cm
      have hnle := hTu.kp.nle
      have hdle := hTu.kp.dle
      have hfewX := hTu.few
      have hml : m.length ≤ 300 := by have := hTu.tells.len; omega
      clear hp1 hz hf ho1 hxA hTu
      go_wp2_with fail
      refine (kvapply_all u1 g s j b n' ds m X (fun i => i = x) HTu.out.st HTu.out.tells HTu.out.good (HTu.out.kp.ok (by omega) (by omega) (by omega)) (by omega) (by omega) hml a1 L c1 hor HB.out.ok hon hoc).mono ?_
      rintro e w4 ⟨rfl, b', hS4, hb', hx4⟩
      rcases ap_ends HTu.out.kp HTu.out.tells HTu.out.good HTu.out.few L with ⟨e1, e2, e3, e4, e5⟩ | ⟨_, _, hr', _⟩ | ⟨_, _, hL, _⟩
      case inr.inl => omega
      case inr.inr => omega
      rw [e1]
      have hk4 := HTu.out.kx1 hx4
      clear e1 hor
      generalize apR ds n' m L (kvEnc (wholeX X)) = AR at *
      generalize apM ds n' m L (kvEnc (wholeX X)) = m2 at *
      have HB4 := Lib.hid (HBu.out.keep hx4 (fun k hk => H3T.out k hk))
      have hW4 : Ext no w w4 := hWu.trans hx4 (fun k hk e => by have := (H3T.out k e).1; omega)
      have hx4s := hx4.size
      go_wp2_with fail
      refine (kvof_any w4 a L c HB4.out.rd (by omega)).mono ?_
      rintro e w5 ⟨oa, oc, rfl, hoo, hxo⟩
      have hxos := hxo.size
      go_wp2_with fail
      refine (rapply_any w5 x X q (hk4.no hxo) (by omega) oa L oc hoo.rd HB.out.ok (fun ad ha => by have := (hoo.base ad ha).1; omega) (by omega)).mono ?_
      rintro e w6 ⟨rfl, q', hk6, hF6, hx6⟩
      have hT6 := HTu.out.step hb' (hS4.no hxo) (hx4.comp (hxo.mono (fun _ _ h => h.elim))) hk6 hF6 hx6 e3 e4 e5 e2
      have hW6 : Ext no w w6 := (hW4.comp hxo).trans hx6 (fun k hk e => by have e : k = x := e; omega)
      have HT6 := Lib.hid hT6
      generalize xAp X L = Z at *
      generalize xErr X L = K at *
      obtain ⟨ds2, n2, E⟩ := AR
      have y0 : w6.cell? ⟨ob, off + i * 3, none⟩ = some (.int .i64 t.kind) := rows_cell kAct (hr.ext hW6 (fun _ _ h => h)) HT0.out 0 _ rfl
      clear e2 e3 e4 e5 hT6 hk6 hF6 hx6 hxo hoo hk4 hS4 hx4 hW4 HB4 hWu HTu HBu HB hW HTw
      go_wp2_with fail
      refine (kvwithin_any t.kind 8 w6 (by omega) (by omega) htk).mono ?_
      rintro e _ ⟨rfl, rfl⟩
      obtain ⟨t2, ht2⟩ : ∃ t2 : Bool, decide (6 ≤ t.kind % 8) = t2 := ⟨_, rfl⟩
      go_upto_if 89 with fail
      clear ht2
      go_cut [13, 14] (fun s13 s14 wx => ∃ (s j b n' : Nat) (ds : DS) (m : KvM), s13 = .pointer (some ⟨s, 0, none⟩) ∧ s14 = .int .i64 0 ∧ (∀ k, three g s j k → w.heap.size ≤ k) ∧ Two wx g s j b x ds n' m Z q' 1048576 0 (D + 4) ∧ Ext no w wx)
      case first =>
        cases t2 with
        | true =>
          go_wp2_with fail
          have hdl := HT6.out.kp.dle
          refine (kvopen_opens w6 g ds2 (fun i => i = x) (HT6.out.st.dkM.fewer (fun k _ e => .inr e)) HT6.out.st.mlt (HT6.out.kp.ok (by omega) (by omega) (by omega)) Z 1048576 (D + 3 + 1) HT6.out.kp.opens).mono ?_
          rintro e w7 ⟨s', j', b5, ds5, n5, m5, rfl, hS5, ⟨q1, q2, q3⟩, ht5, hg5, hk5, hx5⟩
          have HR := Lib.hid (HT6.out.reopened hS5 ⟨q1, q2, q3⟩ ht5 hk5 hx5)
          have hW7 : Ext no w w7 := hW6.trans hx5 (fun k hk e => by have e : k = g := e; omega)
          have hwc := hW6.size
          clear hS5 ht5 hg5 hk5 hx5
          go_wp2_with fail
          go_meet
          exact ⟨s', j', b5, n5, ds5, m5, rfl, rfl, fun k hk => by rcases hk with e | e | e <;> omega, HR.out, hW7⟩
        | false =>
          go_wp2_with fail
          go_meet
          have hT := HT6.out
          exact ⟨s, j, b', n2, ds2, m2, rfl, rfl, HGG.out, ⟨hT.st, hT.kx, hT.tells, hT.good, hT.few, hT.kp.more (by omega), hT.xn, hT.off⟩, hW6⟩
      case rest =>
      obtain ⟨s5, j5, b5, n5, ds5, m5, rfl, rfl, hgg5, hT5, hW5⟩ := hcut
      have HT5 := Lib.hid hT5
      have HGG5 := Lib.hid hgg5
      clear hT5 hgg5 HT6 y0 hW6
      go_wp2_with fail
      refine (kvsame_any wc s5 j5 b5 m5 Z x Z q' HT5.out.st.st.blk HT5.out.st.st.mp HT5.out.tells HT5.out.few HT5.out.kx HT5.out.few).mono ?_
      rw [(sameX_iff Z Z).2 rfl]
      rintro e w8 ⟨rfl, hx8⟩
      have hW8 := hW5.comp hx8
      go_wp2_with fail
      go_roundw
      case rel => exact ⟨i + 1, s5, j5, b5, n5, ds5, m5, Z, q', D + 4, rfl, rfl, by go_num, by omega, by omega, HGG5.out, HT5.out.no hx8, hW8⟩
      case measure => simp [intOf]; omega
    · have d1 : decide (i < l.length) = false := decF hin
      have hm0 := Int.emod_nonneg co (show (3 : Int) ≠ 0 by omega)
      have hm1 := Int.emod_lt_of_pos co (show (0 : Int) < 3 by omega)
      have HC := Lib.hid (show co % 3 = 0 ∨ co % 3 = 1 ∨ co % 3 = 2 by omega)
      have hml : m.length ≤ 300 := by have := HTw.out.tells.len; have := HTw.out.few; omega
      have hXl := HTw.out.few
      go_wp2_with fail
      refine (kvwithin_any co 3 wr (by omega) (by omega) hco).mono ?_
      rintro e _ ⟨rfl, rfl⟩
      obtain ⟨cc, hcc⟩ : ∃ cc, co % 3 = cc := ⟨_, rfl⟩
      have HCC := Lib.hid hcc
      have HC := Lib.hid (show cc = 0 ∨ cc = 1 ∨ cc = 2 by rw [← hcc]; exact HC.out)
      rw [HCC.out]
      clear hcc hm0 hm1
      obtain ⟨P, hP⟩ : ∃ P, P = (scanX X cc from').take n.toNat := ⟨_, rfl⟩
      have HP := Lib.hid hP
      clear hP
      go_wp2_with fail
      refine (kvscanX_any wr s j b m X cc from' n HTw.out.st.st.blk HTw.out.st.st.mp HTw.out.tells HC.out (by omega)).mono ?_
      rw [← HP.out]
      rintro e w1 ⟨a1, c1, rfl, ho1, hx1⟩
      go_wp2_with fail
      refine (kvwithin_any co 3 w1 (by omega) (by omega) hco).mono ?_
      rintro e _ ⟨rfl, rfl⟩
      rw [HCC.out]
      go_wp2_with fail
      refine (rscan_any w1 x X q (HTw.out.kx.no hx1) (most_of (by omega)) cc HC.out from' n).mono ?_
      rw [← HP.out]
      rintro e w2 ⟨a2, c2, rfl, ho2, hx2⟩
      have hr1 := ho1.rd.ext hx2 (fun _ _ h => h)
      have hr2 := ho2.rd
      have hT2 := HTw.out.no (hx1.comp hx2)
      have hW2 := (hW.comp hx1).comp hx2
      obtain ⟨g1, g2⟩ := get_same hT2.tells HC.out key
      have HT2 := Lib.hid hT2
      have HG1 := Lib.hid g1
      have HG2 := Lib.hid g2
      have hPl : P.length ≤ 300 := by
        rw [HP.out, List.length_take]
        have h1 := List.length_filter_le (fun r : PairR => !Op.bytesLess r.key from') (X.row cc)
        have h2 := row_len X cc
        unfold scanX
        omega
      clear ho1 ho2 hx1 hx2 hT2 g1 g2 HTw hW
      go_wp2_with fail
      refine (kvwithin_any co 3 w2 (by omega) (by omega) hco).mono ?_
      rintro e _ ⟨rfl, rfl⟩
      rw [HCC.out]
      go_wp2_with fail
      refine (kvget_any w2 s j b m cc key HT2.out.st.st.blk HT2.out.st.st.mp ⟨by have := HC.out; constructor <;> simp only <;> omega, Hkm.out⟩).mono ?_
      rw [HG1.out, HG2.out]
      rintro e _ ⟨rfl, rfl⟩
      go_wp2_with fail
      refine (kvwithin_any co 3 w2 (by omega) (by omega) hco).mono ?_
      rintro e _ ⟨rfl, rfl⟩
      rw [HCC.out]
      go_wp2_with fail
      refine (rget_any w2 x X q HT2.out.kx (most_of (by omega)) cc HC.out key).mono ?_
      rintro e _ ⟨rfl, rfl⟩
      generalize (rGet (X.row cc) key).getD [] = vv at *
      generalize (rGet (X.row cc) key).isSome = vb at *
      have q1 : ((str vv).toList == (str vv).toList) = true := beqStrT rfl
      go_wp2_with fail
      go_loopw [24] (fun s24 wr => ∃ i : Nat, s24 = .int .i64 i ∧ i ≤ P.length ∧ Ext no w2 wr) (fun s24 _ => P.length - (intOf s24).toNat)
      case atStart => exact ⟨0, rfl, Nat.zero_le _, Ext.refl _ _⟩
      case round =>
        obtain ⟨k, rfl, hkl, hx⟩ := hrel
        by_cases hkn : k < P.length
        · have d3 : decide (k < P.length) = true := decT hkn
          obtain ⟨r1, h1⟩ : ∃ r, P[k]? = some r := ⟨_, List.getElem?_eq_getElem hkn⟩
          obtain ⟨b1, o1, hs1, _⟩ := rows_shape kPair (by omega) hr1 (by omega)
          subst hs1
          obtain ⟨b2, o2, hs2, _⟩ := rows_shape kPair (by omega) hr2 (by omega)
          subst hs2
          have hrr1 := hr1.ext hx (fun _ _ h => h)
          have hrr2 := hr2.ext hx (fun _ _ h => h)
          have y0 : wr.cell? ⟨b1, o1 + k * 2, none⟩ = some (.string (str r1.key)) := rows_cell kPair hrr1 h1 0 _ rfl
          have y1 : wr.cell? ⟨b1, o1 + k * 2 + 1, none⟩ = some (.string (str r1.val)) := rows_cell kPair hrr1 h1 1 _ rfl
          have z0 : wr.cell? ⟨b2, o2 + k * 2, none⟩ = some (.string (str r1.key)) := rows_cell kPair hrr2 h1 0 _ rfl
          have z1 : wr.cell? ⟨b2, o2 + k * 2 + 1, none⟩ = some (.string (str r1.val)) := rows_cell kPair hrr2 h1 1 _ rfl
          have d4 : ((str r1.key).toList == (str r1.key).toList) = true := beqStrT rfl
          have d5 : ((str r1.val).toList == (str r1.val).toList) = true := beqStrT rfl
          clear hrr1 hrr2 h1
          go_upto_region 32 with fail
          go_quiet (fail)
          have hxq := hx.comp (Ext.drewN no wr nq)
          generalize wr.drewN nq = wz at *
          clear y0 y1 z0 z1
          go_wp2_with fail
          go_roundw
          case rel => exact ⟨k + 1, by go_num, by omega, hxq⟩
          case measure => simp [intOf]; omega
        · have d3 : decide (k < P.length) = false := decF hkn
          go_wp2_with fail
          go_ret
          exact ⟨rfl, hW2.comp hx⟩
end Go.Proofs.Ytpljcnjkdjblmaa
