/- The reference's Get, Has, less, ahead, in. -/
import Derived.Test.YtejmmkjpncpedaaGreatCoE
import Derived.Test.YtejmmkjpncpedaaGreatCrP
import Derived.Test.YtejmmkjpncpedaaGreatOpD
import Derived.BigQuiet
import Derived.Deep.QuietTactic
namespace Go.Esc
open Go.RowKit
theorem Ext.drewN (S : Nat → Prop) (w : World) (n : Nat) : Ext S w (w.drewN n) := ⟨rfl, rfl, rfl, Nat.le_refl _, fun _ _ _ => rfl⟩
theorem Rd.no {w w' : World} {a : Option Addr} {cs : List Value} (h : Rd w a cs) (hx : Ext no w w') : Rd w' a cs := h.ext hx (fun _ _ h => h)
section
variable {α K : Type} [DecidableEq K] {κ : α → K} {lt : K → K → Bool}
/-- Ahead of the place all are less; what stands there is not. -/
theorem pos_lt (key : K) (l : List α) : ∀ (j : Nat) (x : α), j < posOf κ lt key l → l[j]? = some x → lt (κ x) key = true := by
  induction l with
  | nil => intro j x h; simp [posOf] at h
  | cons y l ih =>
    intro j x h hx
    rw [posOf_cons] at h
    split at h
    · rename_i hy
      cases j with
      | zero => rw [List.getElem?_cons_zero] at hx; cases hx; exact hy
      | succ j => rw [List.getElem?_cons_succ] at hx; exact ih j x (by omega) hx
    · omega
theorem pos_at (key : K) (l : List α) : ∀ x : α, l[posOf κ lt key l]? = some x → lt (κ x) key = false := by
  induction l with
  | nil => intro x hx; simp at hx
  | cons y l ih =>
    intro x hx
    rw [posOf_cons] at hx
    split at hx
    · rw [List.getElem?_cons_succ] at hx; exact ih x hx
    · rename_i hy
      rw [List.getElem?_cons_zero] at hx
      cases hx
      simpa using hy
end
theorem refIn_take (l : List DotR) (d x : DotR) (i : Nat) (h : l[i]? = some x) (hf : refIn (l.take i) d = false) (hx : x ≠ d) : refIn (l.take (i + 1)) d = false := by
  have hi := (List.getElem?_eq_some_iff.1 h).1
  have e : l.take (i + 1) = l.take i ++ [x] := by rw [List.take_succ_eq_append_getElem hi, (List.getElem?_eq_some_iff.1 h).2]
  unfold refIn at *
  rw [e, List.any_append, hf]
  simp [hx]
theorem refIn_true (l : List DotR) (d : DotR) (i : Nat) (h : l[i]? = some d) : refIn l d = true := by
  unfold refIn
  rw [List.any_eq_true]
  exact ⟨d, List.mem_of_getElem? h, by simp⟩
/-- What was not found among the first. -/
theorem seen_at (v : List DotR) (d e : Int) (i : Nat) (x : DotR) (h : v[i]? = some x) (hx : x.dev = d ∧ x.ep = e) (hf : ∀ j y, j < i → v[j]? = some y → ¬ (y.dev = d ∧ y.ep = e)) : seen v d e = x.seq := by
  have : look DotR.pair (d, e) v = some x := by
    unfold look
    have hi := (List.getElem?_eq_some_iff.1 h).1
    rw [List.find?_eq_some_iff_getElem]
    refine ⟨by simp [DotR.pair, hx.1, hx.2], i, hi, (List.getElem?_eq_some_iff.1 h).2, ?_⟩
    intro j hj
    have := hf j v[j] hj (List.getElem?_eq_getElem (by omega))
    simp only [DotR.pair, Prod.mk.injEq, Bool.not_eq_true', decide_eq_false_iff_not]
    exact this
  unfold seen
  rw [this]
theorem seen_none (v : List DotR) (d e : Int) (hf : ∀ j y, j < v.length → v[j]? = some y → ¬ (y.dev = d ∧ y.ep = e)) : seen v d e = 0 := by
  have : look DotR.pair (d, e) v = none := by
    unfold look
    rw [List.find?_eq_none]
    intro x hx
    obtain ⟨j, hj, hjx⟩ := List.getElem_of_mem hx
    have := hf j x hj (by rw [List.getElem?_eq_getElem hj, hjx])
    simp only [DotR.pair, Prod.mk.injEq, decide_eq_true_eq]
    exact this
  unfold seen
  rw [this]
end Go.Esc
namespace Go.Proofs.YtejmmkjpncpedaaGreat
open Go.RowKit Go.Esc
theorem eqEntry_ne' {x y : DotR} (h : x ≠ y) : x.dev = y.dev → x.ep = y.ep → ¬ x.seq = y.seq := by
  intro h0 h1 h2
  apply h
  obtain ⟨x0, x1, x2⟩ := x
  obtain ⟨y0, y1, y2⟩ := y
  simp only at *
  simp_all
set_option linter.unusedVariables false
set_option linter.unusedSimpArgs false
set_option maxRecDepth 100000 in
set_option maxHeartbeats 4000000 in
theorem less7_any (w : World) (x y : DotR) :
    Calls Tryz.prog 95 #[.agg #[.int .i64 x.dev, .int .i64 x.ep, .int .i64 x.seq], .agg #[.int .i64 y.dev, .int .i64 y.ep, .int .i64 y.seq]] w fun e w' => e = .returned (.bool (pairLt x.pair y.pair)) ∧ Ext no w w' := by
  obtain ⟨r, hr⟩ : ∃ r, r = pairLt x.pair y.pair := ⟨_, rfl⟩
  have Hr := Lib.hid hr
  rw [← hr]
  clear hr
  go_enter Tryz.func95, Tryz.ntmps95
  go_upto_region 1 with fail
  have hb1 := Blk.lit w #[.int .i64 x.dev, .int .i64 x.ep, .int .i64 x.seq] 38
  have hx1 := Ext.alloc no w (.cells #[.int .i64 x.dev, .int .i64 x.ep, .int .i64 x.seq] 38)
  have hb2 := Blk.at (w.alloc (.cells #[.int .i64 x.dev, .int .i64 x.ep, .int .i64 x.seq] 38)) #[.int .i64 y.dev, .int .i64 y.ep, .int .i64 y.seq] 38 (w.heap.size + 1) (by simp)
  have hx2 := Ext.alloc no (w.alloc (.cells #[.int .i64 x.dev, .int .i64 x.ep, .int .i64 x.seq] 38)) (.cells #[.int .i64 y.dev, .int .i64 y.ep, .int .i64 y.seq] 38)
  have hb1' := hb1.ext (by simp) hx2 (fun h => h)
  replace hx1 := hx1.comp hx2
  clear hb1 hx2
  generalize (w.alloc (.cells #[.int .i64 x.dev, .int .i64 x.ep, .int .i64 x.seq] 38)).alloc (.cells #[.int .i64 y.dev, .int .i64 y.ep, .int .i64 y.seq] 38) = w1 at *
  have p0 := hb1'.cell 0 _ rfl
  have q0 := hb2.cell 0 _ rfl
  have p1 := hb1'.cell 1 _ rfl
  have q1 := hb2.cell 1 _ rfl
  have p2 := hb1'.cell 2 _ rfl
  have q2 := hb2.cell 2 _ rfl
  clear hb1' hb2
  by_cases h0 : x.dev < y.dev
  · have c0 : decide (x.dev < y.dev) = true := decT h0
    have HR := Lib.hid (show r = true by rw [Hr.out]; exact (show (decide (x.dev < y.dev) || (decide (x.dev = y.dev) && decide (x.ep < y.ep))) = true by rw [c0]; rfl))
    clear h0
    go_wp2_with fail
    go_ret
    exact ⟨by rw [HR.out]; rfl, hx1⟩
  · have c0 : decide (x.dev < y.dev) = false := decF h0
    by_cases h1 : x.dev = y.dev
    · have c1 : decide (x.dev = y.dev) = true := decT h1
      have g1 : (x.dev == y.dev) = true := by simpa using h1
      cases h2 : decide (x.ep < y.ep) with
      | true =>
        have HR := Lib.hid (show r = true by rw [Hr.out]; exact (show (decide (x.dev < y.dev) || (decide (x.dev = y.dev) && decide (x.ep < y.ep))) = true by rw [c0, c1, h2]; rfl))
        clear h0 h1
        go_wp2_with fail
        go_ret
        exact ⟨by rw [HR.out]; rfl, hx1⟩
      | false =>
        have HR := Lib.hid (show r = false by rw [Hr.out]; exact (show (decide (x.dev < y.dev) || (decide (x.dev = y.dev) && decide (x.ep < y.ep))) = false by rw [c0, c1, h2]; rfl))
        clear h0 h1
        go_wp2_with fail
        go_ret
        exact ⟨by rw [HR.out]; rfl, hx1⟩
    · have c1 : decide (x.dev = y.dev) = false := decF h1
      have g1 : (x.dev == y.dev) = false := by simpa using h1
      have HR := Lib.hid (show r = false by rw [Hr.out]; exact (show (decide (x.dev < y.dev) || (decide (x.dev = y.dev) && decide (x.ep < y.ep))) = false by rw [c0, c1]; rfl))
      clear h0 h1
      go_wp2_with fail
      go_ret
      exact ⟨by rw [HR.out]; rfl, hx1⟩
set_option maxRecDepth 100000 in
set_option maxHeartbeats 4000000 in
theorem ahead_any (w : World) (x y : ElemR) :
    Calls Tryz.prog 68 #[.agg #[.string (str x.key), .string (str x.text), .int .i64 x.ver, .int .i64 x.dot.dev, .int .i64 x.dot.ep, .int .i64 x.dot.seq], .agg #[.string (str y.key), .string (str y.text), .int .i64 y.ver, .int .i64 y.dot.dev, .int .i64 y.dot.ep, .int .i64 y.dot.seq]] w fun e w' => e = .returned (.bool (elemLt x.k3 y.k3)) ∧ Ext no w w' := by
  obtain ⟨r, hr⟩ : ∃ r, r = elemLt x.k3 y.k3 := ⟨_, rfl⟩
  have Hr := Lib.hid hr
  rw [← hr]
  clear hr
  go_enter Tryz.func68, Tryz.ntmps68
  go_upto_region 1 with fail
  have hb1 := Blk.lit w #[.string (str x.key), .string (str x.text), .int .i64 x.ver, .int .i64 x.dot.dev, .int .i64 x.dot.ep, .int .i64 x.dot.seq] 61
  have hx1 := Ext.alloc no w (.cells #[.string (str x.key), .string (str x.text), .int .i64 x.ver, .int .i64 x.dot.dev, .int .i64 x.dot.ep, .int .i64 x.dot.seq] 61)
  have hb2 := Blk.at (w.alloc (.cells #[.string (str x.key), .string (str x.text), .int .i64 x.ver, .int .i64 x.dot.dev, .int .i64 x.dot.ep, .int .i64 x.dot.seq] 61)) #[.string (str y.key), .string (str y.text), .int .i64 y.ver, .int .i64 y.dot.dev, .int .i64 y.dot.ep, .int .i64 y.dot.seq] 61 (w.heap.size + 1) (by simp)
  have hx2 := Ext.alloc no (w.alloc (.cells #[.string (str x.key), .string (str x.text), .int .i64 x.ver, .int .i64 x.dot.dev, .int .i64 x.dot.ep, .int .i64 x.dot.seq] 61)) (.cells #[.string (str y.key), .string (str y.text), .int .i64 y.ver, .int .i64 y.dot.dev, .int .i64 y.dot.ep, .int .i64 y.dot.seq] 61)
  have hb1' := hb1.ext (by simp) hx2 (fun h => h)
  replace hx1 := hx1.comp hx2
  clear hb1 hx2
  generalize (w.alloc (.cells #[.string (str x.key), .string (str x.text), .int .i64 x.ver, .int .i64 x.dot.dev, .int .i64 x.dot.ep, .int .i64 x.dot.seq] 61)).alloc (.cells #[.string (str y.key), .string (str y.text), .int .i64 y.ver, .int .i64 y.dot.dev, .int .i64 y.dot.ep, .int .i64 y.dot.seq] 61) = w1 at *
  have p0 := hb1'.cell 0 _ rfl
  have q0 := hb2.cell 0 _ rfl
  have p1 := hb1'.cell 1 _ rfl
  have q1 := hb2.cell 1 _ rfl
  have p2 := hb1'.cell 2 _ rfl
  have q2 := hb2.cell 2 _ rfl
  have p3 := hb1'.cell 3 _ rfl
  have q3 := hb2.cell 3 _ rfl
  have p4 := hb1'.cell 4 _ rfl
  have q4 := hb2.cell 4 _ rfl
  have p5 := hb1'.cell 5 _ rfl
  have q5 := hb2.cell 5 _ rfl
  clear hb1' hb2
  by_cases h0 : x.key = y.key
  · have c0 : ((str x.key).toList == (str y.key).toList) = true := beqStrT h0
    have H0 := Lib.hid h0
    clear h0
    by_cases h1 : x.text = y.text
    · have c1 : ((str x.text).toList == (str y.text).toList) = true := beqStrT h1
      have HR := Lib.hid (show r = DotR.lt x.dot y.dot by rw [Hr.out]; exact (show (Op.bytesLess x.key y.key || (decide (x.key = y.key) && (Op.bytesLess x.text y.text || (decide (x.text = y.text) && DotR.lt x.dot y.dot)))) = DotR.lt x.dot y.dot by simp [H0.out, h1, bytesOrd.irr]))
      clear h1
      go_wp2_with fail
      refine (less_any w1 x.dot y.dot).mono ?_
      rintro e w2 ⟨rfl, hx2⟩
      go_wp2_with fail
      go_ret
      exact ⟨by rw [HR.out]; rfl, hx1.comp hx2⟩
    · have c1 : ((str x.text).toList == (str y.text).toList) = false := beqStrF h1
      cases h2 : Op.bytesLess x.text y.text with
      | true =>
        have d2 : Op.bytesLess (str x.text).toList (str y.text).toList = true := by rw [toList_str, toList_str]; exact h2
        have HR := Lib.hid (show r = true by rw [Hr.out]; exact (show (Op.bytesLess x.key y.key || (decide (x.key = y.key) && (Op.bytesLess x.text y.text || (decide (x.text = y.text) && DotR.lt x.dot y.dot)))) = true by simp [H0.out, h2]))
        clear h1 h2
        go_wp2_with fail
        go_ret
        exact ⟨by rw [HR.out]; rfl, hx1⟩
      | false =>
        have d2 : Op.bytesLess (str x.text).toList (str y.text).toList = false := by rw [toList_str, toList_str]; exact h2
        have HR := Lib.hid (show r = false by rw [Hr.out]; exact (show (Op.bytesLess x.key y.key || (decide (x.key = y.key) && (Op.bytesLess x.text y.text || (decide (x.text = y.text) && DotR.lt x.dot y.dot)))) = false by simp [H0.out, h2, h1, bytesOrd.irr]))
        clear h1 h2
        go_wp2_with fail
        go_ret
        exact ⟨by rw [HR.out]; rfl, hx1⟩
  · have c0 : ((str x.key).toList == (str y.key).toList) = false := beqStrF h0
    cases h2 : Op.bytesLess x.key y.key with
    | true =>
      have d2 : Op.bytesLess (str x.key).toList (str y.key).toList = true := by rw [toList_str, toList_str]; exact h2
      have HR := Lib.hid (show r = true by rw [Hr.out]; exact (show (Op.bytesLess x.key y.key || (decide (x.key = y.key) && (Op.bytesLess x.text y.text || (decide (x.text = y.text) && DotR.lt x.dot y.dot)))) = true by simp [h2]))
      clear h0 h2
      go_wp2_with fail
      go_ret
      exact ⟨by rw [HR.out]; rfl, hx1⟩
    | false =>
      have d2 : Op.bytesLess (str x.key).toList (str y.key).toList = false := by rw [toList_str, toList_str]; exact h2
      have HR := Lib.hid (show r = false by rw [Hr.out]; exact (show (Op.bytesLess x.key y.key || (decide (x.key = y.key) && (Op.bytesLess x.text y.text || (decide (x.text = y.text) && DotR.lt x.dot y.dot)))) = false by simp [h2, h0]))
      clear h0 h2
      go_wp2_with fail
      go_ret
      exact ⟨by rw [HR.out]; rfl, hx1⟩
set_option maxRecDepth 100000 in
set_option maxHeartbeats 4000000 in
theorem in_any (w : World) (a : Option Addr) (l : List DotR) (c : Nat) (d : DotR) (hr : Rd w a (rows DotR.cells l)) (hl : l.length ≤ 1099511627776) :
    Calls Tryz.prog 31 #[.slice a l.length c, .agg #[.int .i64 d.dev, .int .i64 d.ep, .int .i64 d.seq]] w fun e w' => e = .returned (.bool (refIn l d)) ∧ Ext no w w' := by
  obtain ⟨F, hF⟩ : ∃ F, F = refIn l d := ⟨_, rfl⟩
  rw [← hF]
  have HF := Lib.hid hF
  clear hF
  go_enter Tryz.func31, Tryz.ntmps31
  go_upto_region 1 with fail
  have hb := Blk.lit w #[.int .i64 d.dev, .int .i64 d.ep, .int .i64 d.seq] 39
  have hx1 := Ext.alloc no w (.cells #[.int .i64 d.dev, .int .i64 d.ep, .int .i64 d.seq] 39)
  have hr1 := hr.no hx1
  generalize w.alloc (.cells #[.int .i64 d.dev, .int .i64 d.ep, .int .i64 d.seq] 39) = w1 at *
  generalize w.heap.size = g at *
  go_wp2_with fail
  go_loopw [5] (fun s5 wr => ∃ i : Nat, s5 = .int .i64 i ∧ i ≤ l.length ∧ refIn (l.take i) d = false ∧ Ext no w1 wr) (fun s5 _ => l.length - (intOf s5).toNat)
  case atStart => exact ⟨0, rfl, Nat.zero_le _, rfl, Ext.refl _ _⟩
  case round =>
    obtain ⟨i, rfl, hil, hf, hx⟩ := hrel
    have Hf := Lib.hid hf
    clear hf
    by_cases hin : i < l.length
    · have d1 : decide (i < l.length) = true := decT hin
      obtain ⟨x, hxm⟩ : ∃ x, l[i]? = some x := ⟨_, List.getElem?_eq_getElem hin⟩
      obtain ⟨b, off, rfl, _⟩ := rows_shape kDot (by omega) hr1 (by omega)
      have hrr := hr1.no hx
      have hb1 := hb.ext (by simp) hx (fun h => h)
      have y0 : wr.cell? ⟨b, off + i * 3, none⟩ = some (.int .i64 x.dev) := rows_cell kDot hrr hxm 0 _ rfl
      have y1 : wr.cell? ⟨b, off + i * 3 + 1, none⟩ = some (.int .i64 x.ep) := rows_cell kDot hrr hxm 1 _ rfl
      have y2 : wr.cell? ⟨b, off + i * 3 + 2, none⟩ = some (.int .i64 x.seq) := rows_cell kDot hrr hxm 2 _ rfl
      have p0 := hb1.cell 0 _ rfl
      have p1 := hb1.cell 1 _ rfl
      have p2 := hb1.cell 2 _ rfl
      clear hrr hb1
      by_cases hxd : x = d
      · have HT := Lib.hid (show F = true by rw [HF.out]; exact refIn_true l d i (by rw [hxm, hxd]))
        subst hxd
        clear hxm
        go_upto_region 4 with fail
        go_quiet (fail)
        have hx := hx.comp (Ext.drewN no wr nq)
        generalize wr.drewN nq = wz at *
        go_wp2_with fail
        go_ret
        exact ⟨by rw [HT.out]; rfl, hx1.comp hx⟩
      · have hne := eqEntry_ne' hxd
        have HT := Lib.hid (refIn_take l d x i hxm Hf.out hxd)
        clear hxm hxd
        go_upto_region 4 with fail
        by_cases e0 : x.dev = d.dev
        · by_cases e1 : x.ep = d.ep
          · have e2 := hne e0 e1
            have f0 : decide (x.dev = d.dev) = true := decT e0
            have f1 : decide (x.ep = d.ep) = true := decT e1
            have f2 : decide (x.seq = d.seq) = false := decF e2
            have g0 : (x.dev == d.dev) = true := by simpa using e0
            have g1 : (x.ep == d.ep) = true := by simpa using e1
            have g2 : (x.seq == d.seq) = false := by simpa using e2
            clear e0 e1 e2 hne
            go_quiet (fail)
            have hx := hx.comp (Ext.drewN no wr nq)
            generalize wr.drewN nq = wz at *
            go_wp2_with fail
            go_roundw
            case rel => exact ⟨i + 1, by go_num, by omega, HT.out, hx⟩
            case measure => simp [intOf]; omega
          · have f0 : decide (x.dev = d.dev) = true := decT e0
            have f1 : decide (x.ep = d.ep) = false := decF e1
            have g0 : (x.dev == d.dev) = true := by simpa using e0
            have g1 : (x.ep == d.ep) = false := by simpa using e1
            clear e0 e1 hne
            go_quiet (fail)
            have hx := hx.comp (Ext.drewN no wr nq)
            generalize wr.drewN nq = wz at *
            go_wp2_with fail
            go_roundw
            case rel => exact ⟨i + 1, by go_num, by omega, HT.out, hx⟩
            case measure => simp [intOf]; omega
        · have f0 : decide (x.dev = d.dev) = false := decF e0
          have g0 : (x.dev == d.dev) = false := by simpa using e0
          clear e0 hne
          go_quiet (fail)
          have hx := hx.comp (Ext.drewN no wr nq)
          generalize wr.drewN nq = wz at *
          go_wp2_with fail
          go_roundw
          case rel => exact ⟨i + 1, by go_num, by omega, HT.out, hx⟩
          case measure => simp [intOf]; omega
    · obtain rfl : i = l.length := by omega
      have d1 : decide (l.length < l.length) = false := decF (by omega)
      rw [List.take_length] at Hf
      have HT := Lib.hid (show F = false by rw [HF.out, Hf.out])
      go_wp2_with fail
      go_ret
      exact ⟨by rw [HT.out]; rfl, hx1.comp hx⟩
set_option maxRecDepth 100000 in
set_option maxHeartbeats 4000000 in
theorem refget_any (w : World) (a : Option Addr) (v : List DotR) (c : Nat) (d e : Int) (hr : Rd w a (rows DotR.cells v)) (hl : v.length ≤ 1099511627776) :
    Calls Tryz.prog 94 #[.slice a v.length c, .int .i64 d, .int .i64 e] w fun r w' => r = .returned (.int .i64 (Go.Esc.seen v d e)) ∧ Ext no w w' := by
  obtain ⟨F, hF⟩ : ∃ F, F = Go.Esc.seen v d e := ⟨_, rfl⟩
  rw [← hF]
  have HF := Lib.hid hF
  clear hF
  go_enter Tryz.func94, Tryz.ntmps94
  go_wp2_with fail
  go_loopw [7] (fun s7 wr => ∃ i : Nat, s7 = .int .i64 i ∧ i ≤ v.length ∧ (∀ j y, j < i → v[j]? = some y → ¬ (y.dev = d ∧ y.ep = e)) ∧ Ext no w wr) (fun s7 _ => v.length - (intOf s7).toNat)
  case atStart => exact ⟨0, rfl, Nat.zero_le _, (fun j y h => by omega), Ext.refl _ _⟩
  case round =>
    obtain ⟨i, rfl, hil, hf, hx⟩ := hrel
    have Hf := Lib.hid hf
    clear hf
    by_cases hin : i < v.length
    · have d1 : decide (i < v.length) = true := decT hin
      obtain ⟨x, hxm⟩ : ∃ x, v[i]? = some x := ⟨_, List.getElem?_eq_getElem hin⟩
      obtain ⟨b, off, rfl, _⟩ := rows_shape kEntry (by omega) hr (by omega)
      have hrr := hr.no hx
      have y0 : wr.cell? ⟨b, off + i * 3, none⟩ = some (.int .i64 x.dev) := rows_cell kEntry hrr hxm 0 _ rfl
      have y1 : wr.cell? ⟨b, off + i * 3 + 1, none⟩ = some (.int .i64 x.ep) := rows_cell kEntry hrr hxm 1 _ rfl
      have y2 : wr.cell? ⟨b, off + i * 3 + 2, none⟩ = some (.int .i64 x.seq) := rows_cell kEntry hrr hxm 2 _ rfl
      clear hrr
      have Hn := Lib.hid (show ¬ (x.dev = d ∧ x.ep = e) → ∀ j y, j < i + 1 → v[j]? = some y → ¬ (y.dev = d ∧ y.ep = e) from fun hn j y hj hy => by
        by_cases hji : j < i
        · exact Hf.out j y hji hy
        · obtain rfl : j = i := by omega
          rw [hxm] at hy
          cases hy
          exact hn)
      by_cases e0 : x.dev = d
      · have f0 : (x.dev == d) = true := by simpa using e0
        by_cases e1 : x.ep = e
        · have f1 : (x.ep == e) = true := by simpa using e1
          have HT := Lib.hid (show F = x.seq by rw [HF.out]; exact Go.Esc.seen_at v d e i x hxm ⟨e0, e1⟩ Hf.out)
          clear hxm e0 e1
          go_wp2_with fail
          go_ret
          exact ⟨by rw [HT.out]; rfl, hx⟩
        · have f1 : (x.ep == e) = false := by simpa using e1
          have HT := Lib.hid (Hn.out (fun h => e1 h.2))
          clear hxm e0 e1
          go_wp2_with fail
          go_roundw
          case rel => exact ⟨i + 1, by go_num, by omega, HT.out, hx⟩
          case measure => simp [intOf]; omega
      · have f0 : (x.dev == d) = false := by simpa using e0
        have HT := Lib.hid (Hn.out (fun h => e0 h.1))
        clear hxm e0
        go_wp2_with fail
        go_roundw
        case rel => exact ⟨i + 1, by go_num, by omega, HT.out, hx⟩
        case measure => simp [intOf]; omega
    · obtain rfl : i = v.length := by omega
      have d1 : decide (v.length < v.length) = false := decF (by omega)
      have HT := Lib.hid (show F = 0 by rw [HF.out]; exact Go.Esc.seen_none v d e Hf.out)
      go_wp2_with fail
      go_ret
      exact ⟨by rw [HT.out]; rfl, hx⟩
def refhasB (v : List DotR) (d : DotR) : Bool := decide (1 ≤ d.seq ∧ d.seq ≤ Go.Esc.seen v d.dev d.ep)
set_option maxRecDepth 100000 in
set_option maxHeartbeats 4000000 in
theorem refhas_any (w : World) (va : Option Addr) (vc : Nat) (v : List DotR) (d : DotR) (hr : Rd w va (rows DotR.cells v)) (hl : v.length ≤ 1099511627776) :
    Calls Tryz.prog 66 #[.slice va v.length vc, .agg #[.int .i64 d.dev, .int .i64 d.ep, .int .i64 d.seq]] w fun e w' => e = .returned (.bool (refhasB v d)) ∧ Ext no w w' := by
  go_enter Tryz.func66, Tryz.ntmps66
  go_upto_region 1 with fail
  have hb := Blk.lit w #[.int .i64 d.dev, .int .i64 d.ep, .int .i64 d.seq] 39
  have hx1 := Ext.alloc no w (.cells #[.int .i64 d.dev, .int .i64 d.ep, .int .i64 d.seq] 39)
  generalize w.alloc (.cells #[.int .i64 d.dev, .int .i64 d.ep, .int .i64 d.seq] 39) = w1 at *
  have q0 := hb.cell 0 _ rfl
  have q1 := hb.cell 1 _ rfl
  have q2 := hb.cell 2 _ rfl
  have hr1 := hr.ext hx1 (fun _ _ h => h)
  by_cases h1 : 1 ≤ d.seq
  · have d1 : decide (1 ≤ d.seq) = true := decT h1
    cases h2 : decide (d.seq ≤ Go.Esc.seen v d.dev d.ep) with
    | true =>
      have Hv := Lib.hid (show refhasB v d = true by unfold refhasB; exact decT ⟨h1, of_decide_eq_true h2⟩)
      refine wp_region_F [1, 5, 8, 10] (looks [(1, fun z => Ext no w1 z), (5, fun z => Ext no w1 z), (8, fun z => Ext no w1 z), (10, fun z => Ext no w1 z)]) (by kernel_rfl) ?_
      have hT0 : ∀ k, looks [(1, fun z => Ext no w1 z), (5, fun z => Ext no w1 z), (8, fun z => Ext no w1 z), (10, fun z => Ext no w1 z)] k (w1.drew) := looks_all ⟨Ext.drew no w1, Ext.drew no w1, Ext.drew no w1, Ext.drew no w1, trivial⟩
      refine wpF_take 0 (v := ?_) rfl (by kernel_rfl) (by kernel_rfl) (by kernel_rfl) (fun _ _ _ h => h) hT0 (by rfl) ?_ ?_
      rotate_left
      · (intro wq; go_simp; try with_reducible rfl)
      simp only [pz]
      refine wpF_look 1 (v := .int .i64 d.seq) rfl rfl (by kernel_rfl) (by kernel_rfl) (by kernel_rfl) (by kernel_rfl) (fun _ _ _ h => h) hT0 (by rfl) (fun w hS => by have hS : Ext no w1 w := hS; have q0 := hS.keeps q2 (fun h => h); go_simp) ?_
      simp only [pz]
      refine wpF_take 2 (v := .bool true) rfl (by kernel_rfl) (by kernel_rfl) (by kernel_rfl) (fun _ _ _ h => h) hT0 (by rfl) (by intro wq; go_simp; first | done | rfl) ?_
      simp only [pz]
      refine wpF_take 3 (v := ?_) rfl (by kernel_rfl) (by kernel_rfl) (by kernel_rfl) (fun _ _ _ h => h) hT0 (by rfl) ?_ ?_
      rotate_left
      · (intro wq; go_simp; try with_reducible rfl)
      simp only [pz]
      refine wpF_take 4 (v := ?_) rfl (by kernel_rfl) (by kernel_rfl) (by kernel_rfl) (fun _ _ _ h => h) hT0 (by rfl) ?_ ?_
      rotate_left
      · (intro wq; go_simp; try with_reducible rfl)
      simp only [pz]
      refine wpF_look 5 (v := .int .i64 d.seq) rfl rfl (by kernel_rfl) (by kernel_rfl) (by kernel_rfl) (by kernel_rfl) (fun _ _ _ h => h) hT0 (by rfl) (fun w hS => by have hS : Ext no w1 w := hS; have q0 := hS.keeps q2 (fun h => h); go_simp) ?_
      simp only [pz]
      refine wpF_take 6 (v := ?_) rfl (by kernel_rfl) (by kernel_rfl) (by kernel_rfl) (fun _ _ _ h => h) hT0 (by rfl) ?_ ?_
      rotate_left
      · (intro wq; go_simp; try with_reducible rfl)
      simp only [pz]
      refine wpF_take 7 (v := ?_) rfl (by kernel_rfl) (by kernel_rfl) (by kernel_rfl) (fun _ _ _ h => h) hT0 (by rfl) ?_ ?_
      rotate_left
      · (intro wq; go_simp; try with_reducible rfl)
      simp only [pz]
      refine wpF_look 8 (v := .int .i64 d.dev) rfl rfl (by kernel_rfl) (by kernel_rfl) (by kernel_rfl) (by kernel_rfl) (fun _ _ _ h => h) hT0 (by rfl) (fun w hS => by have hS : Ext no w1 w := hS; have q0 := hS.keeps q0 (fun h => h); go_simp) ?_
      simp only [pz]
      refine wpF_take 9 (v := ?_) rfl (by kernel_rfl) (by kernel_rfl) (by kernel_rfl) (fun _ _ _ h => h) hT0 (by rfl) ?_ ?_
      rotate_left
      · (intro wq; go_simp; try with_reducible rfl)
      simp only [pz]
      refine wpF_look 10 (v := .int .i64 d.ep) rfl rfl (by kernel_rfl) (by kernel_rfl) (by kernel_rfl) (by kernel_rfl) (fun _ _ _ h => h) hT0 (by rfl) (fun w hS => by have hS : Ext no w1 w := hS; have q0 := hS.keeps q1 (fun h => h); go_simp) ?_
      simp only [pz]
      refine wpF_exec 11 rfl (by kernel_rfl) (by rfl) ?_
      intro K hK
      go_simp
      refine (refget_any _ va v vc d.dev d.ep (hr1.ext (Ext.drew no w1) (fun _ _ h => h)) hl).mono ?_
      rintro e w3 ⟨rfl, hx3⟩
      have hT1 : ∀ k, looks [(1, fun z => Ext no w1 z), (5, fun z => Ext no w1 z), (8, fun z => Ext no w1 z), (10, fun z => Ext no w1 z)] k (w3) := looks_all ⟨(Ext.drew no w1).comp hx3, (Ext.drew no w1).comp hx3, (Ext.drew no w1).comp hx3, (Ext.drew no w1).comp hx3, trivial⟩
      refine hK _ _ (looks [(1, fun z => Ext no w1 z), (5, fun z => Ext no w1 z), (8, fun z => Ext no w1 z), (10, fun z => Ext no w1 z)]) ⟨.inr (.inl (by kernel_rfl)), .inr (.inr (fun x h => h)), .inr (.inl (by kernel_rfl)), .inr (.inl (by kernel_rfl)), trivial⟩ hT1 ?_
      clear hK K
      try simp only [pz]
      replace hx3 := (Ext.drew no w1).comp hx3
      refine wpF_take 12 (v := .bool true) rfl (by kernel_rfl) (by kernel_rfl) (by kernel_rfl) (fun _ _ _ h => h) hT1 (by rfl) (by intro wq; go_simp; first | done | rfl) ?_
      simp only [pz]
      refine wpF_take 13 (v := ?_) rfl (by kernel_rfl) (by kernel_rfl) (by kernel_rfl) (fun _ _ _ h => h) hT1 (by rfl) ?_ ?_
      rotate_left
      · (intro wq; go_simp; try with_reducible rfl)
      simp only [pz]
      refine wpF_take 14 (v := ?_) rfl (by kernel_rfl) (by kernel_rfl) (by kernel_rfl) (fun _ _ _ h => h) hT1 (by rfl) ?_ ?_
      rotate_left
      · (intro wq; go_simp; try with_reducible rfl)
      simp only [pz]
      refine wpF_done (by kernel_rfl) ?_ _
      go_wp2_with fail
      go_ret
      exact ⟨by rw [Hv.out]; rfl, hx1.comp hx3⟩
    | false =>
      have Hv := Lib.hid (show refhasB v d = false by unfold refhasB; exact decF (fun h => of_decide_eq_false h2 h.2))
      refine wp_region_F [1, 5, 8, 10] (looks [(1, fun z => Ext no w1 z), (5, fun z => Ext no w1 z), (8, fun z => Ext no w1 z), (10, fun z => Ext no w1 z)]) (by kernel_rfl) ?_
      have hT0 : ∀ k, looks [(1, fun z => Ext no w1 z), (5, fun z => Ext no w1 z), (8, fun z => Ext no w1 z), (10, fun z => Ext no w1 z)] k (w1.drew) := looks_all ⟨Ext.drew no w1, Ext.drew no w1, Ext.drew no w1, Ext.drew no w1, trivial⟩
      refine wpF_take 0 (v := ?_) rfl (by kernel_rfl) (by kernel_rfl) (by kernel_rfl) (fun _ _ _ h => h) hT0 (by rfl) ?_ ?_
      rotate_left
      · (intro wq; go_simp; try with_reducible rfl)
      simp only [pz]
      refine wpF_look 1 (v := .int .i64 d.seq) rfl rfl (by kernel_rfl) (by kernel_rfl) (by kernel_rfl) (by kernel_rfl) (fun _ _ _ h => h) hT0 (by rfl) (fun w hS => by have hS : Ext no w1 w := hS; have q0 := hS.keeps q2 (fun h => h); go_simp) ?_
      simp only [pz]
      refine wpF_take 2 (v := .bool true) rfl (by kernel_rfl) (by kernel_rfl) (by kernel_rfl) (fun _ _ _ h => h) hT0 (by rfl) (by intro wq; go_simp; first | done | rfl) ?_
      simp only [pz]
      refine wpF_take 3 (v := ?_) rfl (by kernel_rfl) (by kernel_rfl) (by kernel_rfl) (fun _ _ _ h => h) hT0 (by rfl) ?_ ?_
      rotate_left
      · (intro wq; go_simp; try with_reducible rfl)
      simp only [pz]
      refine wpF_take 4 (v := ?_) rfl (by kernel_rfl) (by kernel_rfl) (by kernel_rfl) (fun _ _ _ h => h) hT0 (by rfl) ?_ ?_
      rotate_left
      · (intro wq; go_simp; try with_reducible rfl)
      simp only [pz]
      refine wpF_look 5 (v := .int .i64 d.seq) rfl rfl (by kernel_rfl) (by kernel_rfl) (by kernel_rfl) (by kernel_rfl) (fun _ _ _ h => h) hT0 (by rfl) (fun w hS => by have hS : Ext no w1 w := hS; have q0 := hS.keeps q2 (fun h => h); go_simp) ?_
      simp only [pz]
      refine wpF_take 6 (v := ?_) rfl (by kernel_rfl) (by kernel_rfl) (by kernel_rfl) (fun _ _ _ h => h) hT0 (by rfl) ?_ ?_
      rotate_left
      · (intro wq; go_simp; try with_reducible rfl)
      simp only [pz]
      refine wpF_take 7 (v := ?_) rfl (by kernel_rfl) (by kernel_rfl) (by kernel_rfl) (fun _ _ _ h => h) hT0 (by rfl) ?_ ?_
      rotate_left
      · (intro wq; go_simp; try with_reducible rfl)
      simp only [pz]
      refine wpF_look 8 (v := .int .i64 d.dev) rfl rfl (by kernel_rfl) (by kernel_rfl) (by kernel_rfl) (by kernel_rfl) (fun _ _ _ h => h) hT0 (by rfl) (fun w hS => by have hS : Ext no w1 w := hS; have q0 := hS.keeps q0 (fun h => h); go_simp) ?_
      simp only [pz]
      refine wpF_take 9 (v := ?_) rfl (by kernel_rfl) (by kernel_rfl) (by kernel_rfl) (fun _ _ _ h => h) hT0 (by rfl) ?_ ?_
      rotate_left
      · (intro wq; go_simp; try with_reducible rfl)
      simp only [pz]
      refine wpF_look 10 (v := .int .i64 d.ep) rfl rfl (by kernel_rfl) (by kernel_rfl) (by kernel_rfl) (by kernel_rfl) (fun _ _ _ h => h) hT0 (by rfl) (fun w hS => by have hS : Ext no w1 w := hS; have q0 := hS.keeps q1 (fun h => h); go_simp) ?_
      simp only [pz]
      refine wpF_exec 11 rfl (by kernel_rfl) (by rfl) ?_
      intro K hK
      go_simp
      refine (refget_any _ va v vc d.dev d.ep (hr1.ext (Ext.drew no w1) (fun _ _ h => h)) hl).mono ?_
      rintro e w3 ⟨rfl, hx3⟩
      have hT1 : ∀ k, looks [(1, fun z => Ext no w1 z), (5, fun z => Ext no w1 z), (8, fun z => Ext no w1 z), (10, fun z => Ext no w1 z)] k (w3) := looks_all ⟨(Ext.drew no w1).comp hx3, (Ext.drew no w1).comp hx3, (Ext.drew no w1).comp hx3, (Ext.drew no w1).comp hx3, trivial⟩
      refine hK _ _ (looks [(1, fun z => Ext no w1 z), (5, fun z => Ext no w1 z), (8, fun z => Ext no w1 z), (10, fun z => Ext no w1 z)]) ⟨.inr (.inl (by kernel_rfl)), .inr (.inr (fun x h => h)), .inr (.inl (by kernel_rfl)), .inr (.inl (by kernel_rfl)), trivial⟩ hT1 ?_
      clear hK K
      try simp only [pz]
      replace hx3 := (Ext.drew no w1).comp hx3
      refine wpF_take 12 (v := .bool false) rfl (by kernel_rfl) (by kernel_rfl) (by kernel_rfl) (fun _ _ _ h => h) hT1 (by rfl) (by intro wq; go_simp; first | done | rfl) ?_
      simp only [pz]
      refine wpF_take 13 (v := ?_) rfl (by kernel_rfl) (by kernel_rfl) (by kernel_rfl) (fun _ _ _ h => h) hT1 (by rfl) ?_ ?_
      rotate_left
      · (intro wq; go_simp; try with_reducible rfl)
      simp only [pz]
      refine wpF_take 14 (v := ?_) rfl (by kernel_rfl) (by kernel_rfl) (by kernel_rfl) (fun _ _ _ h => h) hT1 (by rfl) ?_ ?_
      rotate_left
      · (intro wq; go_simp; try with_reducible rfl)
      simp only [pz]
      refine wpF_done (by kernel_rfl) ?_ _
      go_wp2_with fail
      go_ret
      exact ⟨by rw [Hv.out]; rfl, hx1.comp hx3⟩
  · have d1 : decide (1 ≤ d.seq) = false := decF h1
    have Hv := Lib.hid (show refhasB v d = false by unfold refhasB; exact decF (fun h => h1 h.1))
    refine wp_region_F [1] (looks [(1, fun z => Ext no w1 z)]) (by kernel_rfl) ?_
    have hT0 : ∀ k, looks [(1, fun z => Ext no w1 z)] k (w1.drew) := looks_all ⟨Ext.drew no w1, trivial⟩
    refine wpF_take 0 (v := ?_) rfl (by kernel_rfl) (by kernel_rfl) (by kernel_rfl) (fun _ _ _ h => h) hT0 (by rfl) ?_ ?_
    rotate_left
    · (intro wq; go_simp; try with_reducible rfl)
    simp only [pz]
    refine wpF_look 1 (v := .int .i64 d.seq) rfl rfl (by kernel_rfl) (by kernel_rfl) (by kernel_rfl) (by kernel_rfl) (fun _ _ _ h => h) hT0 (by rfl) (fun w hS => by have hS : Ext no w1 w := hS; have q0 := hS.keeps q2 (fun h => h); go_simp) ?_
    simp only [pz]
    refine wpF_take 2 (v := .bool false) rfl (by kernel_rfl) (by kernel_rfl) (by kernel_rfl) (fun _ _ _ h => h) hT0 (by rfl) (by intro wq; go_simp; first | done | rfl) ?_
    simp only [pz]
    refine wpF_take 3 (v := ?_) rfl (by kernel_rfl) (by kernel_rfl) (by kernel_rfl) (fun _ _ _ h => h) hT0 (by rfl) ?_ ?_
    rotate_left
    · (intro wq; go_simp; try with_reducible rfl)
    simp only [pz]
    refine wpF_skip 4 rfl (by kernel_rfl) (by kernel_rfl) (by kernel_rfl) (fun _ _ _ h => h) hT0 (by rfl) ?_
    simp only [pz]
    refine wpF_skip 5 rfl (by kernel_rfl) (by kernel_rfl) (by kernel_rfl) (fun _ _ _ h => h) hT0 (by rfl) ?_
    simp only [pz]
    refine wpF_skip 6 rfl (by kernel_rfl) (by kernel_rfl) (by kernel_rfl) (fun _ _ _ h => h) hT0 (by rfl) ?_
    simp only [pz]
    refine wpF_skip 7 rfl (by kernel_rfl) (by kernel_rfl) (by kernel_rfl) (fun _ _ _ h => h) hT0 (by rfl) ?_
    simp only [pz]
    refine wpF_skip 8 rfl (by kernel_rfl) (by kernel_rfl) (by kernel_rfl) (fun _ _ _ h => h) hT0 (by rfl) ?_
    simp only [pz]
    refine wpF_skip 9 rfl (by kernel_rfl) (by kernel_rfl) (by kernel_rfl) (fun _ _ _ h => h) hT0 (by rfl) ?_
    simp only [pz]
    refine wpF_skip 10 rfl (by kernel_rfl) (by kernel_rfl) (by kernel_rfl) (fun _ _ _ h => h) hT0 (by rfl) ?_
    simp only [pz]
    refine wpF_skip 11 rfl (by kernel_rfl) (by kernel_rfl) (by kernel_rfl) (fun _ _ _ h => h) hT0 (by rfl) ?_
    simp only [pz]
    refine wpF_skip 12 rfl (by kernel_rfl) (by kernel_rfl) (by kernel_rfl) (fun _ _ _ h => h) hT0 (by rfl) ?_
    simp only [pz]
    refine wpF_take 13 (v := ?_) rfl (by kernel_rfl) (by kernel_rfl) (by kernel_rfl) (fun _ _ _ h => h) hT0 (by rfl) ?_ ?_
    rotate_left
    · (intro wq; go_simp; try with_reducible rfl)
    simp only [pz]
    refine wpF_take 14 (v := ?_) rfl (by kernel_rfl) (by kernel_rfl) (by kernel_rfl) (fun _ _ _ h => h) hT0 (by rfl) ?_ ?_
    rotate_left
    · (intro wq; go_simp; try with_reducible rfl)
    simp only [pz]
    refine wpF_done (by kernel_rfl) ?_ _
    go_wp2_with fail
    go_ret
    exact ⟨by rw [Hv.out]; rfl, hx1.comp (Ext.drew no w1)⟩
end Go.Proofs.YtejmmkjpncpedaaGreat
