/- coll.Dots; rows of texts held against one another. -/
import Derived.Test.YtejmmkjpncpedaaGreatDoorCoL
import Derived.Test.YtejmmkjpncpedaaGreatDoorMeA
namespace Go.Proofs.YtejmmkjpncpedaaGreatDoor
open Go.RowKit Go.Esc
set_option linter.unusedVariables false
set_option linter.unusedSimpArgs false

set_option maxRecDepth 100000 in
set_option maxHeartbeats 2000000 in
theorem cdots_any (w : World) (C : CollR) (h : Six) (key text : List UInt8) (hr : Rd w h.e (rows ElemR.cells C.elems)) (hl : C.elems.length ≤ 1099511627776) :
    Calls Tryz.prog 12 #[C.val h, .string (str key), .string (str text)] w fun e w' => ∃ a c, e = .returned (.slice a (dotsL C.elems key text).length c) ∧ Own w' w.heap.size a 3 (dotsL C.elems key text).length c (rows DotR.cells (dotsL C.elems key text)) ∧ Ext no w w' := by
  go_enter Tryz.func12, Tryz.ntmps12
  unfold CollR.val
  go_upto_region 1 with fail
  have hC := Blk.lit w #[.slice h.v C.v.length h.vc, .slice h.r C.regs.length h.rc, .slice h.e C.elems.length h.ec, .slice h.g C.gone.length h.gc, .slice h.s C.sums.length h.sc, .slice h.b C.binds.length h.bc] 31
  have hx1 := Ext.alloc no w (.cells #[.slice h.v C.v.length h.vc, .slice h.r C.regs.length h.rc, .slice h.e C.elems.length h.ec, .slice h.g C.gone.length h.gc, .slice h.s C.sums.length h.sc, .slice h.b C.binds.length h.bc] 31)
  generalize w.alloc (.cells #[.slice h.v C.v.length h.vc, .slice h.r C.regs.length h.rc, .slice h.e C.elems.length h.ec, .slice h.g C.gone.length h.gc, .slice h.s C.sums.length h.sc, .slice h.b C.binds.length h.bc] 31) = w1 at *
  have c2 := hC.cell 2 _ rfl
  have hr1 := hr.ext hx1 (fun _ _ h => h)
  go_wp2_with fail
  clear c2 hC
  go_loopw [7, 13] (fun s7 s13 wr => ∃ (i c : Nat) (a : Option Addr) (M : List DotR), s13 = .int .i64 i ∧ i ≤ C.elems.length ∧ M = dotsL (C.elems.take i) key text ∧ M.length ≤ i ∧ s7 = .slice a M.length c ∧ Own wr w.heap.size a 3 M.length c (rows DotR.cells M) ∧ Ext no w wr) (fun _ s13 _ => C.elems.length - (intOf s13).toNat)
  case atStart => exact ⟨0, 0, none, [], rfl, Nat.zero_le _, rfl, Nat.zero_le _, rfl, Own.nil _ _ _, hx1⟩
  case round =>
    obtain ⟨i, c, a, M, rfl, hi, hM, hMl, rfl, hown, hx⟩ := hrel
    have HM := Lib.hid hM
    clear hM
    by_cases hin : i < C.elems.length
    · have d1 : decide (i < C.elems.length) = true := decT hin
      obtain ⟨x, hxm⟩ : ∃ x, C.elems[i]? = some x := ⟨_, List.getElem?_eq_getElem hin⟩
      have hrr := hr.ext hx (fun _ _ h => h)
      obtain ⟨b, off, hsb, _⟩ := rows_shape kElem (by omega) hrr (by omega)
      rw [hsb] at hrr
      have hds : dotsL (C.elems.take (i + 1)) key text = M ++ (if x.key = key ∧ x.text = text then [x.dot] else []) := by
        rw [HM.out]
        unfold dotsL
        rw [filter_take_succ _ _ _ _ hxm, List.map_append]
        congr 1
        by_cases e : x.key = key ∧ x.text = text
        · rw [if_pos e, if_pos (by simp [e.1, e.2])]; rfl
        · rw [if_neg e, if_neg (by simpa using e)]; rfl
      have Hds := Lib.hid hds
      clear hds HM
      have y0 : wr.cell? ⟨b, off + i * 6, none⟩ = some (.string (str x.key)) := rows_cell kElem hrr hxm 0 _ rfl
      have y1 : wr.cell? ⟨b, off + i * 6 + 1, none⟩ = some (.string (str x.text)) := rows_cell kElem hrr hxm 1 _ rfl
      have y2 : wr.cell? ⟨b, off + i * 6 + 2, none⟩ = some (.int .i64 x.ver) := rows_cell kElem hrr hxm 2 _ rfl
      have y3 : wr.cell? ⟨b, off + i * 6 + 3, none⟩ = some (.int .i64 x.dot.dev) := rows_cell kElem hrr hxm 3 _ rfl
      have y4 : wr.cell? ⟨b, off + i * 6 + 4, none⟩ = some (.int .i64 x.dot.ep) := rows_cell kElem hrr hxm 4 _ rfl
      have y5 : wr.cell? ⟨b, off + i * 6 + 5, none⟩ = some (.int .i64 x.dot.seq) := rows_cell kElem hrr hxm 5 _ rfl
      rw [hsb]
      go_upto_region 5 with fail
      have hX := Blk.lit wr #[.string (str x.key), .string (str x.text), .int .i64 x.ver, .int .i64 x.dot.dev, .int .i64 x.dot.ep, .int .i64 x.dot.seq] 68
      have hxa := Ext.alloc no wr (.cells #[.string (str x.key), .string (str x.text), .int .i64 x.ver, .int .i64 x.dot.dev, .int .i64 x.dot.ep, .int .i64 x.dot.seq] 68)
      have hown2 := hown.ext hxa (fun _ _ h => h)
      have hx2 := hx.comp hxa
      have hs0 := hx.size
      clear hown hx hrr y0 y1 y2 y3 y4 y5
      generalize wr.alloc (.cells #[.string (str x.key), .string (str x.text), .int .i64 x.ver, .int .i64 x.dot.dev, .int .i64 x.dot.ep, .int .i64 x.dot.seq] 68) = w2 at *
      obtain ⟨gx, hgx⟩ : ∃ gx, gx = wr.heap.size := ⟨_, rfl⟩
      rw [← hgx] at hX ⊢
      have hsx := hX.lt (by simp)
      have z0 := hX.cell 0 _ rfl
      have z1 := hX.cell 1 _ rfl
      have z3 := hX.cell 3 _ rfl
      have z4 := hX.cell 4 _ rfl
      have z5 := hX.cell 5 _ rfl
      clear hgx hxm
      by_cases hk : x.key = key
      · have t0 := beqStrT hk
        by_cases ht : x.text = text
        · have t1 := beqStrT ht
          have Hd2 := Lib.hid (show dotsL (C.elems.take (i + 1)) key text = M ++ [x.dot] by rw [Hds.out, if_pos ⟨hk, ht⟩])
          clear hk ht Hds
          go_wp2_with (at_builtin; refine wpList_append TDot rfl rfl rfl (hown2.alloc _) rfl (Rd.lit w2 #[.int .i64 x.dot.dev, .int .i64 x.dot.ep, .int .i64 x.dot.seq] 38 (0, 0)) (m := 1) rfl (one1Dot x.dot) (by unfold maxLen; omega) (by omega) (by simp; have := hx2.size; omega) ?_)
          intro a5 c5 w5 hap5
          have hown5 := hap5.own
          have hx5 : Ext no w w5 := (hx2.comp (Ext.alloc no _ _)).trans hap5.ext (fun j hj => by rintro ⟨ad, ha, e⟩; have := (hown2.base ad ha).1; omega)
          go_wp2_with fail
          go_roundw
          case rel => exact ⟨i + 1, c5, a5, M ++ [x.dot], by go_num, by omega, Hd2.out.symm, by simp; omega, by simp, by rw [List.length_append, rows_append]; exact hown5, hx5⟩
          case measure => simp [intOf]; omega
        · have t1 := beqStrF ht
          have Hd2 := Lib.hid (show dotsL (C.elems.take (i + 1)) key text = M by rw [Hds.out, if_neg (fun e => ht e.2), List.append_nil])
          clear hk ht Hds
          go_wp2_with fail
          go_roundw
          case rel => exact ⟨i + 1, c, a, M, by go_num, by omega, Hd2.out.symm, by omega, rfl, hown2, hx2⟩
          case measure => simp [intOf]; omega
      · have t0 := beqStrF hk
        have Hd2 := Lib.hid (show dotsL (C.elems.take (i + 1)) key text = M by rw [Hds.out, if_neg (fun e => hk e.1), List.append_nil])
        clear hk Hds
        go_wp2_with fail
        go_roundw
        case rel => exact ⟨i + 1, c, a, M, by go_num, by omega, Hd2.out.symm, by omega, rfl, hown2, hx2⟩
        case measure => simp [intOf]; omega
    · obtain rfl : i = C.elems.length := by omega
      have d1 : decide (C.elems.length < C.elems.length) = false := decF (by omega)
      have HM2 := Lib.hid (show M = dotsL C.elems key text by rw [HM.out, List.take_length])
      clear HM
      go_wp2_with fail
      go_ret
      rw [← HM2.out]
      exact ⟨a, c, rfl, hown, hx⟩

/-- Texts as cells. -/
def ts (l : List (List UInt8)) : List Value := l.map (fun t => .string (str t))
@[simp] theorem ts_len (l : List (List UInt8)) : (ts l).length = l.length := by simp [ts]
set_option maxRecDepth 100000 in
set_option maxHeartbeats 2000000 in
theorem texts_any (w : World) (a b : Option Addr) (l m : List (List UInt8)) (c d : Nat) (hr : Rd w a (ts l)) (hs : Rd w b (ts m)) (hl : l.length ≤ maxLen) (hm : m.length ≤ maxLen) :
    Calls Tryz.prog 14 #[.slice a l.length c, .slice b m.length d] w fun e w' => e = .returned (.bool (decide (l = m))) ∧ Ext no w w' := by
  unfold maxLen at hl hm
  obtain ⟨V, hV⟩ : ∃ V, V = decide (l = m) := ⟨_, rfl⟩
  rw [← hV]
  have HV := Lib.hid hV
  clear hV
  by_cases hlm : l.length = m.length
  · have t0 : ((l.length : Int) != (m.length : Int)) = false := by rw [bne_eq_false_iff_eq]; omega
    have t0' : (l.length != m.length) = false := by rw [bne_eq_false_iff_eq]; omega
    have Hlm := Lib.hid hlm
    clear hlm
    go_enter Tryz.func14, Tryz.ntmps14
    go_wp2_with fail
    go_loopw [5] (fun s5 wr => ∃ i : Nat, s5 = .int .i64 i ∧ i ≤ l.length ∧ l.take i = m.take i ∧ Ext no w wr) (fun s5 _ => l.length - (intOf s5).toNat)
    case atStart => exact ⟨0, rfl, Nat.zero_le _, rfl, Ext.refl _ _⟩
    case round =>
      obtain ⟨i, rfl, hi, heq, hx⟩ := hrel
      have Heq := Lib.hid heq
      clear heq
      by_cases hin : i < l.length
      · have d1 : decide (i < l.length) = true := decT hin
        have hin2 : i < m.length := by have := Hlm.out; omega
        obtain ⟨x, hxm⟩ : ∃ x, l[i]? = some x := ⟨_, List.getElem?_eq_getElem hin⟩
        obtain ⟨y, hym⟩ : ∃ y, m[i]? = some y := ⟨_, List.getElem?_eq_getElem hin2⟩
        obtain ⟨ad, rfl, _⟩ := hr.ne (by simp; omega)
        obtain ⟨bd, rfl, _⟩ := hs.ne (by simp; omega)
        have k1 : wr.cell? (ad.add i) = some (.string (str x)) := hx.keeps (hr.get (j := i) (v := .string (str x)) (by simp [ts, hxm])) (fun h => h)
        have k2 : wr.cell? (bd.add i) = some (.string (str y)) := hx.keeps (hs.get (j := i) (v := .string (str y)) (by simp [ts, hym])) (fun h => h)
        by_cases hxy : x = y
        · have t1 : ((str x).toList != (str y).toList) = false := by rw [bne_eq_false_iff_eq, hxy]
          have Hn := Lib.hid (show l.take (i + 1) = m.take (i + 1) by rw [List.take_add_one, List.take_add_one, Heq.out, hxm, hym, hxy])
          clear hxy Heq hxm hym
          go_upto_region 6 with fail
          refine wp_region_F [3, 7] (looks [(3, fun z => Ext no wr z), (7, fun z => Ext no wr z)]) (by kernel_rfl) ?_
          have hT0 : ∀ k, looks [(3, fun z => Ext no wr z), (7, fun z => Ext no wr z)] k (wr.drew) := looks_all ⟨Ext.drew no wr, Ext.drew no wr, trivial⟩
          refine wpF_take 0 (v := ?_) rfl (by kernel_rfl) (by kernel_rfl) (by kernel_rfl) (fun _ _ _ h => h) hT0 (by rfl) ?_ ?_
          rotate_left
          · (intro wq; go_simp; try with_reducible rfl)
          simp only [Act.put, List.setIfInBounds_toArray, List.set_cons_zero, List.set_cons_succ]
          refine wpF_take 1 (v := ?_) rfl (by kernel_rfl) (by kernel_rfl) (by kernel_rfl) (fun _ _ _ h => h) hT0 (by rfl) ?_ ?_
          rotate_left
          · (intro wq; go_simp; try with_reducible rfl)
          simp only [Act.put, List.setIfInBounds_toArray, List.set_cons_zero, List.set_cons_succ]
          refine wpF_take 2 (v := .pointer (some (ad.add i))) rfl (by kernel_rfl) (by kernel_rfl) (by kernel_rfl) (fun _ _ _ h => h) hT0 (by rfl) (by intro wq; go_simp) ?_
          simp only [Act.put, List.setIfInBounds_toArray, List.set_cons_zero, List.set_cons_succ]
          refine wpF_look 3 (v := .string (str x)) rfl rfl (by kernel_rfl) (by kernel_rfl) (by kernel_rfl) (by kernel_rfl) (fun _ _ _ h => h) hT0 (by rfl) (fun w hS => by have hS : Ext no wr w := hS; have q0 := hS.keeps k1 (fun h => h); go_simp) ?_
          simp only [Act.put, List.setIfInBounds_toArray, List.set_cons_zero, List.set_cons_succ]
          refine wpF_take 4 (v := ?_) rfl (by kernel_rfl) (by kernel_rfl) (by kernel_rfl) (fun _ _ _ h => h) hT0 (by rfl) ?_ ?_
          rotate_left
          · (intro wq; go_simp; try with_reducible rfl)
          simp only [Act.put, List.setIfInBounds_toArray, List.set_cons_zero, List.set_cons_succ]
          refine wpF_take 5 (v := ?_) rfl (by kernel_rfl) (by kernel_rfl) (by kernel_rfl) (fun _ _ _ h => h) hT0 (by rfl) ?_ ?_
          rotate_left
          · (intro wq; go_simp; try with_reducible rfl)
          simp only [Act.put, List.setIfInBounds_toArray, List.set_cons_zero, List.set_cons_succ]
          refine wpF_take 6 (v := .pointer (some (bd.add i))) rfl (by kernel_rfl) (by kernel_rfl) (by kernel_rfl) (fun _ _ _ h => h) hT0 (by rfl) (by intro wq; go_simp) ?_
          simp only [Act.put, List.setIfInBounds_toArray, List.set_cons_zero, List.set_cons_succ]
          refine wpF_look 7 (v := .string (str y)) rfl rfl (by kernel_rfl) (by kernel_rfl) (by kernel_rfl) (by kernel_rfl) (fun _ _ _ h => h) hT0 (by rfl) (fun w hS => by have hS : Ext no wr w := hS; have q0 := hS.keeps k2 (fun h => h); go_simp) ?_
          simp only [Act.put, List.setIfInBounds_toArray, List.set_cons_zero, List.set_cons_succ]
          refine wpF_take 8 (v := .bool false) rfl (by kernel_rfl) (by kernel_rfl) (by kernel_rfl) (fun _ _ _ h => h) hT0 (by rfl) (by intro wq; go_simp; first | done | rfl | (simpa using t1)) ?_
          simp only [Act.put, List.setIfInBounds_toArray, List.set_cons_zero, List.set_cons_succ]
          refine wpF_done (by kernel_rfl) ?_ _
          go_wp2_with fail
          go_roundw
          case rel => exact ⟨i + 1, by go_num, by omega, Hn.out, hx.comp (Ext.drew no wr)⟩
          case measure => simp [intOf]; omega
        · have t1 : ((str x).toList != (str y).toList) = true := by rw [toList_str, toList_str, bne_iff_ne]; exact hxy
          have Hn := Lib.hid (show V = false by rw [HV.out]; exact decF (fun e => by rw [e, hym] at hxm; cases hxm; exact hxy rfl))
          clear hxy Heq hxm hym
          go_upto_region 6 with fail
          refine wp_region_F [3, 7] (looks [(3, fun z => Ext no wr z), (7, fun z => Ext no wr z)]) (by kernel_rfl) ?_
          have hT0 : ∀ k, looks [(3, fun z => Ext no wr z), (7, fun z => Ext no wr z)] k (wr.drew) := looks_all ⟨Ext.drew no wr, Ext.drew no wr, trivial⟩
          refine wpF_take 0 (v := ?_) rfl (by kernel_rfl) (by kernel_rfl) (by kernel_rfl) (fun _ _ _ h => h) hT0 (by rfl) ?_ ?_
          rotate_left
          · (intro wq; go_simp; try with_reducible rfl)
          simp only [Act.put, List.setIfInBounds_toArray, List.set_cons_zero, List.set_cons_succ]
          refine wpF_take 1 (v := ?_) rfl (by kernel_rfl) (by kernel_rfl) (by kernel_rfl) (fun _ _ _ h => h) hT0 (by rfl) ?_ ?_
          rotate_left
          · (intro wq; go_simp; try with_reducible rfl)
          simp only [Act.put, List.setIfInBounds_toArray, List.set_cons_zero, List.set_cons_succ]
          refine wpF_take 2 (v := .pointer (some (ad.add i))) rfl (by kernel_rfl) (by kernel_rfl) (by kernel_rfl) (fun _ _ _ h => h) hT0 (by rfl) (by intro wq; go_simp) ?_
          simp only [Act.put, List.setIfInBounds_toArray, List.set_cons_zero, List.set_cons_succ]
          refine wpF_look 3 (v := .string (str x)) rfl rfl (by kernel_rfl) (by kernel_rfl) (by kernel_rfl) (by kernel_rfl) (fun _ _ _ h => h) hT0 (by rfl) (fun w hS => by have hS : Ext no wr w := hS; have q0 := hS.keeps k1 (fun h => h); go_simp) ?_
          simp only [Act.put, List.setIfInBounds_toArray, List.set_cons_zero, List.set_cons_succ]
          refine wpF_take 4 (v := ?_) rfl (by kernel_rfl) (by kernel_rfl) (by kernel_rfl) (fun _ _ _ h => h) hT0 (by rfl) ?_ ?_
          rotate_left
          · (intro wq; go_simp; try with_reducible rfl)
          simp only [Act.put, List.setIfInBounds_toArray, List.set_cons_zero, List.set_cons_succ]
          refine wpF_take 5 (v := ?_) rfl (by kernel_rfl) (by kernel_rfl) (by kernel_rfl) (fun _ _ _ h => h) hT0 (by rfl) ?_ ?_
          rotate_left
          · (intro wq; go_simp; try with_reducible rfl)
          simp only [Act.put, List.setIfInBounds_toArray, List.set_cons_zero, List.set_cons_succ]
          refine wpF_take 6 (v := .pointer (some (bd.add i))) rfl (by kernel_rfl) (by kernel_rfl) (by kernel_rfl) (fun _ _ _ h => h) hT0 (by rfl) (by intro wq; go_simp) ?_
          simp only [Act.put, List.setIfInBounds_toArray, List.set_cons_zero, List.set_cons_succ]
          refine wpF_look 7 (v := .string (str y)) rfl rfl (by kernel_rfl) (by kernel_rfl) (by kernel_rfl) (by kernel_rfl) (fun _ _ _ h => h) hT0 (by rfl) (fun w hS => by have hS : Ext no wr w := hS; have q0 := hS.keeps k2 (fun h => h); go_simp) ?_
          simp only [Act.put, List.setIfInBounds_toArray, List.set_cons_zero, List.set_cons_succ]
          refine wpF_take 8 (v := .bool true) rfl (by kernel_rfl) (by kernel_rfl) (by kernel_rfl) (fun _ _ _ h => h) hT0 (by rfl) (by intro wq; go_simp; first | done | rfl | (simpa using t1)) ?_
          simp only [Act.put, List.setIfInBounds_toArray, List.set_cons_zero, List.set_cons_succ]
          refine wpF_done (by kernel_rfl) ?_ _
          go_wp2_with fail
          go_ret
          exact ⟨by rw [Hn.out]; rfl, hx.comp (Ext.drew no wr)⟩
      · obtain rfl : i = l.length := by omega
        have d1 : decide (l.length < l.length) = false := decF (by omega)
        have Hn := Lib.hid (show V = true by rw [HV.out]; exact decT (by have h1 := Heq.out; have h2 := Hlm.out; rw [List.take_length, h2, List.take_length] at h1; exact h1))
        clear Heq
        go_wp2_with fail
        go_ret
        exact ⟨by rw [Hn.out]; rfl, hx⟩
  · have t0 : ((l.length : Int) != (m.length : Int)) = true := by rw [bne_iff_ne]; omega
    have t0' : (l.length != m.length) = true := by rw [bne_iff_ne]; omega
    have Hn := Lib.hid (show V = false by rw [HV.out]; exact decF (fun e => hlm (by rw [e])))
    clear hlm
    go_enter Tryz.func14, Tryz.ntmps14
    go_wp2_with fail
    go_ret
    exact ⟨by rw [Hn.out]; rfl, Ext.refl _ _⟩
end Go.Proofs.YtejmmkjpncpedaaGreatDoor
