/- The reference's store (escrowref5): Scan. -/
import Derived.Test.YtpljcnjkdjblmaaKvS
namespace Go.Esc
open Go.RowKit
def fromP (start : List UInt8) (r : PairR) : Bool := !Op.bytesLess r.key start
theorem scan_step (l : List PairR) (start : List UInt8) (i : Nat) (r : PairR) (h : l[i]? = some r) : (l.take (i + 1)).filter (fromP start) = (l.take i).filter (fromP start) ++ (if fromP start r = true then [r] else []) := by
  have hi := (List.getElem?_eq_some_iff.1 h).1
  rw [List.take_succ_eq_append_getElem hi, (List.getElem?_eq_some_iff.1 h).2, List.filter_append]
  congr 1
  by_cases hp : fromP start r = true
  · rw [if_pos hp, List.filter_cons, if_pos hp]; rfl
  · rw [if_neg hp, List.filter_cons, if_neg hp]; rfl
theorem scan_done (l : List PairR) (start : List UInt8) (i : Nat) (n : Nat) (h : ((l.take i).filter (fromP start)).length = n) : (l.filter (fromP start)).take n = (l.take i).filter (fromP start) := by
  have e : l.filter (fromP start) = (l.take i).filter (fromP start) ++ (l.drop i).filter (fromP start) := by rw [← List.filter_append, List.take_append_drop]
  rw [e, List.take_append_of_le_length (by omega), List.take_of_length_le (by omega)]
end Go.Esc
namespace Go.Proofs.Ytpljcnjkdjblmaa
open Go.RowKit Go.Esc
set_option linter.unusedVariables false
set_option linter.unusedSimpArgs false

set_option maxRecDepth 100000 in
set_option maxHeartbeats 8000000 in
theorem rscan0_any (w : World) (x : Nat) (v0 v1 v2 : Value) (la : Option Addr) (l : List PairR) (lc : Nat) (start : List UInt8) (n : Int) (hX : Blk w x [.slice la l.length lc, v1, v2]) (hr : Rd w la (rows PairR.cells l)) (hl : l.length ≤ 1099511627775) :
    Calls Try.prog 26 #[.pointer (some ⟨x, 0, none⟩), .int .i64 0, .string (str start), .int .i64 n] w fun e w' => ∃ a' c', e = .returned (.slice a' ((l.filter (fromP start)).take n.toNat).length c') ∧ Own w' w.heap.size a' 2 ((l.filter (fromP start)).take n.toNat).length c' (rows PairR.cells ((l.filter (fromP start)).take n.toNat)) ∧ Ext no w w' := by
  obtain ⟨Z, hZ⟩ : ∃ Z, Z = (l.filter (fromP start)).take n.toNat := ⟨_, rfl⟩
  rw [← hZ]
  have HZ := Lib.hid hZ
  clear hZ
  obtain ⟨B, hB⟩ : ∃ B, B = w.heap.size := ⟨_, rfl⟩
  have hB1 : B ≤ w.heap.size := by omega
  have hB2 : w.heap.size ≤ B := by omega
  clear hB
  go_enter Try.func26, Try.ntmps26
  go_wp2_with fail
  go_loopw [9, 10] (fun s9 s10 wr => ∃ (i : Nat) (G : List PairR) (a : Option Addr) (c : Nat), s9 = .slice a G.length c ∧ s10 = .int .i64 i ∧ i ≤ l.length ∧ G = (l.take i).filter (fromP start) ∧ G.length ≤ n.toNat ∧ Own wr B a 2 G.length c (rows PairR.cells G) ∧ Ext no w wr) (fun _ s10 _ => l.length - (intOf s10).toNat)
  case atStart => exact ⟨0, [], none, 0, rfl, rfl, Nat.zero_le _, rfl, Nat.zero_le _, Own.nil _ _ _, Ext.refl _ _⟩
  case round =>
    obtain ⟨i, G, a, c, rfl, rfl, hil, hG, hGn, hown, hW⟩ := hrel
    have hGl : G.length ≤ l.length := by rw [hG]; have := List.length_filter_le (fromP start) (l.take i); rw [List.length_take] at this; omega
    have HG := Lib.hid hG
    clear hG
    have hXr := hX.ext (by simp) hW (fun h => h)
    have x0 := hXr.cell 0 _ rfl
    by_cases hin : i < l.length
    · have d1 : decide (i < l.length) = true := decT hin
      by_cases hn : (G.length : Int) < n
      · have d2 : decide ((G.length : Int) < n) = true := decT hn
        obtain ⟨r, hrm⟩ : ∃ r, l[i]? = some r := ⟨_, List.getElem?_eq_getElem hin⟩
        have hst := scan_step l start i r hrm
        obtain ⟨b, off, hsa, _⟩ := rows_shape kPair (by omega) hr (by omega)
        subst hsa
        have hrr := kvRd_no hr hW
        have y0 : wr.cell? ⟨b, off + i * 2, none⟩ = some (.string (str r.key)) := rows_cell kPair hrr hrm 0 _ rfl
        have y1 : wr.cell? ⟨b, off + i * 2 + 1, none⟩ = some (.string (str r.val)) := rows_cell kPair hrr hrm 1 _ rfl
        clear hrr hrm
        cases hp : Op.bytesLess r.key start with
        | true =>
          have d3 : Op.bytesLess (str r.key).toList (str start).toList = true := by rw [toList_str, toList_str]; exact hp
          have HN := Lib.hid (show G = (l.take (i + 1)).filter (fromP start) by rw [hst, HG.out]; unfold fromP; rw [hp]; simp)
          clear hst
          go_wp2_with fail
          go_roundw
          case rel => exact ⟨i + 1, G, a, c, rfl, by go_num, by omega, HN.out, hGn, hown, hW⟩
          case measure => simp [intOf]; omega
        | false =>
          have d3 : Op.bytesLess (str r.key).toList (str start).toList = false := by rw [toList_str, toList_str]; exact hp
          have HN := Lib.hid (show G ++ [r] = (l.take (i + 1)).filter (fromP start) by rw [hst, HG.out]; unfold fromP; rw [hp]; simp)
          clear hst
          have hwl := hW.size
          have hX1 : Rd (wr.alloc (.cells #[.string (str r.key), .string (str r.val)] 65)) (some ⟨wr.heap.size, 0, none⟩) (PairR.cells r) := Rd.lit wr #[.string (str r.key), .string (str r.val)] _ _
          go_wp2_with (at_builtin; refine wpList_append TPair rfl rfl rfl (hown.alloc _) rfl hX1 rfl (one1Pair r) ?c1 ?c2 ?c3 ?_)
          case c1 => unfold maxLen; omega
          case c2 => omega
          case c3 => first | omega | (simp; omega)
          intro a' c' w5 hp5
          have ho : Own w5 B a' 2 (G.length + 1) c' (rows PairR.cells (G ++ [r])) := by have q := hp5.own; rw [rows_append, rows_one]; exact q
          have hx5 : Ext no w w5 := (hW.comp (Ext.alloc no wr (.cells #[.string (str r.key), .string (str r.val)] 65))).trans hp5.ext (fun k hk => by rintro ⟨ad, h, hh⟩; have := (hown.base ad h).1; omega)
          clear hp5 hX1 hown hW y0 y1 x0 hXr
          go_wp2_with fail
          go_roundw
          case rel => exact ⟨i + 1, G ++ [r], a', c', by rw [List.length_append]; rfl, by go_num, by omega, HN.out, by rw [List.length_append, List.length_singleton]; omega, by rw [List.length_append]; exact ho, hx5⟩
          case measure => simp [intOf]; omega
      · have d2 : decide ((G.length : Int) < n) = false := decF hn
        have hZE := Lib.hid (show Z = G by rw [HZ.out, scan_done l start i n.toNat (by rw [← HG.out]; omega), HG.out])
        go_wp2_with fail
        go_ret
        exact ⟨a, c, by rw [hZE.out]; rfl, by rw [hZE.out]; exact hown.mono hB2, hW⟩
    · have d1 : decide (i < l.length) = false := decF hin
      have hZE := Lib.hid (show Z = G by
        rw [HZ.out, HG.out]
        have e : l.take i = l := List.take_of_length_le (by omega)
        rw [e]
        have h2 := hGn
        rw [HG.out, e] at h2
        rw [List.take_of_length_le h2])
      go_wp2_with fail
      go_ret
      exact ⟨a, c, by rw [hZE.out]; rfl, by rw [hZE.out]; exact hown.mono hB2, hW⟩

set_option maxRecDepth 100000 in
set_option maxHeartbeats 8000000 in
theorem rscan1_any (w : World) (x : Nat) (v0 v1 v2 : Value) (la : Option Addr) (l : List PairR) (lc : Nat) (start : List UInt8) (n : Int) (hX : Blk w x [v0, .slice la l.length lc, v2]) (hr : Rd w la (rows PairR.cells l)) (hl : l.length ≤ 1099511627775) :
    Calls Try.prog 26 #[.pointer (some ⟨x, 0, none⟩), .int .i64 1, .string (str start), .int .i64 n] w fun e w' => ∃ a' c', e = .returned (.slice a' ((l.filter (fromP start)).take n.toNat).length c') ∧ Own w' w.heap.size a' 2 ((l.filter (fromP start)).take n.toNat).length c' (rows PairR.cells ((l.filter (fromP start)).take n.toNat)) ∧ Ext no w w' := by
  obtain ⟨Z, hZ⟩ : ∃ Z, Z = (l.filter (fromP start)).take n.toNat := ⟨_, rfl⟩
  rw [← hZ]
  have HZ := Lib.hid hZ
  clear hZ
  obtain ⟨B, hB⟩ : ∃ B, B = w.heap.size := ⟨_, rfl⟩
  have hB1 : B ≤ w.heap.size := by omega
  have hB2 : w.heap.size ≤ B := by omega
  clear hB
  go_enter Try.func26, Try.ntmps26
  go_wp2_with fail
  go_loopw [9, 10] (fun s9 s10 wr => ∃ (i : Nat) (G : List PairR) (a : Option Addr) (c : Nat), s9 = .slice a G.length c ∧ s10 = .int .i64 i ∧ i ≤ l.length ∧ G = (l.take i).filter (fromP start) ∧ G.length ≤ n.toNat ∧ Own wr B a 2 G.length c (rows PairR.cells G) ∧ Ext no w wr) (fun _ s10 _ => l.length - (intOf s10).toNat)
  case atStart => exact ⟨0, [], none, 0, rfl, rfl, Nat.zero_le _, rfl, Nat.zero_le _, Own.nil _ _ _, Ext.refl _ _⟩
  case round =>
    obtain ⟨i, G, a, c, rfl, rfl, hil, hG, hGn, hown, hW⟩ := hrel
    have hGl : G.length ≤ l.length := by rw [hG]; have := List.length_filter_le (fromP start) (l.take i); rw [List.length_take] at this; omega
    have HG := Lib.hid hG
    clear hG
    have hXr := hX.ext (by simp) hW (fun h => h)
    have x0 := hXr.cell 1 _ rfl
    by_cases hin : i < l.length
    · have d1 : decide (i < l.length) = true := decT hin
      by_cases hn : (G.length : Int) < n
      · have d2 : decide ((G.length : Int) < n) = true := decT hn
        obtain ⟨r, hrm⟩ : ∃ r, l[i]? = some r := ⟨_, List.getElem?_eq_getElem hin⟩
        have hst := scan_step l start i r hrm
        obtain ⟨b, off, hsa, _⟩ := rows_shape kPair (by omega) hr (by omega)
        subst hsa
        have hrr := kvRd_no hr hW
        have y0 : wr.cell? ⟨b, off + i * 2, none⟩ = some (.string (str r.key)) := rows_cell kPair hrr hrm 0 _ rfl
        have y1 : wr.cell? ⟨b, off + i * 2 + 1, none⟩ = some (.string (str r.val)) := rows_cell kPair hrr hrm 1 _ rfl
        clear hrr hrm
        cases hp : Op.bytesLess r.key start with
        | true =>
          have d3 : Op.bytesLess (str r.key).toList (str start).toList = true := by rw [toList_str, toList_str]; exact hp
          have HN := Lib.hid (show G = (l.take (i + 1)).filter (fromP start) by rw [hst, HG.out]; unfold fromP; rw [hp]; simp)
          clear hst
          go_wp2_with fail
          go_roundw
          case rel => exact ⟨i + 1, G, a, c, rfl, by go_num, by omega, HN.out, hGn, hown, hW⟩
          case measure => simp [intOf]; omega
        | false =>
          have d3 : Op.bytesLess (str r.key).toList (str start).toList = false := by rw [toList_str, toList_str]; exact hp
          have HN := Lib.hid (show G ++ [r] = (l.take (i + 1)).filter (fromP start) by rw [hst, HG.out]; unfold fromP; rw [hp]; simp)
          clear hst
          have hwl := hW.size
          have hX1 : Rd (wr.alloc (.cells #[.string (str r.key), .string (str r.val)] 65)) (some ⟨wr.heap.size, 0, none⟩) (PairR.cells r) := Rd.lit wr #[.string (str r.key), .string (str r.val)] _ _
          go_wp2_with (at_builtin; refine wpList_append TPair rfl rfl rfl (hown.alloc _) rfl hX1 rfl (one1Pair r) ?c1 ?c2 ?c3 ?_)
          case c1 => unfold maxLen; omega
          case c2 => omega
          case c3 => first | omega | (simp; omega)
          intro a' c' w5 hp5
          have ho : Own w5 B a' 2 (G.length + 1) c' (rows PairR.cells (G ++ [r])) := by have q := hp5.own; rw [rows_append, rows_one]; exact q
          have hx5 : Ext no w w5 := (hW.comp (Ext.alloc no wr (.cells #[.string (str r.key), .string (str r.val)] 65))).trans hp5.ext (fun k hk => by rintro ⟨ad, h, hh⟩; have := (hown.base ad h).1; omega)
          clear hp5 hX1 hown hW y0 y1 x0 hXr
          go_wp2_with fail
          go_roundw
          case rel => exact ⟨i + 1, G ++ [r], a', c', by rw [List.length_append]; rfl, by go_num, by omega, HN.out, by rw [List.length_append, List.length_singleton]; omega, by rw [List.length_append]; exact ho, hx5⟩
          case measure => simp [intOf]; omega
      · have d2 : decide ((G.length : Int) < n) = false := decF hn
        have hZE := Lib.hid (show Z = G by rw [HZ.out, scan_done l start i n.toNat (by rw [← HG.out]; omega), HG.out])
        go_wp2_with fail
        go_ret
        exact ⟨a, c, by rw [hZE.out]; rfl, by rw [hZE.out]; exact hown.mono hB2, hW⟩
    · have d1 : decide (i < l.length) = false := decF hin
      have hZE := Lib.hid (show Z = G by
        rw [HZ.out, HG.out]
        have e : l.take i = l := List.take_of_length_le (by omega)
        rw [e]
        have h2 := hGn
        rw [HG.out, e] at h2
        rw [List.take_of_length_le h2])
      go_wp2_with fail
      go_ret
      exact ⟨a, c, by rw [hZE.out]; rfl, by rw [hZE.out]; exact hown.mono hB2, hW⟩

set_option maxRecDepth 100000 in
set_option maxHeartbeats 8000000 in
theorem rscan2_any (w : World) (x : Nat) (v0 v1 v2 : Value) (la : Option Addr) (l : List PairR) (lc : Nat) (start : List UInt8) (n : Int) (hX : Blk w x [v0, v1, .slice la l.length lc]) (hr : Rd w la (rows PairR.cells l)) (hl : l.length ≤ 1099511627775) :
    Calls Try.prog 26 #[.pointer (some ⟨x, 0, none⟩), .int .i64 2, .string (str start), .int .i64 n] w fun e w' => ∃ a' c', e = .returned (.slice a' ((l.filter (fromP start)).take n.toNat).length c') ∧ Own w' w.heap.size a' 2 ((l.filter (fromP start)).take n.toNat).length c' (rows PairR.cells ((l.filter (fromP start)).take n.toNat)) ∧ Ext no w w' := by
  obtain ⟨Z, hZ⟩ : ∃ Z, Z = (l.filter (fromP start)).take n.toNat := ⟨_, rfl⟩
  rw [← hZ]
  have HZ := Lib.hid hZ
  clear hZ
  obtain ⟨B, hB⟩ : ∃ B, B = w.heap.size := ⟨_, rfl⟩
  have hB1 : B ≤ w.heap.size := by omega
  have hB2 : w.heap.size ≤ B := by omega
  clear hB
  go_enter Try.func26, Try.ntmps26
  go_wp2_with fail
  go_loopw [9, 10] (fun s9 s10 wr => ∃ (i : Nat) (G : List PairR) (a : Option Addr) (c : Nat), s9 = .slice a G.length c ∧ s10 = .int .i64 i ∧ i ≤ l.length ∧ G = (l.take i).filter (fromP start) ∧ G.length ≤ n.toNat ∧ Own wr B a 2 G.length c (rows PairR.cells G) ∧ Ext no w wr) (fun _ s10 _ => l.length - (intOf s10).toNat)
  case atStart => exact ⟨0, [], none, 0, rfl, rfl, Nat.zero_le _, rfl, Nat.zero_le _, Own.nil _ _ _, Ext.refl _ _⟩
  case round =>
    obtain ⟨i, G, a, c, rfl, rfl, hil, hG, hGn, hown, hW⟩ := hrel
    have hGl : G.length ≤ l.length := by rw [hG]; have := List.length_filter_le (fromP start) (l.take i); rw [List.length_take] at this; omega
    have HG := Lib.hid hG
    clear hG
    have hXr := hX.ext (by simp) hW (fun h => h)
    have x0 := hXr.cell 2 _ rfl
    by_cases hin : i < l.length
    · have d1 : decide (i < l.length) = true := decT hin
      by_cases hn : (G.length : Int) < n
      · have d2 : decide ((G.length : Int) < n) = true := decT hn
        obtain ⟨r, hrm⟩ : ∃ r, l[i]? = some r := ⟨_, List.getElem?_eq_getElem hin⟩
        have hst := scan_step l start i r hrm
        obtain ⟨b, off, hsa, _⟩ := rows_shape kPair (by omega) hr (by omega)
        subst hsa
        have hrr := kvRd_no hr hW
        have y0 : wr.cell? ⟨b, off + i * 2, none⟩ = some (.string (str r.key)) := rows_cell kPair hrr hrm 0 _ rfl
        have y1 : wr.cell? ⟨b, off + i * 2 + 1, none⟩ = some (.string (str r.val)) := rows_cell kPair hrr hrm 1 _ rfl
        clear hrr hrm
        cases hp : Op.bytesLess r.key start with
        | true =>
          have d3 : Op.bytesLess (str r.key).toList (str start).toList = true := by rw [toList_str, toList_str]; exact hp
          have HN := Lib.hid (show G = (l.take (i + 1)).filter (fromP start) by rw [hst, HG.out]; unfold fromP; rw [hp]; simp)
          clear hst
          go_wp2_with fail
          go_roundw
          case rel => exact ⟨i + 1, G, a, c, rfl, by go_num, by omega, HN.out, hGn, hown, hW⟩
          case measure => simp [intOf]; omega
        | false =>
          have d3 : Op.bytesLess (str r.key).toList (str start).toList = false := by rw [toList_str, toList_str]; exact hp
          have HN := Lib.hid (show G ++ [r] = (l.take (i + 1)).filter (fromP start) by rw [hst, HG.out]; unfold fromP; rw [hp]; simp)
          clear hst
          have hwl := hW.size
          have hX1 : Rd (wr.alloc (.cells #[.string (str r.key), .string (str r.val)] 65)) (some ⟨wr.heap.size, 0, none⟩) (PairR.cells r) := Rd.lit wr #[.string (str r.key), .string (str r.val)] _ _
          go_wp2_with (at_builtin; refine wpList_append TPair rfl rfl rfl (hown.alloc _) rfl hX1 rfl (one1Pair r) ?c1 ?c2 ?c3 ?_)
          case c1 => unfold maxLen; omega
          case c2 => omega
          case c3 => first | omega | (simp; omega)
          intro a' c' w5 hp5
          have ho : Own w5 B a' 2 (G.length + 1) c' (rows PairR.cells (G ++ [r])) := by have q := hp5.own; rw [rows_append, rows_one]; exact q
          have hx5 : Ext no w w5 := (hW.comp (Ext.alloc no wr (.cells #[.string (str r.key), .string (str r.val)] 65))).trans hp5.ext (fun k hk => by rintro ⟨ad, h, hh⟩; have := (hown.base ad h).1; omega)
          clear hp5 hX1 hown hW y0 y1 x0 hXr
          go_wp2_with fail
          go_roundw
          case rel => exact ⟨i + 1, G ++ [r], a', c', by rw [List.length_append]; rfl, by go_num, by omega, HN.out, by rw [List.length_append, List.length_singleton]; omega, by rw [List.length_append]; exact ho, hx5⟩
          case measure => simp [intOf]; omega
      · have d2 : decide ((G.length : Int) < n) = false := decF hn
        have hZE := Lib.hid (show Z = G by rw [HZ.out, scan_done l start i n.toNat (by rw [← HG.out]; omega), HG.out])
        go_wp2_with fail
        go_ret
        exact ⟨a, c, by rw [hZE.out]; rfl, by rw [hZE.out]; exact hown.mono hB2, hW⟩
    · have d1 : decide (i < l.length) = false := decF hin
      have hZE := Lib.hid (show Z = G by
        rw [HZ.out, HG.out]
        have e : l.take i = l := List.take_of_length_le (by omega)
        rw [e]
        have h2 := hGn
        rw [HG.out, e] at h2
        rw [List.take_of_length_le h2])
      go_wp2_with fail
      go_ret
      exact ⟨a, c, by rw [hZE.out]; rfl, by rw [hZE.out]; exact hown.mono hB2, hW⟩

/-- The reference's Scan. -/
theorem rscan_any (w : World) (x : Nat) (X : KvX) (q : Trio) (h : KxAt w x X q) (hm : X.most 1099511627775) (c : Int) (hc : c = 0 ∨ c = 1 ∨ c = 2) (start : List UInt8) (n : Int) :
    Calls Try.prog 26 #[.pointer (some ⟨x, 0, none⟩), .int .i64 c, .string (str start), .int .i64 n] w fun e w' => ∃ a' c', e = .returned (.slice a' ((scanX X c start).take n.toNat).length c') ∧ Own w' w.heap.size a' 2 ((scanX X c start).take n.toNat).length c' (rows PairR.cells ((scanX X c start).take n.toNat)) ∧ Ext no w w' := by
  rcases hc with rfl | rfl | rfl
  · exact rscan0_any w x (.bool true) _ _ q.a0 X.r0 q.c0 start n h.blk h.r0 hm.1
  · exact rscan1_any w x _ (.bool true) _ q.a1 X.r1 q.c1 start n h.blk h.r1 hm.2.1
  · exact rscan2_any w x _ _ (.bool true) q.a2 X.r2 q.c2 start n h.blk h.r2 hm.2.2
end Go.Proofs.Ytpljcnjkdjblmaa
