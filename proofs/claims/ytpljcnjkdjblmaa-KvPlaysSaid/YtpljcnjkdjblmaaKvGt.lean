/- The reference's Get. -/
import Derived.Test.YtpljcnjkdjblmaaKvTw
namespace Go.Esc
open Go.RowKit
def rGet (l : List PairR) (k : List UInt8) : Option (List UInt8) := (l.find? (fun r => decide (r.key = k))).map (·.val)
theorem rGet_at {l : List PairR} {k : List UInt8} {i : Nat} {r : PairR} (hi : l[i]? = some r) (hk : r.key = k) (hno : ∀ x ∈ l.take i, x.key ≠ k) : rGet l k = some r.val := by
  have e : l = l.take i ++ r :: l.drop (i + 1) := by
    have h := (List.getElem?_eq_some_iff.1 hi)
    have hd := List.drop_eq_getElem_cons h.1
    rw [h.2] at hd
    rw [← hd, List.take_append_drop]
  have hf : (l.take i).find? (fun r => decide (r.key = k)) = none := by
    rw [List.find?_eq_none]
    intro x hx
    simpa using hno x hx
  unfold rGet
  rw [e, List.find?_append, hf]
  simp [hk]
theorem rGet_no {l : List PairR} {k : List UInt8} (hno : ∀ x ∈ l, x.key ≠ k) : rGet l k = none := by
  unfold rGet
  rw [Option.map_eq_none_iff, List.find?_eq_none]
  intro x hx
  simpa using hno x hx
theorem get_same {m : KvM} {X : KvX} (h : Tells m X) {c : Int} (hc : c = 0 ∨ c = 1 ∨ c = 2) (k : List UInt8) : kvGet m (c, k) = rGet (X.row c) k ∧ kvHas m (c, k) = (rGet (X.row c) k).isSome := by
  cases hr : rGet (X.row c) k with
  | some v =>
    unfold rGet at hr
    rw [Option.map_eq_some_iff] at hr
    obtain ⟨r, h1, rfl⟩ := hr
    have h2 := List.mem_of_find?_eq_some h1
    have h3 : r.key = k := by simpa using List.find?_some h1
    have h4 := (h.mem c r hc).1 h2
    rw [h3] at h4
    exact ⟨(kvGet_some h.once).2 h4, (kvHas_iff m _).2 ⟨_, h4⟩⟩
  | none =>
    have hno : kvHas m (c, k) = false := by
      cases hh : kvHas m (c, k) with
      | false => rfl
      | true =>
        obtain ⟨v, hv⟩ := (kvHas_iff m _).1 hh
        have h5 := (h.mem c ⟨k, v⟩ hc).2 hv
        unfold rGet at hr
        rw [Option.map_eq_none_iff, List.find?_eq_none] at hr
        exact absurd (by simp) (hr _ h5)
    exact ⟨kvGet_none.2 hno, hno⟩
end Go.Esc
namespace Go.Proofs.Ytpljcnjkdjblmaa
open Go.RowKit Go.Esc
set_option linter.unusedVariables false
set_option linter.unusedSimpArgs false

set_option maxRecDepth 100000 in
set_option maxHeartbeats 8000000 in
theorem rget0_any (w : World) (x : Nat) (v0 v1 v2 : Value) (la : Option Addr) (l : List PairR) (lc : Nat) (k : List UInt8) (hX : Blk w x [.slice la l.length lc, v1, v2]) (hr : Rd w la (rows PairR.cells l)) (hl : l.length ≤ 1099511627775) :
    Calls Try.prog 27 #[.pointer (some ⟨x, 0, none⟩), .int .i64 0, .string (str k)] w fun e w' => e = .returned (.tuple #[.string (str ((rGet l k).getD [])), .bool (rGet l k).isSome]) ∧ w = w' := by
  have x0 := hX.cell 0 _ rfl
  go_enter Try.func27, Try.ntmps27
  go_wp2_with fail
  go_loopw [8] (fun s8 wr => ∃ i : Nat, s8 = .int .i64 i ∧ i ≤ l.length ∧ (∀ r ∈ l.take i, r.key ≠ k) ∧ w = wr) (fun s8 _ => l.length - (intOf s8).toNat)
  case atStart => exact ⟨0, rfl, Nat.zero_le _, (fun r h => by simp at h), rfl⟩
  case round =>
    obtain ⟨i, rfl, hil, hno, rfl⟩ := hrel
    have HNo := Lib.hid hno
    clear hno
    by_cases hin : i < l.length
    · have d1 : decide (i < l.length) = true := decT hin
      obtain ⟨r, hrm⟩ : ∃ r, l[i]? = some r := ⟨_, List.getElem?_eq_getElem hin⟩
      obtain ⟨b, off, hsa, _⟩ := rows_shape kPair (by omega) hr (by omega)
      subst hsa
      have y0 : w.cell? ⟨b, off + i * 2, none⟩ = some (.string (str r.key)) := rows_cell kPair hr hrm 0 _ rfl
      have y1 : w.cell? ⟨b, off + i * 2 + 1, none⟩ = some (.string (str r.val)) := rows_cell kPair hr hrm 1 _ rfl
      have htk : l.take (i + 1) = l.take i ++ [r] := by rw [List.take_succ_eq_append_getElem hin, (List.getElem?_eq_some_iff.1 hrm).2]
      have HTk := Lib.hid htk
      have HRm := Lib.hid hrm
      clear hrm htk
      by_cases hk : r.key = k
      · have d2 : ((str r.key).toList == (str k).toList) = true := by rw [hk]; exact beqStrT rfl
        have HR := Lib.hid (rGet_at HRm.out hk HNo.out)
        clear hk
        go_wp2_with fail
        go_ret2
        exact ⟨by rw [HR.out]; rfl, rfl⟩
      · have d2 : ((str r.key).toList == (str k).toList) = false := by rw [toList_str, toList_str, beq_eq_false_iff_ne]; exact hk
        have HN := Lib.hid (show ∀ x ∈ l.take (i + 1), x.key ≠ k from fun x hx => by
          rw [HTk.out] at hx
          rcases List.mem_append.1 hx with hx | hx
          · exact HNo.out x hx
          · rw [List.mem_singleton] at hx; rw [hx]; exact hk)
        clear hk
        go_wp2_with fail
        go_roundw
        case rel => exact ⟨i + 1, by go_num, by omega, HN.out, trivial⟩
        case measure => simp [intOf]; omega
    · have d1 : decide (i < l.length) = false := decF hin
      have HR := Lib.hid (show rGet l k = none from rGet_no (by
        have h1 := HNo.out
        rw [List.take_of_length_le (by omega)] at h1
        exact h1))
      go_wp2_with fail
      go_ret2
      exact ⟨by rw [HR.out]; rfl, rfl⟩

set_option maxRecDepth 100000 in
set_option maxHeartbeats 8000000 in
theorem rget1_any (w : World) (x : Nat) (v0 v1 v2 : Value) (la : Option Addr) (l : List PairR) (lc : Nat) (k : List UInt8) (hX : Blk w x [v0, .slice la l.length lc, v2]) (hr : Rd w la (rows PairR.cells l)) (hl : l.length ≤ 1099511627775) :
    Calls Try.prog 27 #[.pointer (some ⟨x, 0, none⟩), .int .i64 1, .string (str k)] w fun e w' => e = .returned (.tuple #[.string (str ((rGet l k).getD [])), .bool (rGet l k).isSome]) ∧ w = w' := by
  have x0 := hX.cell 1 _ rfl
  go_enter Try.func27, Try.ntmps27
  go_wp2_with fail
  go_loopw [8] (fun s8 wr => ∃ i : Nat, s8 = .int .i64 i ∧ i ≤ l.length ∧ (∀ r ∈ l.take i, r.key ≠ k) ∧ w = wr) (fun s8 _ => l.length - (intOf s8).toNat)
  case atStart => exact ⟨0, rfl, Nat.zero_le _, (fun r h => by simp at h), rfl⟩
  case round =>
    obtain ⟨i, rfl, hil, hno, rfl⟩ := hrel
    have HNo := Lib.hid hno
    clear hno
    by_cases hin : i < l.length
    · have d1 : decide (i < l.length) = true := decT hin
      obtain ⟨r, hrm⟩ : ∃ r, l[i]? = some r := ⟨_, List.getElem?_eq_getElem hin⟩
      obtain ⟨b, off, hsa, _⟩ := rows_shape kPair (by omega) hr (by omega)
      subst hsa
      have y0 : w.cell? ⟨b, off + i * 2, none⟩ = some (.string (str r.key)) := rows_cell kPair hr hrm 0 _ rfl
      have y1 : w.cell? ⟨b, off + i * 2 + 1, none⟩ = some (.string (str r.val)) := rows_cell kPair hr hrm 1 _ rfl
      have htk : l.take (i + 1) = l.take i ++ [r] := by rw [List.take_succ_eq_append_getElem hin, (List.getElem?_eq_some_iff.1 hrm).2]
      have HTk := Lib.hid htk
      have HRm := Lib.hid hrm
      clear hrm htk
      by_cases hk : r.key = k
      · have d2 : ((str r.key).toList == (str k).toList) = true := by rw [hk]; exact beqStrT rfl
        have HR := Lib.hid (rGet_at HRm.out hk HNo.out)
        clear hk
        go_wp2_with fail
        go_ret2
        exact ⟨by rw [HR.out]; rfl, rfl⟩
      · have d2 : ((str r.key).toList == (str k).toList) = false := by rw [toList_str, toList_str, beq_eq_false_iff_ne]; exact hk
        have HN := Lib.hid (show ∀ x ∈ l.take (i + 1), x.key ≠ k from fun x hx => by
          rw [HTk.out] at hx
          rcases List.mem_append.1 hx with hx | hx
          · exact HNo.out x hx
          · rw [List.mem_singleton] at hx; rw [hx]; exact hk)
        clear hk
        go_wp2_with fail
        go_roundw
        case rel => exact ⟨i + 1, by go_num, by omega, HN.out, trivial⟩
        case measure => simp [intOf]; omega
    · have d1 : decide (i < l.length) = false := decF hin
      have HR := Lib.hid (show rGet l k = none from rGet_no (by
        have h1 := HNo.out
        rw [List.take_of_length_le (by omega)] at h1
        exact h1))
      go_wp2_with fail
      go_ret2
      exact ⟨by rw [HR.out]; rfl, rfl⟩

set_option maxRecDepth 100000 in
set_option maxHeartbeats 8000000 in
theorem rget2_any (w : World) (x : Nat) (v0 v1 v2 : Value) (la : Option Addr) (l : List PairR) (lc : Nat) (k : List UInt8) (hX : Blk w x [v0, v1, .slice la l.length lc]) (hr : Rd w la (rows PairR.cells l)) (hl : l.length ≤ 1099511627775) :
    Calls Try.prog 27 #[.pointer (some ⟨x, 0, none⟩), .int .i64 2, .string (str k)] w fun e w' => e = .returned (.tuple #[.string (str ((rGet l k).getD [])), .bool (rGet l k).isSome]) ∧ w = w' := by
  have x0 := hX.cell 2 _ rfl
  go_enter Try.func27, Try.ntmps27
  go_wp2_with fail
  go_loopw [8] (fun s8 wr => ∃ i : Nat, s8 = .int .i64 i ∧ i ≤ l.length ∧ (∀ r ∈ l.take i, r.key ≠ k) ∧ w = wr) (fun s8 _ => l.length - (intOf s8).toNat)
  case atStart => exact ⟨0, rfl, Nat.zero_le _, (fun r h => by simp at h), rfl⟩
  case round =>
    obtain ⟨i, rfl, hil, hno, rfl⟩ := hrel
    have HNo := Lib.hid hno
    clear hno
    by_cases hin : i < l.length
    · have d1 : decide (i < l.length) = true := decT hin
      obtain ⟨r, hrm⟩ : ∃ r, l[i]? = some r := ⟨_, List.getElem?_eq_getElem hin⟩
      obtain ⟨b, off, hsa, _⟩ := rows_shape kPair (by omega) hr (by omega)
      subst hsa
      have y0 : w.cell? ⟨b, off + i * 2, none⟩ = some (.string (str r.key)) := rows_cell kPair hr hrm 0 _ rfl
      have y1 : w.cell? ⟨b, off + i * 2 + 1, none⟩ = some (.string (str r.val)) := rows_cell kPair hr hrm 1 _ rfl
      have htk : l.take (i + 1) = l.take i ++ [r] := by rw [List.take_succ_eq_append_getElem hin, (List.getElem?_eq_some_iff.1 hrm).2]
      have HTk := Lib.hid htk
      have HRm := Lib.hid hrm
      clear hrm htk
      by_cases hk : r.key = k
      · have d2 : ((str r.key).toList == (str k).toList) = true := by rw [hk]; exact beqStrT rfl
        have HR := Lib.hid (rGet_at HRm.out hk HNo.out)
        clear hk
        go_wp2_with fail
        go_ret2
        exact ⟨by rw [HR.out]; rfl, rfl⟩
      · have d2 : ((str r.key).toList == (str k).toList) = false := by rw [toList_str, toList_str, beq_eq_false_iff_ne]; exact hk
        have HN := Lib.hid (show ∀ x ∈ l.take (i + 1), x.key ≠ k from fun x hx => by
          rw [HTk.out] at hx
          rcases List.mem_append.1 hx with hx | hx
          · exact HNo.out x hx
          · rw [List.mem_singleton] at hx; rw [hx]; exact hk)
        clear hk
        go_wp2_with fail
        go_roundw
        case rel => exact ⟨i + 1, by go_num, by omega, HN.out, trivial⟩
        case measure => simp [intOf]; omega
    · have d1 : decide (i < l.length) = false := decF hin
      have HR := Lib.hid (show rGet l k = none from rGet_no (by
        have h1 := HNo.out
        rw [List.take_of_length_le (by omega)] at h1
        exact h1))
      go_wp2_with fail
      go_ret2
      exact ⟨by rw [HR.out]; rfl, rfl⟩

/-- The reference's Get. -/
theorem rget_any (w : World) (x : Nat) (X : KvX) (q : Trio) (h : KxAt w x X q) (hm : X.most 1099511627775) (c : Int) (hc : c = 0 ∨ c = 1 ∨ c = 2) (k : List UInt8) :
    Calls Try.prog 27 #[.pointer (some ⟨x, 0, none⟩), .int .i64 c, .string (str k)] w fun e w' => e = .returned (.tuple #[.string (str ((rGet (X.row c) k).getD [])), .bool (rGet (X.row c) k).isSome]) ∧ w = w' := by
  rcases hc with rfl | rfl | rfl
  · exact rget0_any w x (.bool true) _ _ q.a0 X.r0 q.c0 k h.blk h.r0 hm.1
  · exact rget1_any w x _ (.bool true) _ q.a1 X.r1 q.c1 k h.blk h.r1 hm.2.1
  · exact rget2_any w x _ _ (.bool true) q.a2 X.r2 q.c2 k h.blk h.r2 hm.2.2
end Go.Proofs.Ytpljcnjkdjblmaa
