/- Walks of find: where something is, in collections and vectors, by a closure that compares. -/
import Derived.Test.YtejmmkjpncpedaaGreatCoC
namespace Go.Esc
def atCmp {α : Type} (cmp : α → Int) (l : List α) (n : Nat) : Bool := match l[n]? with | some x => decide (cmp x = 0) | none => false
end Go.Esc
namespace Go.Proofs.YtejmmkjpncpedaaGreat
open Go.RowKit Go.Esc
set_option linter.unusedVariables false
set_option linter.unusedSimpArgs false
set_option maxRecDepth 100000 in
set_option maxHeartbeats 1000000 in
theorem findSum_any (w : World) (a : Option Addr) (c : Nat) (l : List SumR) (fn : Nat) (pb po : Nat) (cmp : SumR → Int) (hr : Rd w a (rows SumR.cells l)) (hl : l.length ≤ 1099511627776)
    (he : ∀ (args : Array Value) (w : World), (callFunc fn args).run Tryz.prog w = .ok (.enter fn args) w)
    (hf : ∀ (w' : World) (x : SumR), x ∈ l → Ext no w w' → Calls Tryz.prog fn #[.agg #[.string (str x.key), .int .i64 x.n], .pointer (some ⟨pb, po, none⟩)] w' fun e w'' => e = .returned (.int .i64 (cmp x)) ∧ Ext no w' w'')
    (n : Nat) (hn : n ≤ l.length) (hless : ∀ j x, l[j]? = some x → (cmp x < 0 ↔ j < n)) :
    Calls Tryz.prog 86 #[.slice a l.length c, .func (.func fn) #[] #[.pointer (some ⟨pb, po, none⟩)]] w fun e w' => e = .returned (.tuple #[.int .i64 n, .bool (atCmp cmp l n)]) ∧ Ext no w w' := by
  have hk : ∀ x, (SumR.cells x).length = 2 := fun _ => rfl
  go_enter Tryz.func86, Tryz.ntmps86
  go_wp2_with fail
  go_loopw [6, 7] (fun s6 s7 wr => ∃ i j : Nat, i ≤ n ∧ n ≤ j ∧ j ≤ l.length ∧ s6 = .int .i64 i ∧ s7 = .int .i64 j ∧ Ext no w wr) (fun s6 s7 _ => (intOf s7).toNat - (intOf s6).toNat)
  case atStart => exact ⟨0, l.length, by omega, by omega, by omega, rfl, rfl, Ext.refl _ _⟩
  case round =>
    obtain ⟨i, j, hi, hj, hjl, rfl, rfl, hx⟩ := hrel
    by_cases hij : i < j
    · have d1 : decide (i < j) = true := decT hij
      obtain ⟨m, hm⟩ : ∃ m : Nat, m = (i + j) / 2 := ⟨_, rfl⟩
      have hm1 : i ≤ m := by omega
      have hm2 : m < j := by omega
      have Hm := Lib.hid hm
      have hmi : ((i : Int) + (j : Int)) / 2 = (m : Int) := by omega
      obtain ⟨x, hxm⟩ : ∃ x, l[m]? = some x := ⟨_, List.getElem?_eq_getElem (by omega)⟩
      obtain ⟨b, off, rfl, hlt⟩ := rows_shape hk (by omega) hr (by omega)
      have q := rows_cell hk (hr.ext hx (fun _ _ h => h)) hxm
      have q0 : wr.cell? ⟨b, off + m * 2, none⟩ = some (.string (str x.key)) := q 0 _ rfl
      have q1 : wr.cell? ⟨b, off + m * 2 + 1, none⟩ = some (.int .i64 x.n) := q 1 _ rfl
      clear q hm
      have hle := hless m x hxm
      go_wp2_with fail
      refine (hf wr x (List.mem_of_getElem? hxm) hx).mono ?_
      rintro e w1 ⟨rfl, hx1⟩
      by_cases hc : cmp x < 0
      · have d2 : decide (cmp x < 0) = true := decT hc
        go_wp2_with fail
        go_roundw
        case rel => exact ⟨m + 1, j, by have := hle.1 hc; omega, hj, hjl, by go_num, rfl, hx.comp hx1⟩
        case measure => simp [intOf]; omega
      · have d2 : decide (cmp x < 0) = false := decF hc
        have hnm : n ≤ m := by
          by_cases h : m < n
          · exact absurd (hle.2 h) hc
          · omega
        go_wp2_with fail
        go_roundw
        case rel => exact ⟨i, m, hi, hnm, by omega, rfl, rfl, hx.comp hx1⟩
        case measure => simp [intOf]; omega
    · have d1 : decide (i < j) = false := decF hij
      obtain rfl : n = i := by omega
      obtain rfl : n = j := by omega
      by_cases hnl : n < l.length
      · have d2 : decide (n < l.length) = true := decT hnl
        obtain ⟨x, hxm⟩ : ∃ x, l[n]? = some x := ⟨_, List.getElem?_eq_getElem (by omega)⟩
        obtain ⟨b, off, rfl, hlt⟩ := rows_shape hk (by omega) hr (by omega)
        have q := rows_cell hk (hr.ext hx (fun _ _ h => h)) hxm
        have q0 : wr.cell? ⟨b, off + n * 2, none⟩ = some (.string (str x.key)) := q 0 _ rfl
        have q1 : wr.cell? ⟨b, off + n * 2 + 1, none⟩ = some (.int .i64 x.n) := q 1 _ rfl
        have Hr := Lib.hid (show atCmp cmp l n = decide (cmp x = 0) by unfold atCmp; rw [hxm])
        clear q
        go_wp2_with fail
        refine (hf wr x (List.mem_of_getElem? hxm) hx).mono ?_
        rintro e w1 ⟨rfl, hx1⟩
        go_wp2_with fail
        go_ret2
        exact ⟨by rw [Hr.out]; rfl, hx.comp hx1⟩
      · have d2 : decide (n < l.length) = false := decF hnl
        have Hr := Lib.hid (show atCmp cmp l n = false by unfold atCmp; rw [List.getElem?_eq_none (by omega)])
        go_wp2_with fail
        go_ret2
        exact ⟨by rw [Hr.out]; rfl, hx⟩
set_option maxRecDepth 100000 in
set_option maxHeartbeats 1000000 in
theorem findReg_any (w : World) (a : Option Addr) (c : Nat) (l : List RegR) (fn : Nat) (pb po : Nat) (cmp : RegR → Int) (hr : Rd w a (rows RegR.cells l)) (hl : l.length ≤ 1099511627776)
    (he : ∀ (args : Array Value) (w : World), (callFunc fn args).run Tryz.prog w = .ok (.enter fn args) w)
    (hf : ∀ (w' : World) (x : RegR), x ∈ l → Ext no w w' → Calls Tryz.prog fn #[.agg #[.string (str x.key), .string (str x.text), .int .i64 x.ver, .int .i64 x.time, .int .i64 x.dot.dev, .int .i64 x.dot.ep, .int .i64 x.dot.seq], .pointer (some ⟨pb, po, none⟩)] w' fun e w'' => e = .returned (.int .i64 (cmp x)) ∧ Ext no w' w'')
    (n : Nat) (hn : n ≤ l.length) (hless : ∀ j x, l[j]? = some x → (cmp x < 0 ↔ j < n)) :
    Calls Tryz.prog 73 #[.slice a l.length c, .func (.func fn) #[] #[.pointer (some ⟨pb, po, none⟩)]] w fun e w' => e = .returned (.tuple #[.int .i64 n, .bool (atCmp cmp l n)]) ∧ Ext no w w' := by
  have hk : ∀ x, (RegR.cells x).length = 7 := fun _ => rfl
  go_enter Tryz.func73, Tryz.ntmps73
  go_wp2_with fail
  go_loopw [6, 7] (fun s6 s7 wr => ∃ i j : Nat, i ≤ n ∧ n ≤ j ∧ j ≤ l.length ∧ s6 = .int .i64 i ∧ s7 = .int .i64 j ∧ Ext no w wr) (fun s6 s7 _ => (intOf s7).toNat - (intOf s6).toNat)
  case atStart => exact ⟨0, l.length, by omega, by omega, by omega, rfl, rfl, Ext.refl _ _⟩
  case round =>
    obtain ⟨i, j, hi, hj, hjl, rfl, rfl, hx⟩ := hrel
    by_cases hij : i < j
    · have d1 : decide (i < j) = true := decT hij
      obtain ⟨m, hm⟩ : ∃ m : Nat, m = (i + j) / 2 := ⟨_, rfl⟩
      have hm1 : i ≤ m := by omega
      have hm2 : m < j := by omega
      have Hm := Lib.hid hm
      have hmi : ((i : Int) + (j : Int)) / 2 = (m : Int) := by omega
      obtain ⟨x, hxm⟩ : ∃ x, l[m]? = some x := ⟨_, List.getElem?_eq_getElem (by omega)⟩
      obtain ⟨b, off, rfl, hlt⟩ := rows_shape hk (by omega) hr (by omega)
      have q := rows_cell hk (hr.ext hx (fun _ _ h => h)) hxm
      have q0 : wr.cell? ⟨b, off + m * 7, none⟩ = some (.string (str x.key)) := q 0 _ rfl
      have q1 : wr.cell? ⟨b, off + m * 7 + 1, none⟩ = some (.string (str x.text)) := q 1 _ rfl
      have q2 : wr.cell? ⟨b, off + m * 7 + 2, none⟩ = some (.int .i64 x.ver) := q 2 _ rfl
      have q3 : wr.cell? ⟨b, off + m * 7 + 3, none⟩ = some (.int .i64 x.time) := q 3 _ rfl
      have q4 : wr.cell? ⟨b, off + m * 7 + 4, none⟩ = some (.int .i64 x.dot.dev) := q 4 _ rfl
      have q5 : wr.cell? ⟨b, off + m * 7 + 5, none⟩ = some (.int .i64 x.dot.ep) := q 5 _ rfl
      have q6 : wr.cell? ⟨b, off + m * 7 + 6, none⟩ = some (.int .i64 x.dot.seq) := q 6 _ rfl
      clear q hm
      have hle := hless m x hxm
      go_wp2_with fail
      refine (hf wr x (List.mem_of_getElem? hxm) hx).mono ?_
      rintro e w1 ⟨rfl, hx1⟩
      by_cases hc : cmp x < 0
      · have d2 : decide (cmp x < 0) = true := decT hc
        go_wp2_with fail
        go_roundw
        case rel => exact ⟨m + 1, j, by have := hle.1 hc; omega, hj, hjl, by go_num, rfl, hx.comp hx1⟩
        case measure => simp [intOf]; omega
      · have d2 : decide (cmp x < 0) = false := decF hc
        have hnm : n ≤ m := by
          by_cases h : m < n
          · exact absurd (hle.2 h) hc
          · omega
        go_wp2_with fail
        go_roundw
        case rel => exact ⟨i, m, hi, hnm, by omega, rfl, rfl, hx.comp hx1⟩
        case measure => simp [intOf]; omega
    · have d1 : decide (i < j) = false := decF hij
      obtain rfl : n = i := by omega
      obtain rfl : n = j := by omega
      by_cases hnl : n < l.length
      · have d2 : decide (n < l.length) = true := decT hnl
        obtain ⟨x, hxm⟩ : ∃ x, l[n]? = some x := ⟨_, List.getElem?_eq_getElem (by omega)⟩
        obtain ⟨b, off, rfl, hlt⟩ := rows_shape hk (by omega) hr (by omega)
        have q := rows_cell hk (hr.ext hx (fun _ _ h => h)) hxm
        have q0 : wr.cell? ⟨b, off + n * 7, none⟩ = some (.string (str x.key)) := q 0 _ rfl
        have q1 : wr.cell? ⟨b, off + n * 7 + 1, none⟩ = some (.string (str x.text)) := q 1 _ rfl
        have q2 : wr.cell? ⟨b, off + n * 7 + 2, none⟩ = some (.int .i64 x.ver) := q 2 _ rfl
        have q3 : wr.cell? ⟨b, off + n * 7 + 3, none⟩ = some (.int .i64 x.time) := q 3 _ rfl
        have q4 : wr.cell? ⟨b, off + n * 7 + 4, none⟩ = some (.int .i64 x.dot.dev) := q 4 _ rfl
        have q5 : wr.cell? ⟨b, off + n * 7 + 5, none⟩ = some (.int .i64 x.dot.ep) := q 5 _ rfl
        have q6 : wr.cell? ⟨b, off + n * 7 + 6, none⟩ = some (.int .i64 x.dot.seq) := q 6 _ rfl
        have Hr := Lib.hid (show atCmp cmp l n = decide (cmp x = 0) by unfold atCmp; rw [hxm])
        clear q
        go_wp2_with fail
        refine (hf wr x (List.mem_of_getElem? hxm) hx).mono ?_
        rintro e w1 ⟨rfl, hx1⟩
        go_wp2_with fail
        go_ret2
        exact ⟨by rw [Hr.out]; rfl, hx.comp hx1⟩
      · have d2 : decide (n < l.length) = false := decF hnl
        have Hr := Lib.hid (show atCmp cmp l n = false by unfold atCmp; rw [List.getElem?_eq_none (by omega)])
        go_wp2_with fail
        go_ret2
        exact ⟨by rw [Hr.out]; rfl, hx⟩
set_option maxRecDepth 100000 in
set_option maxHeartbeats 1000000 in
theorem findBind_any (w : World) (a : Option Addr) (c : Nat) (l : List BindR) (fn : Nat) (pb po : Nat) (cmp : BindR → Int) (hr : Rd w a (rows BindR.cells l)) (hl : l.length ≤ 1099511627776)
    (he : ∀ (args : Array Value) (w : World), (callFunc fn args).run Tryz.prog w = .ok (.enter fn args) w)
    (hf : ∀ (w' : World) (x : BindR), x ∈ l → Ext no w w' → Calls Tryz.prog fn #[.agg #[.int .i64 x.id, .string (str x.text), .int .i64 x.ver, .int .i64 x.dot.dev, .int .i64 x.dot.ep, .int .i64 x.dot.seq], .pointer (some ⟨pb, po, none⟩)] w' fun e w'' => e = .returned (.int .i64 (cmp x)) ∧ Ext no w' w'')
    (n : Nat) (hn : n ≤ l.length) (hless : ∀ j x, l[j]? = some x → (cmp x < 0 ↔ j < n)) :
    Calls Tryz.prog 90 #[.slice a l.length c, .func (.func fn) #[] #[.pointer (some ⟨pb, po, none⟩)]] w fun e w' => e = .returned (.tuple #[.int .i64 n, .bool (atCmp cmp l n)]) ∧ Ext no w w' := by
  have hk : ∀ x, (BindR.cells x).length = 6 := fun _ => rfl
  go_enter Tryz.func90, Tryz.ntmps90
  go_wp2_with fail
  go_loopw [6, 7] (fun s6 s7 wr => ∃ i j : Nat, i ≤ n ∧ n ≤ j ∧ j ≤ l.length ∧ s6 = .int .i64 i ∧ s7 = .int .i64 j ∧ Ext no w wr) (fun s6 s7 _ => (intOf s7).toNat - (intOf s6).toNat)
  case atStart => exact ⟨0, l.length, by omega, by omega, by omega, rfl, rfl, Ext.refl _ _⟩
  case round =>
    obtain ⟨i, j, hi, hj, hjl, rfl, rfl, hx⟩ := hrel
    by_cases hij : i < j
    · have d1 : decide (i < j) = true := decT hij
      obtain ⟨m, hm⟩ : ∃ m : Nat, m = (i + j) / 2 := ⟨_, rfl⟩
      have hm1 : i ≤ m := by omega
      have hm2 : m < j := by omega
      have Hm := Lib.hid hm
      have hmi : ((i : Int) + (j : Int)) / 2 = (m : Int) := by omega
      obtain ⟨x, hxm⟩ : ∃ x, l[m]? = some x := ⟨_, List.getElem?_eq_getElem (by omega)⟩
      obtain ⟨b, off, rfl, hlt⟩ := rows_shape hk (by omega) hr (by omega)
      have q := rows_cell hk (hr.ext hx (fun _ _ h => h)) hxm
      have q0 : wr.cell? ⟨b, off + m * 6, none⟩ = some (.int .i64 x.id) := q 0 _ rfl
      have q1 : wr.cell? ⟨b, off + m * 6 + 1, none⟩ = some (.string (str x.text)) := q 1 _ rfl
      have q2 : wr.cell? ⟨b, off + m * 6 + 2, none⟩ = some (.int .i64 x.ver) := q 2 _ rfl
      have q3 : wr.cell? ⟨b, off + m * 6 + 3, none⟩ = some (.int .i64 x.dot.dev) := q 3 _ rfl
      have q4 : wr.cell? ⟨b, off + m * 6 + 4, none⟩ = some (.int .i64 x.dot.ep) := q 4 _ rfl
      have q5 : wr.cell? ⟨b, off + m * 6 + 5, none⟩ = some (.int .i64 x.dot.seq) := q 5 _ rfl
      clear q hm
      have hle := hless m x hxm
      go_wp2_with fail
      refine (hf wr x (List.mem_of_getElem? hxm) hx).mono ?_
      rintro e w1 ⟨rfl, hx1⟩
      by_cases hc : cmp x < 0
      · have d2 : decide (cmp x < 0) = true := decT hc
        go_wp2_with fail
        go_roundw
        case rel => exact ⟨m + 1, j, by have := hle.1 hc; omega, hj, hjl, by go_num, rfl, hx.comp hx1⟩
        case measure => simp [intOf]; omega
      · have d2 : decide (cmp x < 0) = false := decF hc
        have hnm : n ≤ m := by
          by_cases h : m < n
          · exact absurd (hle.2 h) hc
          · omega
        go_wp2_with fail
        go_roundw
        case rel => exact ⟨i, m, hi, hnm, by omega, rfl, rfl, hx.comp hx1⟩
        case measure => simp [intOf]; omega
    · have d1 : decide (i < j) = false := decF hij
      obtain rfl : n = i := by omega
      obtain rfl : n = j := by omega
      by_cases hnl : n < l.length
      · have d2 : decide (n < l.length) = true := decT hnl
        obtain ⟨x, hxm⟩ : ∃ x, l[n]? = some x := ⟨_, List.getElem?_eq_getElem (by omega)⟩
        obtain ⟨b, off, rfl, hlt⟩ := rows_shape hk (by omega) hr (by omega)
        have q := rows_cell hk (hr.ext hx (fun _ _ h => h)) hxm
        have q0 : wr.cell? ⟨b, off + n * 6, none⟩ = some (.int .i64 x.id) := q 0 _ rfl
        have q1 : wr.cell? ⟨b, off + n * 6 + 1, none⟩ = some (.string (str x.text)) := q 1 _ rfl
        have q2 : wr.cell? ⟨b, off + n * 6 + 2, none⟩ = some (.int .i64 x.ver) := q 2 _ rfl
        have q3 : wr.cell? ⟨b, off + n * 6 + 3, none⟩ = some (.int .i64 x.dot.dev) := q 3 _ rfl
        have q4 : wr.cell? ⟨b, off + n * 6 + 4, none⟩ = some (.int .i64 x.dot.ep) := q 4 _ rfl
        have q5 : wr.cell? ⟨b, off + n * 6 + 5, none⟩ = some (.int .i64 x.dot.seq) := q 5 _ rfl
        have Hr := Lib.hid (show atCmp cmp l n = decide (cmp x = 0) by unfold atCmp; rw [hxm])
        clear q
        go_wp2_with fail
        refine (hf wr x (List.mem_of_getElem? hxm) hx).mono ?_
        rintro e w1 ⟨rfl, hx1⟩
        go_wp2_with fail
        go_ret2
        exact ⟨by rw [Hr.out]; rfl, hx.comp hx1⟩
      · have d2 : decide (n < l.length) = false := decF hnl
        have Hr := Lib.hid (show atCmp cmp l n = false by unfold atCmp; rw [List.getElem?_eq_none (by omega)])
        go_wp2_with fail
        go_ret2
        exact ⟨by rw [Hr.out]; rfl, hx⟩
set_option maxRecDepth 100000 in
set_option maxHeartbeats 1000000 in
theorem findDot_any (w : World) (a : Option Addr) (c : Nat) (l : List DotR) (fn : Nat) (pb po qb qo : Nat) (cmp : DotR → Int) (hr : Rd w a (rows DotR.cells l)) (hl : l.length ≤ 1099511627776)
    (he : ∀ (args : Array Value) (w : World), (callFunc fn args).run Tryz.prog w = .ok (.enter fn args) w)
    (hf : ∀ (w' : World) (x : DotR), x ∈ l → Ext no w w' → Calls Tryz.prog fn #[.agg #[.int .i64 x.dev, .int .i64 x.ep, .int .i64 x.seq], .pointer (some ⟨pb, po, none⟩), .pointer (some ⟨qb, qo, none⟩)] w' fun e w'' => e = .returned (.int .i64 (cmp x)) ∧ Ext no w' w'')
    (n : Nat) (hn : n ≤ l.length) (hless : ∀ j x, l[j]? = some x → (cmp x < 0 ↔ j < n)) :
    Calls Tryz.prog 78 #[.slice a l.length c, .func (.func fn) #[] #[.pointer (some ⟨pb, po, none⟩), .pointer (some ⟨qb, qo, none⟩)]] w fun e w' => e = .returned (.tuple #[.int .i64 n, .bool (atCmp cmp l n)]) ∧ Ext no w w' := by
  have hk : ∀ x, (DotR.cells x).length = 3 := fun _ => rfl
  go_enter Tryz.func78, Tryz.ntmps78
  go_wp2_with fail
  go_loopw [6, 7] (fun s6 s7 wr => ∃ i j : Nat, i ≤ n ∧ n ≤ j ∧ j ≤ l.length ∧ s6 = .int .i64 i ∧ s7 = .int .i64 j ∧ Ext no w wr) (fun s6 s7 _ => (intOf s7).toNat - (intOf s6).toNat)
  case atStart => exact ⟨0, l.length, by omega, by omega, by omega, rfl, rfl, Ext.refl _ _⟩
  case round =>
    obtain ⟨i, j, hi, hj, hjl, rfl, rfl, hx⟩ := hrel
    by_cases hij : i < j
    · have d1 : decide (i < j) = true := decT hij
      obtain ⟨m, hm⟩ : ∃ m : Nat, m = (i + j) / 2 := ⟨_, rfl⟩
      have hm1 : i ≤ m := by omega
      have hm2 : m < j := by omega
      have Hm := Lib.hid hm
      have hmi : ((i : Int) + (j : Int)) / 2 = (m : Int) := by omega
      obtain ⟨x, hxm⟩ : ∃ x, l[m]? = some x := ⟨_, List.getElem?_eq_getElem (by omega)⟩
      obtain ⟨b, off, rfl, hlt⟩ := rows_shape hk (by omega) hr (by omega)
      have q := rows_cell hk (hr.ext hx (fun _ _ h => h)) hxm
      have q0 : wr.cell? ⟨b, off + m * 3, none⟩ = some (.int .i64 x.dev) := q 0 _ rfl
      have q1 : wr.cell? ⟨b, off + m * 3 + 1, none⟩ = some (.int .i64 x.ep) := q 1 _ rfl
      have q2 : wr.cell? ⟨b, off + m * 3 + 2, none⟩ = some (.int .i64 x.seq) := q 2 _ rfl
      clear q hm
      have hle := hless m x hxm
      go_wp2_with fail
      refine (hf wr x (List.mem_of_getElem? hxm) hx).mono ?_
      rintro e w1 ⟨rfl, hx1⟩
      by_cases hc : cmp x < 0
      · have d2 : decide (cmp x < 0) = true := decT hc
        go_wp2_with fail
        go_roundw
        case rel => exact ⟨m + 1, j, by have := hle.1 hc; omega, hj, hjl, by go_num, rfl, hx.comp hx1⟩
        case measure => simp [intOf]; omega
      · have d2 : decide (cmp x < 0) = false := decF hc
        have hnm : n ≤ m := by
          by_cases h : m < n
          · exact absurd (hle.2 h) hc
          · omega
        go_wp2_with fail
        go_roundw
        case rel => exact ⟨i, m, hi, hnm, by omega, rfl, rfl, hx.comp hx1⟩
        case measure => simp [intOf]; omega
    · have d1 : decide (i < j) = false := decF hij
      obtain rfl : n = i := by omega
      obtain rfl : n = j := by omega
      by_cases hnl : n < l.length
      · have d2 : decide (n < l.length) = true := decT hnl
        obtain ⟨x, hxm⟩ : ∃ x, l[n]? = some x := ⟨_, List.getElem?_eq_getElem (by omega)⟩
        obtain ⟨b, off, rfl, hlt⟩ := rows_shape hk (by omega) hr (by omega)
        have q := rows_cell hk (hr.ext hx (fun _ _ h => h)) hxm
        have q0 : wr.cell? ⟨b, off + n * 3, none⟩ = some (.int .i64 x.dev) := q 0 _ rfl
        have q1 : wr.cell? ⟨b, off + n * 3 + 1, none⟩ = some (.int .i64 x.ep) := q 1 _ rfl
        have q2 : wr.cell? ⟨b, off + n * 3 + 2, none⟩ = some (.int .i64 x.seq) := q 2 _ rfl
        have Hr := Lib.hid (show atCmp cmp l n = decide (cmp x = 0) by unfold atCmp; rw [hxm])
        clear q
        go_wp2_with fail
        refine (hf wr x (List.mem_of_getElem? hxm) hx).mono ?_
        rintro e w1 ⟨rfl, hx1⟩
        go_wp2_with fail
        go_ret2
        exact ⟨by rw [Hr.out]; rfl, hx.comp hx1⟩
      · have d2 : decide (n < l.length) = false := decF hnl
        have Hr := Lib.hid (show atCmp cmp l n = false by unfold atCmp; rw [List.getElem?_eq_none (by omega)])
        go_wp2_with fail
        go_ret2
        exact ⟨by rw [Hr.out]; rfl, hx⟩
set_option maxRecDepth 100000 in
set_option maxHeartbeats 1000000 in
theorem findElem_any (w : World) (a : Option Addr) (c : Nat) (l : List ElemR) (fn : Nat) (pb po : Nat) (cmp : ElemR → Int) (hr : Rd w a (rows ElemR.cells l)) (hl : l.length ≤ 1099511627776)
    (he : ∀ (args : Array Value) (w : World), (callFunc fn args).run Tryz.prog w = .ok (.enter fn args) w)
    (hf : ∀ (w' : World) (x : ElemR), x ∈ l → Ext no w w' → Calls Tryz.prog fn #[.agg #[.string (str x.key), .string (str x.text), .int .i64 x.ver, .int .i64 x.dot.dev, .int .i64 x.dot.ep, .int .i64 x.dot.seq], .pointer (some ⟨pb, po, none⟩)] w' fun e w'' => e = .returned (.int .i64 (cmp x)) ∧ Ext no w' w'')
    (n : Nat) (hn : n ≤ l.length) (hless : ∀ j x, l[j]? = some x → (cmp x < 0 ↔ j < n)) :
    Calls Tryz.prog 53 #[.slice a l.length c, .func (.func fn) #[] #[.pointer (some ⟨pb, po, none⟩)]] w fun e w' => e = .returned (.tuple #[.int .i64 n, .bool (atCmp cmp l n)]) ∧ Ext no w w' := by
  have hk : ∀ x, (ElemR.cells x).length = 6 := fun _ => rfl
  go_enter Tryz.func53, Tryz.ntmps53
  go_wp2_with fail
  go_loopw [6, 7] (fun s6 s7 wr => ∃ i j : Nat, i ≤ n ∧ n ≤ j ∧ j ≤ l.length ∧ s6 = .int .i64 i ∧ s7 = .int .i64 j ∧ Ext no w wr) (fun s6 s7 _ => (intOf s7).toNat - (intOf s6).toNat)
  case atStart => exact ⟨0, l.length, by omega, by omega, by omega, rfl, rfl, Ext.refl _ _⟩
  case round =>
    obtain ⟨i, j, hi, hj, hjl, rfl, rfl, hx⟩ := hrel
    by_cases hij : i < j
    · have d1 : decide (i < j) = true := decT hij
      obtain ⟨m, hm⟩ : ∃ m : Nat, m = (i + j) / 2 := ⟨_, rfl⟩
      have hm1 : i ≤ m := by omega
      have hm2 : m < j := by omega
      have Hm := Lib.hid hm
      have hmi : ((i : Int) + (j : Int)) / 2 = (m : Int) := by omega
      obtain ⟨x, hxm⟩ : ∃ x, l[m]? = some x := ⟨_, List.getElem?_eq_getElem (by omega)⟩
      obtain ⟨b, off, rfl, hlt⟩ := rows_shape hk (by omega) hr (by omega)
      have q := rows_cell hk (hr.ext hx (fun _ _ h => h)) hxm
      have q0 : wr.cell? ⟨b, off + m * 6, none⟩ = some (.string (str x.key)) := q 0 _ rfl
      have q1 : wr.cell? ⟨b, off + m * 6 + 1, none⟩ = some (.string (str x.text)) := q 1 _ rfl
      have q2 : wr.cell? ⟨b, off + m * 6 + 2, none⟩ = some (.int .i64 x.ver) := q 2 _ rfl
      have q3 : wr.cell? ⟨b, off + m * 6 + 3, none⟩ = some (.int .i64 x.dot.dev) := q 3 _ rfl
      have q4 : wr.cell? ⟨b, off + m * 6 + 4, none⟩ = some (.int .i64 x.dot.ep) := q 4 _ rfl
      have q5 : wr.cell? ⟨b, off + m * 6 + 5, none⟩ = some (.int .i64 x.dot.seq) := q 5 _ rfl
      clear q hm
      have hle := hless m x hxm
      go_wp2_with fail
      refine (hf wr x (List.mem_of_getElem? hxm) hx).mono ?_
      rintro e w1 ⟨rfl, hx1⟩
      by_cases hc : cmp x < 0
      · have d2 : decide (cmp x < 0) = true := decT hc
        go_wp2_with fail
        go_roundw
        case rel => exact ⟨m + 1, j, by have := hle.1 hc; omega, hj, hjl, by go_num, rfl, hx.comp hx1⟩
        case measure => simp [intOf]; omega
      · have d2 : decide (cmp x < 0) = false := decF hc
        have hnm : n ≤ m := by
          by_cases h : m < n
          · exact absurd (hle.2 h) hc
          · omega
        go_wp2_with fail
        go_roundw
        case rel => exact ⟨i, m, hi, hnm, by omega, rfl, rfl, hx.comp hx1⟩
        case measure => simp [intOf]; omega
    · have d1 : decide (i < j) = false := decF hij
      obtain rfl : n = i := by omega
      obtain rfl : n = j := by omega
      by_cases hnl : n < l.length
      · have d2 : decide (n < l.length) = true := decT hnl
        obtain ⟨x, hxm⟩ : ∃ x, l[n]? = some x := ⟨_, List.getElem?_eq_getElem (by omega)⟩
        obtain ⟨b, off, rfl, hlt⟩ := rows_shape hk (by omega) hr (by omega)
        have q := rows_cell hk (hr.ext hx (fun _ _ h => h)) hxm
        have q0 : wr.cell? ⟨b, off + n * 6, none⟩ = some (.string (str x.key)) := q 0 _ rfl
        have q1 : wr.cell? ⟨b, off + n * 6 + 1, none⟩ = some (.string (str x.text)) := q 1 _ rfl
        have q2 : wr.cell? ⟨b, off + n * 6 + 2, none⟩ = some (.int .i64 x.ver) := q 2 _ rfl
        have q3 : wr.cell? ⟨b, off + n * 6 + 3, none⟩ = some (.int .i64 x.dot.dev) := q 3 _ rfl
        have q4 : wr.cell? ⟨b, off + n * 6 + 4, none⟩ = some (.int .i64 x.dot.ep) := q 4 _ rfl
        have q5 : wr.cell? ⟨b, off + n * 6 + 5, none⟩ = some (.int .i64 x.dot.seq) := q 5 _ rfl
        have Hr := Lib.hid (show atCmp cmp l n = decide (cmp x = 0) by unfold atCmp; rw [hxm])
        clear q
        go_wp2_with fail
        refine (hf wr x (List.mem_of_getElem? hxm) hx).mono ?_
        rintro e w1 ⟨rfl, hx1⟩
        go_wp2_with fail
        go_ret2
        exact ⟨by rw [Hr.out]; rfl, hx.comp hx1⟩
      · have d2 : decide (n < l.length) = false := decF hnl
        have Hr := Lib.hid (show atCmp cmp l n = false by unfold atCmp; rw [List.getElem?_eq_none (by omega)])
        go_wp2_with fail
        go_ret2
        exact ⟨by rw [Hr.out]; rfl, hx⟩
set_option maxRecDepth 100000 in
set_option maxHeartbeats 1000000 in
theorem findV_any (w : World) (a : Option Addr) (c : Nat) (l : List DotR) (fn : Nat) (pb po : Nat) (cmp : DotR → Int) (hr : Rd w a (rows DotR.cells l)) (hl : l.length ≤ 1099511627776)
    (he : ∀ (args : Array Value) (w : World), (callFunc fn args).run Tryz.prog w = .ok (.enter fn args) w)
    (hf : ∀ (w' : World) (x : DotR), x ∈ l → Ext no w w' → Calls Tryz.prog fn #[.agg #[.int .i64 x.dev, .int .i64 x.ep, .int .i64 x.seq], .pointer (some ⟨pb, po, none⟩)] w' fun e w'' => e = .returned (.int .i64 (cmp x)) ∧ Ext no w' w'')
    (n : Nat) (hn : n ≤ l.length) (hless : ∀ j x, l[j]? = some x → j < n → cmp x < 0) (hstop : ∀ x, l[n]? = some x → ¬ cmp x < 0) :
    Calls Tryz.prog 97 #[.slice a l.length c, .func (.func fn) #[] #[.pointer (some ⟨pb, po, none⟩)]] w fun e w' => e = .returned (.tuple #[.int .i64 n, .bool (atCmp cmp l n)]) ∧ Ext no w w' := by
  have hk : ∀ x, (DotR.cells x).length = 3 := fun _ => rfl
  go_enter Tryz.func97, Tryz.ntmps97
  go_wp2_with fail
  go_loopw [6] (fun s6 wr => ∃ i : Nat, i ≤ n ∧ s6 = .int .i64 i ∧ Ext no w wr) (fun s6 _ => n - (intOf s6).toNat)
  case atStart => exact ⟨0, by omega, rfl, Ext.refl _ _⟩
  case round =>
    obtain ⟨i, hi, rfl, hx⟩ := hrel
    by_cases hil : i < l.length
    · have d1 : decide (i < l.length) = true := decT hil
      obtain ⟨x, hxm⟩ : ∃ x, l[i]? = some x := ⟨_, List.getElem?_eq_getElem (by omega)⟩
      obtain ⟨b, off, rfl, hlt⟩ := rows_shape hk (by omega) hr (by omega)
      have q := rows_cell hk (hr.ext hx (fun _ _ h => h)) hxm
      have q0 : wr.cell? ⟨b, off + i * 3, none⟩ = some (.int .i64 x.dev) := q 0 _ rfl
      have q1 : wr.cell? ⟨b, off + i * 3 + 1, none⟩ = some (.int .i64 x.ep) := q 1 _ rfl
      have q2 : wr.cell? ⟨b, off + i * 3 + 2, none⟩ = some (.int .i64 x.seq) := q 2 _ rfl
      clear q
      have hle := hless i x hxm
      have hst := hstop x
      by_cases hin : i < n
      · have d2 : decide (cmp x < 0) = true := decT (hle hin)
        clear hle hst
        go_wp2_with fail
        refine (hf wr x (List.mem_of_getElem? hxm) hx).mono ?_
        rintro e w1 ⟨rfl, hx1⟩
        go_wp2_with fail
        go_roundw
        case rel => exact ⟨i + 1, by omega, by go_num, hx.comp hx1⟩
        case measure => simp [intOf]; omega
      · obtain rfl : n = i := by omega
        have d2 : decide (cmp x < 0) = false := decF (by have := hst hxm; omega)
        have Hr := Lib.hid (show atCmp cmp l n = decide (cmp x = 0) by unfold atCmp; rw [hxm])
        clear hle hst
        go_wp2_with fail
        refine (hf wr x (List.mem_of_getElem? hxm) hx).mono ?_
        rintro e w1 ⟨rfl, hx1⟩
        have Q := rows_cell hk (hr.ext (hx.comp hx1) (fun _ _ h => h)) hxm
        have r0 : w1.cell? ⟨b, off + n * 3, none⟩ = some (.int .i64 x.dev) := Q 0 _ rfl
        have r1 : w1.cell? ⟨b, off + n * 3 + 1, none⟩ = some (.int .i64 x.ep) := Q 1 _ rfl
        have r2 : w1.cell? ⟨b, off + n * 3 + 2, none⟩ = some (.int .i64 x.seq) := Q 2 _ rfl
        clear Q
        go_wp2_with fail
        refine (hf w1 x (List.mem_of_getElem? hxm) (hx.comp hx1)).mono ?_
        rintro e w2 ⟨rfl, hx2⟩
        go_wp2_with fail
        go_ret2
        exact ⟨by rw [Hr.out]; rfl, (hx.comp hx1).comp hx2⟩
    · obtain rfl : n = i := by omega
      have d1 : decide (n < l.length) = false := decF hil
      have Hr := Lib.hid (show atCmp cmp l n = false by unfold atCmp; rw [List.getElem?_eq_none (by omega)])
      go_wp2_with fail
      go_ret2
      exact ⟨by rw [Hr.out]; rfl, hx⟩
end Go.Proofs.YtejmmkjpncpedaaGreat
