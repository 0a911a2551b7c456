import Derived.Test.YtddobhihjljcgaaWiM
import Derived.Test.YtddobhihjljcgaaWiL
import Derived.Test.YtddobhihjljcgaaOpT
import Derived.BigQuiet
import Derived.Deep.QuietTactic
import Derived.Test.YtddobhihjljcgaaWiP
import Derived.Test.YtddobhihjljcgaaWiI
/- Rows held against one another. -/
namespace Go.Proofs.Ytddobhihjljcgaa
open Go.RowKit Go.Esc
set_option linter.unusedVariables false
set_option linter.unusedSimpArgs false
theorem row_shape {w : World} {a : Option Addr} {cs : List Value} (h : Rd w a cs) (hl : 0 < cs.length) : ∃ b o, a = some ⟨b, o, none⟩ := by
  obtain ⟨b, o, e, _⟩ := h.shape hl
  exact ⟨b, o, e⟩
theorem int_at {w : World} {b o : Nat} {l : List Int} (h : Rd w (some ⟨b, o, none⟩) (is l)) {i : Nat} {x : Int} (hx : l[i]? = some x) : w.cell? ⟨b, o + i, none⟩ = some (.int .i64 x) := by
  obtain ⟨p, hp, hc⟩ := h i (.int .i64 x) (by unfold is; rw [List.getElem?_map, hx]; rfl)
  cases hp; rwa [Addr.add_lit] at hc
theorem bool_at {w : World} {b o : Nat} {l : List Bool} (h : Rd w (some ⟨b, o, none⟩) (bls l)) {i : Nat} {x : Bool} (hx : l[i]? = some x) : w.cell? ⟨b, o + i, none⟩ = some (.bool x) := by
  obtain ⟨p, hp, hc⟩ := h i (.bool x) (by unfold bls; rw [List.getElem?_map, hx]; rfl)
  cases hp; rwa [Addr.add_lit] at hc
set_option maxRecDepth 100000 in
set_option maxHeartbeats 4000000 in
theorem eqbools_any (w : World) (a b : Option Addr) (c d : Nat) (l m : List Bool) (hl : Rd w a (bls l)) (hm : Rd w b (bls m)) (hlm : l.length = m.length) (hll : l.length ≤ 1099511627776) :
    Calls Try.prog 45 #[.slice a l.length c, .slice b m.length d] w fun e w' => ∃ r, e = .returned (.bool r) ∧ (r = true ↔ l = m) ∧ Ext no w w' := by
  have Hlm := Lib.hid hlm
  rw [← hlm]
  clear hlm
  have d0 : (((l.length : Nat) : Int) != ((l.length : Nat) : Int)) = false := by simp
  go_enter Try.func45, Try.ntmps45
  go_wp2_with fail
  go_loopw [13] (fun s wr => ∃ i : Nat, i ≤ l.length ∧ s = .int .i64 i ∧ l.take i = m.take i ∧ Ext no w wr) (fun s _ => l.length - (intOf s).toNat)
  case atStart => exact ⟨0, by omega, rfl, rfl, Ext.refl _ _⟩
  case round =>
    obtain ⟨i, hi, rfl, htk, hx⟩ := hrel
    have Htk := Lib.hid htk
    clear htk
    by_cases hil : i < l.length
    · have d1 : decide (i < l.length) = true := decT hil
      have him : i < m.length := by have := Hlm.out; omega
      have hl2 := hl.ext hx (fun _ _ h => h)
      have hm2 := hm.ext hx (fun _ _ h => h)
      obtain ⟨ab, ao, rfl⟩ := row_shape hl2 (by simp; omega)
      obtain ⟨bb, bo, rfl⟩ := row_shape hm2 (by simp; omega)
      obtain ⟨x, hx1⟩ : ∃ x, l[i]? = some x := ⟨_, List.getElem?_eq_getElem hil⟩
      obtain ⟨y, hy1⟩ : ∃ y, m[i]? = some y := ⟨_, List.getElem?_eq_getElem him⟩
      have x0 := bool_at hl2 hx1
      have y0 := bool_at hm2 hy1
      clear hl2 hm2
      by_cases hxy : x = y
      · have HE := Lib.hid (show l.take (i + 1) = m.take (i + 1) by
          obtain ⟨h1, h2⟩ := List.getElem?_eq_some_iff.1 hx1
          obtain ⟨h3, h4⟩ := List.getElem?_eq_some_iff.1 hy1
          rw [List.take_succ_eq_append_getElem h1, List.take_succ_eq_append_getElem h3, Htk.out, h2, h4, hxy])
        subst hxy
        clear hy1
        have e0 : (x != x) = false := by simp
        go_upto_region 6 with fail
        go_quiet (fail)
        go_wp2_with fail
        go_roundw
        case rel => exact ⟨i + 1, by omega, by go_num, HE.out, hx.comp (Ext.drewN no _ _)⟩
        case measure => simp [intOf]; omega
      · have HE := Lib.hid (show ¬ l = m from fun h => by rw [h] at hx1; rw [hx1] at hy1; cases hy1; exact hxy rfl)
        have e0 : (x != y) = true := by rw [bne_iff_ne]; exact hxy
        have e1 : (x == y) = false := by rw [beq_eq_false_iff_ne]; exact hxy
        clear hxy hy1
        go_upto_region 6 with fail
        go_quiet (fail)
        go_wp2_with fail
        go_ret
        exact ⟨false, rfl, by simp [HE.out], hx.comp (Ext.drewN no _ _)⟩
    · have d1 : decide (i < l.length) = false := decF hil
      have HE := Lib.hid (show l = m by
        have := Htk.out
        have := Hlm.out
        rwa [List.take_of_length_le (by omega), List.take_of_length_le (by omega)] at *)
      go_wp2_with fail
      go_ret
      exact ⟨true, rfl, by simp [HE.out], hx⟩

set_option maxRecDepth 100000 in
set_option maxHeartbeats 4000000 in
theorem eqints_any (w : World) (a b : Option Addr) (c d : Nat) (l : List Int) (hl : Rd w a (is l)) (hm : Rd w b (is l)) (hll : l.length ≤ 1099511627776) :
    Calls Try.prog 79 #[.slice a l.length c, .slice b l.length d] w fun e w' => e = .returned (.bool true) ∧ Ext no w w' := by
  have d0 : (((l.length : Nat) : Int) != ((l.length : Nat) : Int)) = false := by simp
  go_enter Try.func79, Try.ntmps79
  go_wp2_with fail
  go_loopw [13] (fun s wr => ∃ i : Nat, i ≤ l.length ∧ s = .int .i64 i ∧ Ext no w wr) (fun s _ => l.length - (intOf s).toNat)
  case atStart => exact ⟨0, by omega, rfl, Ext.refl _ _⟩
  case round =>
    obtain ⟨i, hi, rfl, hx⟩ := hrel
    by_cases hil : i < l.length
    · have d1 : decide (i < l.length) = true := decT hil
      have hl2 := hl.ext hx (fun _ _ h => h)
      have hm2 := hm.ext hx (fun _ _ h => h)
      obtain ⟨ab, ao, rfl⟩ := row_shape hl2 (by simp; omega)
      obtain ⟨bb, bo, rfl⟩ := row_shape hm2 (by simp; omega)
      obtain ⟨x, hx1⟩ : ∃ x, l[i]? = some x := ⟨_, List.getElem?_eq_getElem hil⟩
      have x0 := int_at hl2 hx1
      have y0 := int_at hm2 hx1
      clear hl2 hm2
      go_upto_region 6 with fail
      go_quiet (fail)
      go_wp2_with fail
      go_roundw
      case rel => exact ⟨i + 1, by omega, by go_num, hx.comp (Ext.drewN no _ _)⟩
      case measure => simp [intOf]; omega
    · have d1 : decide (i < l.length) = false := decF hil
      go_wp2_with fail
      go_ret
      exact ⟨rfl, hx⟩

set_option maxRecDepth 100000 in
set_option maxHeartbeats 4000000 in
theorem eqwants_any (w : World) (a b : Option Addr) (c d : Nat) (l : List WantR) (hl : Rd w a (rows WantR.cells l)) (hm : Rd w b (rows WantR.cells l)) (hll : l.length ≤ 1099511627776) :
    Calls Try.prog 76 #[.slice a l.length c, .slice b l.length d] w fun e w' => e = .returned (.bool true) ∧ Ext no w w' := by
  have d0 : (((l.length : Nat) : Int) != ((l.length : Nat) : Int)) = false := by simp
  go_enter Try.func76, Try.ntmps76
  go_wp2_with fail
  go_loopw [13] (fun s wr => ∃ i : Nat, i ≤ l.length ∧ s = .int .i64 i ∧ Ext no w wr) (fun s _ => l.length - (intOf s).toNat)
  case atStart => exact ⟨0, by omega, rfl, Ext.refl _ _⟩
  case round =>
    obtain ⟨i, hi, rfl, hx⟩ := hrel
    by_cases hil : i < l.length
    · have d1 : decide (i < l.length) = true := decT hil
      have hl2 := hl.ext hx (fun _ _ h => h)
      have hm2 := hm.ext hx (fun _ _ h => h)
      obtain ⟨ab, ao, rfl⟩ := row_shape hl2 (by rw [rows_length (f := WantR.cells) (k := 4) (fun _ => rfl)]; omega)
      obtain ⟨bb, bo, rfl⟩ := row_shape hm2 (by rw [rows_length (f := WantR.cells) (k := 4) (fun _ => rfl)]; omega)
      obtain ⟨x, hx1⟩ : ∃ x, l[i]? = some x := ⟨_, List.getElem?_eq_getElem hil⟩
      have x0 : wr.cell? ⟨ab, ao + i * 4, none⟩ = some (.string (str x.key)) := rows_cell kWant hl2 hx1 0 _ rfl
      have x1 : wr.cell? ⟨ab, ao + i * 4 + 1, none⟩ = some (.int .i64 x.up) := rows_cell kWant hl2 hx1 1 _ rfl
      have x2 : wr.cell? ⟨ab, ao + i * 4 + 2, none⟩ = some (.int .i64 x.down) := rows_cell kWant hl2 hx1 2 _ rfl
      have x3 : wr.cell? ⟨ab, ao + i * 4 + 3, none⟩ = some (.int .i64 x.ids) := rows_cell kWant hl2 hx1 3 _ rfl
      have y0 : wr.cell? ⟨bb, bo + i * 4, none⟩ = some (.string (str x.key)) := rows_cell kWant hm2 hx1 0 _ rfl
      have y1 : wr.cell? ⟨bb, bo + i * 4 + 1, none⟩ = some (.int .i64 x.up) := rows_cell kWant hm2 hx1 1 _ rfl
      have y2 : wr.cell? ⟨bb, bo + i * 4 + 2, none⟩ = some (.int .i64 x.down) := rows_cell kWant hm2 hx1 2 _ rfl
      have y3 : wr.cell? ⟨bb, bo + i * 4 + 3, none⟩ = some (.int .i64 x.ids) := rows_cell kWant hm2 hx1 3 _ rfl
      clear hl2 hm2
      go_upto_region 6 with fail
      go_quiet (fail)
      go_wp2_with fail
      go_roundw
      case rel => exact ⟨i + 1, by omega, by go_num, hx.comp (Ext.drewN no _ _)⟩
      case measure => simp [intOf]; omega
    · have d1 : decide (i < l.length) = false := decF hil
      go_wp2_with fail
      go_ret
      exact ⟨rfl, hx⟩

set_option maxRecDepth 100000 in
set_option maxHeartbeats 4000000 in
theorem eqslices_any (w : World) (a b : Option Addr) (c d : Nat) (l : List SliceR) (hl : Rd w a (rows SliceR.cells l)) (hm : Rd w b (rows SliceR.cells l)) (hll : l.length ≤ 1099511627776) :
    Calls Try.prog 77 #[.slice a l.length c, .slice b l.length d] w fun e w' => e = .returned (.bool true) ∧ Ext no w w' := by
  have d0 : (((l.length : Nat) : Int) != ((l.length : Nat) : Int)) = false := by simp
  go_enter Try.func77, Try.ntmps77
  go_wp2_with fail
  go_loopw [13] (fun s wr => ∃ i : Nat, i ≤ l.length ∧ s = .int .i64 i ∧ Ext no w wr) (fun s _ => l.length - (intOf s).toNat)
  case atStart => exact ⟨0, by omega, rfl, Ext.refl _ _⟩
  case round =>
    obtain ⟨i, hi, rfl, hx⟩ := hrel
    by_cases hil : i < l.length
    · have d1 : decide (i < l.length) = true := decT hil
      have hl2 := hl.ext hx (fun _ _ h => h)
      have hm2 := hm.ext hx (fun _ _ h => h)
      obtain ⟨ab, ao, rfl⟩ := row_shape hl2 (by rw [rows_length (f := SliceR.cells) (k := 5) (fun _ => rfl)]; omega)
      obtain ⟨bb, bo, rfl⟩ := row_shape hm2 (by rw [rows_length (f := SliceR.cells) (k := 5) (fun _ => rfl)]; omega)
      obtain ⟨x, hx1⟩ : ∃ x, l[i]? = some x := ⟨_, List.getElem?_eq_getElem hil⟩
      have x0 : wr.cell? ⟨ab, ao + i * 5, none⟩ = some (.string (str x.key)) := rows_cell kSlice hl2 hx1 0 _ rfl
      have x1 : wr.cell? ⟨ab, ao + i * 5 + 1, none⟩ = some (.int .i64 x.up) := rows_cell kSlice hl2 hx1 1 _ rfl
      have x2 : wr.cell? ⟨ab, ao + i * 5 + 2, none⟩ = some (.int .i64 x.down) := rows_cell kSlice hl2 hx1 2 _ rfl
      have x3 : wr.cell? ⟨ab, ao + i * 5 + 3, none⟩ = some (.int .i64 x.uu) := rows_cell kSlice hl2 hx1 3 _ rfl
      have x4 : wr.cell? ⟨ab, ao + i * 5 + 4, none⟩ = some (.int .i64 x.ud) := rows_cell kSlice hl2 hx1 4 _ rfl
      have y0 : wr.cell? ⟨bb, bo + i * 5, none⟩ = some (.string (str x.key)) := rows_cell kSlice hm2 hx1 0 _ rfl
      have y1 : wr.cell? ⟨bb, bo + i * 5 + 1, none⟩ = some (.int .i64 x.up) := rows_cell kSlice hm2 hx1 1 _ rfl
      have y2 : wr.cell? ⟨bb, bo + i * 5 + 2, none⟩ = some (.int .i64 x.down) := rows_cell kSlice hm2 hx1 2 _ rfl
      have y3 : wr.cell? ⟨bb, bo + i * 5 + 3, none⟩ = some (.int .i64 x.uu) := rows_cell kSlice hm2 hx1 3 _ rfl
      have y4 : wr.cell? ⟨bb, bo + i * 5 + 4, none⟩ = some (.int .i64 x.ud) := rows_cell kSlice hm2 hx1 4 _ rfl
      clear hl2 hm2
      go_upto_region 6 with fail
      go_quiet (fail)
      go_wp2_with fail
      go_roundw
      case rel => exact ⟨i + 1, by omega, by go_num, hx.comp (Ext.drewN no _ _)⟩
      case measure => simp [intOf]; omega
    · have d1 : decide (i < l.length) = false := decF hil
      go_wp2_with fail
      go_ret
      exact ⟨rfl, hx⟩

set_option maxRecDepth 100000 in
set_option maxHeartbeats 4000000 in
theorem eqranges_any (w : World) (a b : Option Addr) (c d : Nat) (l : List RangeR) (hl : Rd w a (rows RangeR.cells l)) (hm : Rd w b (rows RangeR.cells l)) (hll : l.length ≤ 1099511627776) :
    Calls Try.prog 78 #[.slice a l.length c, .slice b l.length d] w fun e w' => e = .returned (.bool true) ∧ Ext no w w' := by
  have d0 : (((l.length : Nat) : Int) != ((l.length : Nat) : Int)) = false := by simp
  go_enter Try.func78, Try.ntmps78
  go_wp2_with fail
  go_loopw [13] (fun s wr => ∃ i : Nat, i ≤ l.length ∧ s = .int .i64 i ∧ Ext no w wr) (fun s _ => l.length - (intOf s).toNat)
  case atStart => exact ⟨0, by omega, rfl, Ext.refl _ _⟩
  case round =>
    obtain ⟨i, hi, rfl, hx⟩ := hrel
    by_cases hil : i < l.length
    · have d1 : decide (i < l.length) = true := decT hil
      have hl2 := hl.ext hx (fun _ _ h => h)
      have hm2 := hm.ext hx (fun _ _ h => h)
      obtain ⟨ab, ao, rfl⟩ := row_shape hl2 (by rw [rows_length (f := RangeR.cells) (k := 2) (fun _ => rfl)]; omega)
      obtain ⟨bb, bo, rfl⟩ := row_shape hm2 (by rw [rows_length (f := RangeR.cells) (k := 2) (fun _ => rfl)]; omega)
      obtain ⟨x, hx1⟩ : ∃ x, l[i]? = some x := ⟨_, List.getElem?_eq_getElem hil⟩
      have x0 : wr.cell? ⟨ab, ao + i * 2, none⟩ = some (.int .i64 x.lo) := rows_cell kRange hl2 hx1 0 _ rfl
      have x1 : wr.cell? ⟨ab, ao + i * 2 + 1, none⟩ = some (.int .i64 x.hi) := rows_cell kRange hl2 hx1 1 _ rfl
      have y0 : wr.cell? ⟨bb, bo + i * 2, none⟩ = some (.int .i64 x.lo) := rows_cell kRange hm2 hx1 0 _ rfl
      have y1 : wr.cell? ⟨bb, bo + i * 2 + 1, none⟩ = some (.int .i64 x.hi) := rows_cell kRange hm2 hx1 1 _ rfl
      clear hl2 hm2
      go_upto_region 6 with fail
      go_quiet (fail)
      go_wp2_with fail
      go_roundw
      case rel => exact ⟨i + 1, by omega, by go_num, hx.comp (Ext.drewN no _ _)⟩
      case measure => simp [intOf]; omega
    · have d1 : decide (i < l.length) = false := decF hil
      go_wp2_with fail
      go_ret
      exact ⟨rfl, hx⟩

end Go.Proofs.Ytddobhihjljcgaa

/- Messages held against one another. -/
namespace Go.Proofs.Ytddobhihjljcgaa
open Go.RowKit Go.Esc
set_option linter.unusedVariables false
set_option linter.unusedSimpArgs false

set_option maxRecDepth 100000 in
set_option maxHeartbeats 4000000 in
theorem eqops_any (w : World) (a b : Option Addr) (c d : Nat) (l : List OpR) (hl : OpsIn w a l) (hm : OpsIn w b l) (hll : l.length ≤ 1099511627776) (hd : ∀ o ∈ l, o.dots.length ≤ 1099511627776) :
    Calls Try.prog 46 #[.slice a l.length c, .slice b l.length d, .func (.func 47) #[] #[]] w fun e w' => e = .returned (.bool true) ∧ Ext no w w' := by
  obtain ⟨P, hP, hrp, hgp⟩ := hl
  obtain ⟨Q, hQ, hrq, hgq⟩ := hm
  have hPl : P.length = l.length := by rw [← hP, List.length_map]
  have hQl : Q.length = l.length := by rw [← hQ, List.length_map]
  have HP := Lib.hid hP
  have HQ := Lib.hid hQ
  have HPl := Lib.hid hPl
  have HQl := Lib.hid hQl
  clear hP hQ hPl hQl
  have d0 : (((l.length : Nat) : Int) != ((l.length : Nat) : Int)) = false := by simp
  go_enter Try.func46, Try.ntmps46
  go_wp2_with fail
  go_loopw [17] (fun s wr => ∃ i : Nat, i ≤ l.length ∧ s = .int .i64 i ∧ Ext no w wr) (fun s _ => l.length - (intOf s).toNat)
  case atStart => exact ⟨0, by omega, rfl, Ext.refl _ _⟩
  case round =>
    obtain ⟨i, hi, rfl, hx⟩ := hrel
    by_cases hil : i < l.length
    · have d1 : decide (i < l.length) = true := decT hil
      have hrp1 := hrp.ext hx (fun _ _ h => h)
      have hrq1 := hrq.ext hx (fun _ _ h => h)
      obtain ⟨x, hxm⟩ : ∃ x, P[i]? = some x := ⟨_, List.getElem?_eq_getElem (by have := HPl.out; omega)⟩
      obtain ⟨y, hym⟩ : ∃ y, Q[i]? = some y := ⟨_, List.getElem?_eq_getElem (by have := HQl.out; omega)⟩
      have hxo : l[i]? = some x.o := by rw [← HP.out, List.getElem?_map, hxm]; rfl
      have hyo : l[i]? = some y.o := by rw [← HQ.out, List.getElem?_map, hym]; rfl
      have Hxy := Lib.hid (show x.o = y.o by rw [hxo] at hyo; exact Option.some.inj hyo)
      have hdx := hd x.o (List.mem_of_getElem? hxo)
      have hdy := hd y.o (List.mem_of_getElem? hyo)
      have hgx := (hgp x (List.mem_of_getElem? hxm)).no hx
      have hgy := (hgq y (List.mem_of_getElem? hym)).no hx
      clear hxo hyo
      obtain ⟨ab, ao, rfl, _⟩ := rows_shape kOp (by omega) hrp1 (by have := HPl.out; omega)
      obtain ⟨bb, bo, rfl, _⟩ := rows_shape kOp (by omega) hrq1 (by have := HQl.out; omega)
      have q0 : wr.cell? ⟨ab, ao + i * 11, none⟩ = some (.int .i64 x.o.dot.dev) := rows_cell kOp hrp1 hxm 0 _ rfl
      have q1 : wr.cell? ⟨ab, ao + i * 11 + 1, none⟩ = some (.int .i64 x.o.dot.ep) := rows_cell kOp hrp1 hxm 1 _ rfl
      have q2 : wr.cell? ⟨ab, ao + i * 11 + 2, none⟩ = some (.int .i64 x.o.dot.seq) := rows_cell kOp hrp1 hxm 2 _ rfl
      have q3 : wr.cell? ⟨ab, ao + i * 11 + 3, none⟩ = some (.int .i64 x.o.coll) := rows_cell kOp hrp1 hxm 3 _ rfl
      have q4 : wr.cell? ⟨ab, ao + i * 11 + 4, none⟩ = some (.int .i64 x.o.ver) := rows_cell kOp hrp1 hxm 4 _ rfl
      have q5 : wr.cell? ⟨ab, ao + i * 11 + 5, none⟩ = some (.int .i64 x.o.kind) := rows_cell kOp hrp1 hxm 5 _ rfl
      have q6 : wr.cell? ⟨ab, ao + i * 11 + 6, none⟩ = some (.string (str x.o.key)) := rows_cell kOp hrp1 hxm 6 _ rfl
      have q7 : wr.cell? ⟨ab, ao + i * 11 + 7, none⟩ = some (.string (str x.o.text)) := rows_cell kOp hrp1 hxm 7 _ rfl
      have q8 : wr.cell? ⟨ab, ao + i * 11 + 8, none⟩ = some (.int .i64 x.o.n) := rows_cell kOp hrp1 hxm 8 _ rfl
      have q9 : wr.cell? ⟨ab, ao + i * 11 + 9, none⟩ = some (.int .i64 x.o.time) := rows_cell kOp hrp1 hxm 9 _ rfl
      have q10 : wr.cell? ⟨ab, ao + i * 11 + 10, none⟩ = some (.slice x.a x.o.dots.length x.c) := rows_cell kOp hrp1 hxm 10 _ rfl
      go_upto_region 6 with fail
      have hX := Blk.lit wr #[.int .i64 x.o.dot.dev, .int .i64 x.o.dot.ep, .int .i64 x.o.dot.seq, .int .i64 x.o.coll, .int .i64 x.o.ver, .int .i64 x.o.kind, .string (str x.o.key), .string (str x.o.text), .int .i64 x.o.n, .int .i64 x.o.time, .slice x.a x.o.dots.length x.c] 60
      have hxa := Ext.alloc no wr (.cells #[.int .i64 x.o.dot.dev, .int .i64 x.o.dot.ep, .int .i64 x.o.dot.seq, .int .i64 x.o.coll, .int .i64 x.o.ver, .int .i64 x.o.kind, .string (str x.o.key), .string (str x.o.text), .int .i64 x.o.n, .int .i64 x.o.time, .slice x.a x.o.dots.length x.c] 60)
      have hrq2 := hrq1.ext hxa (fun _ _ h => h)
      have hx2 := hx.comp hxa
      clear q0 q1 q2 q3 q4 q5 q6 q7 q8 q9 q10 hrp1 hrq1 hx
      generalize wr.alloc (.cells #[.int .i64 x.o.dot.dev, .int .i64 x.o.dot.ep, .int .i64 x.o.dot.seq, .int .i64 x.o.coll, .int .i64 x.o.ver, .int .i64 x.o.kind, .string (str x.o.key), .string (str x.o.text), .int .i64 x.o.n, .int .i64 x.o.time, .slice x.a x.o.dots.length x.c] 60) = w2 at *
      obtain ⟨gx, hgx'⟩ : ∃ gx, gx = wr.heap.size := ⟨_, rfl⟩
      rw [← hgx'] at hX ⊢
      clear hgx'
      have q0 : w2.cell? ⟨bb, bo + i * 11, none⟩ = some (.int .i64 y.o.dot.dev) := rows_cell kOp hrq2 hym 0 _ rfl
      have q1 : w2.cell? ⟨bb, bo + i * 11 + 1, none⟩ = some (.int .i64 y.o.dot.ep) := rows_cell kOp hrq2 hym 1 _ rfl
      have q2 : w2.cell? ⟨bb, bo + i * 11 + 2, none⟩ = some (.int .i64 y.o.dot.seq) := rows_cell kOp hrq2 hym 2 _ rfl
      have q3 : w2.cell? ⟨bb, bo + i * 11 + 3, none⟩ = some (.int .i64 y.o.coll) := rows_cell kOp hrq2 hym 3 _ rfl
      have q4 : w2.cell? ⟨bb, bo + i * 11 + 4, none⟩ = some (.int .i64 y.o.ver) := rows_cell kOp hrq2 hym 4 _ rfl
      have q5 : w2.cell? ⟨bb, bo + i * 11 + 5, none⟩ = some (.int .i64 y.o.kind) := rows_cell kOp hrq2 hym 5 _ rfl
      have q6 : w2.cell? ⟨bb, bo + i * 11 + 6, none⟩ = some (.string (str y.o.key)) := rows_cell kOp hrq2 hym 6 _ rfl
      have q7 : w2.cell? ⟨bb, bo + i * 11 + 7, none⟩ = some (.string (str y.o.text)) := rows_cell kOp hrq2 hym 7 _ rfl
      have q8 : w2.cell? ⟨bb, bo + i * 11 + 8, none⟩ = some (.int .i64 y.o.n) := rows_cell kOp hrq2 hym 8 _ rfl
      have q9 : w2.cell? ⟨bb, bo + i * 11 + 9, none⟩ = some (.int .i64 y.o.time) := rows_cell kOp hrq2 hym 9 _ rfl
      have q10 : w2.cell? ⟨bb, bo + i * 11 + 10, none⟩ = some (.slice y.a y.o.dots.length y.c) := rows_cell kOp hrq2 hym 10 _ rfl
      go_upto_region 7 with fail
      have hY := Blk.lit w2 #[.int .i64 y.o.dot.dev, .int .i64 y.o.dot.ep, .int .i64 y.o.dot.seq, .int .i64 y.o.coll, .int .i64 y.o.ver, .int .i64 y.o.kind, .string (str y.o.key), .string (str y.o.text), .int .i64 y.o.n, .int .i64 y.o.time, .slice y.a y.o.dots.length y.c] 60
      have hxb := Ext.alloc no w2 (.cells #[.int .i64 y.o.dot.dev, .int .i64 y.o.dot.ep, .int .i64 y.o.dot.seq, .int .i64 y.o.coll, .int .i64 y.o.ver, .int .i64 y.o.kind, .string (str y.o.key), .string (str y.o.text), .int .i64 y.o.n, .int .i64 y.o.time, .slice y.a y.o.dots.length y.c] 60)
      have hX2 := hX.ext (by simp) hxb (fun h => h)
      have hgx2 := (hgx.no hxa).no hxb
      have hgy2 := (hgy.no hxa).no hxb
      have hx3 := hx2.comp hxb
      clear q0 q1 q2 q3 q4 q5 q6 q7 q8 q9 q10 hrq2 hx2 hX hxm hym
      generalize w2.alloc (.cells #[.int .i64 y.o.dot.dev, .int .i64 y.o.dot.ep, .int .i64 y.o.dot.seq, .int .i64 y.o.coll, .int .i64 y.o.ver, .int .i64 y.o.kind, .string (str y.o.key), .string (str y.o.text), .int .i64 y.o.n, .int .i64 y.o.time, .slice y.a y.o.dots.length y.c] 60) = w3 at *
      obtain ⟨gy, hgy'⟩ : ∃ gy, gy = w2.heap.size := ⟨_, rfl⟩
      rw [← hgy'] at hY ⊢
      clear hgy' hxa hxb
      have z0 := hX2.cell 0 _ rfl
      have z1 := hX2.cell 1 _ rfl
      have z2 := hX2.cell 2 _ rfl
      have z3 := hX2.cell 3 _ rfl
      have z4 := hX2.cell 4 _ rfl
      have z5 := hX2.cell 5 _ rfl
      have z6 := hX2.cell 6 _ rfl
      have z7 := hX2.cell 7 _ rfl
      have z8 := hX2.cell 8 _ rfl
      have z9 := hX2.cell 9 _ rfl
      have z10 := hX2.cell 10 _ rfl
      have y0 := hY.cell 0 _ rfl
      have y1 := hY.cell 1 _ rfl
      have y2 := hY.cell 2 _ rfl
      have y3 := hY.cell 3 _ rfl
      have y4 := hY.cell 4 _ rfl
      have y5 := hY.cell 5 _ rfl
      have y6 := hY.cell 6 _ rfl
      have y7 := hY.cell 7 _ rfl
      have y8 := hY.cell 8 _ rfl
      have y9 := hY.cell 9 _ rfl
      have y10 := hY.cell 10 _ rfl
      go_wp2_with fail
      refine (same_any w3 x.o y.o x.a y.a x.c y.c hgx2.rd hgy2.rd hdx hdy).mono ?_
      rintro e w4 ⟨r, rfl, hr, hx4⟩
      have hrt : r = true := hr.2 Hxy.out
      clear hr
      subst hrt
      go_wp2_with fail
      go_roundw
      case rel => exact ⟨i + 1, by omega, by go_num, hx3.comp hx4⟩
      case measure => simp [intOf]; omega
    · have d1 : decide (i < l.length) = false := decF hil
      go_wp2_with fail
      go_ret
      exact ⟨rfl, hx⟩

/-- Scalars of a command. -/
def eqC (c d : CmdR) : Prop := c.kind = d.kind ∧ c.dev = d.dev ∧ c.ep = d.ep ∧ c.req = d.req ∧ c.n = d.n
def eqR (c d : ReplyR) : Prop := c.err = d.err ∧ c.n = d.n ∧ c.dev = d.dev ∧ c.ep = d.ep ∧ c.til = d.til ∧ c.last = d.last

set_option maxRecDepth 100000 in
set_option maxHeartbeats 4000000 in
theorem samecmd_any (w : World) (c d : CmdR) (h k : CmdA) (hc : c.In w h) (hd : d.In w k) (hw : c.wants = d.wants) (ho : c.ops = d.ops) (hwl : c.wants.length ≤ 1099511627776) (hol : c.ops.length ≤ 1099511627776) (hdd : ∀ o ∈ c.ops, o.dots.length ≤ 1099511627776) :
    Calls Try.prog 43 #[c.val h, d.val k] w fun e w' => ∃ r, e = .returned (.bool r) ∧ (r = true ↔ eqC c d) ∧ Ext no w w' := by
  have hW := fun wz (hz : Ext no w wz) => eqwants_any wz h.w k.w h.wc k.wc c.wants (hc.no hz).x (by have := (hd.no hz).x; rwa [← hw] at this) hwl
  have hO := fun wz (hz : Ext no w wz) => eqops_any wz h.o k.o h.oc k.oc c.ops (hc.no hz).o (by have := (hd.no hz).o; rwa [← ho] at this) hol hdd
  rw [show d.val k = .agg #[.int .i64 d.kind, .int .i64 d.dev, .int .i64 d.ep, .int .i64 d.req, .int .i64 d.n, .slice k.w c.wants.length k.wc, .slice k.o c.ops.length k.oc] by rw [hw, ho]; rfl]
  clear hw ho hc hd
  unfold CmdR.val eqC
  go_enter Try.func43, Try.ntmps43
  go_upto_region 1 with fail
  have hB1 := Blk.lit w #[.int .i64 c.kind, .int .i64 c.dev, .int .i64 c.ep, .int .i64 c.req, .int .i64 c.n, .slice h.w c.wants.length h.wc, .slice h.o c.ops.length h.oc] 27
  have hx1 := Ext.alloc no w (.cells #[.int .i64 c.kind, .int .i64 c.dev, .int .i64 c.ep, .int .i64 c.req, .int .i64 c.n, .slice h.w c.wants.length h.wc, .slice h.o c.ops.length h.oc] 27)
  have hB2 := Blk.at (w.alloc (.cells #[.int .i64 c.kind, .int .i64 c.dev, .int .i64 c.ep, .int .i64 c.req, .int .i64 c.n, .slice h.w c.wants.length h.wc, .slice h.o c.ops.length h.oc] 27)) #[.int .i64 d.kind, .int .i64 d.dev, .int .i64 d.ep, .int .i64 d.req, .int .i64 d.n, .slice k.w c.wants.length k.wc, .slice k.o c.ops.length k.oc] 27 (w.heap.size + 1) (by simp)
  have hx2 := Ext.alloc no (w.alloc (.cells #[.int .i64 c.kind, .int .i64 c.dev, .int .i64 c.ep, .int .i64 c.req, .int .i64 c.n, .slice h.w c.wants.length h.wc, .slice h.o c.ops.length h.oc] 27)) (.cells #[.int .i64 d.kind, .int .i64 d.dev, .int .i64 d.ep, .int .i64 d.req, .int .i64 d.n, .slice k.w c.wants.length k.wc, .slice k.o c.ops.length k.oc] 27)
  have hB1' := hB1.ext (by simp) hx2 (fun h => h)
  have hx := hx1.comp hx2
  clear hB1 hx1 hx2
  generalize ((w.alloc (.cells #[.int .i64 c.kind, .int .i64 c.dev, .int .i64 c.ep, .int .i64 c.req, .int .i64 c.n, .slice h.w c.wants.length h.wc, .slice h.o c.ops.length h.oc] 27)).alloc (.cells #[.int .i64 d.kind, .int .i64 d.dev, .int .i64 d.ep, .int .i64 d.req, .int .i64 d.n, .slice k.w c.wants.length k.wc, .slice k.o c.ops.length k.oc] 27)) = w2 at *
  obtain ⟨ga, hga⟩ : ∃ ga, ga = w.heap.size := ⟨_, rfl⟩
  rw [← hga] at hB1' hB2 ⊢
  clear hga
  have hW := hW _ hx
  have hO := fun wz (hz : Ext no w2 wz) => hO wz (hx.comp hz)
  have z0 := hB1'.cell 0 _ rfl
  have z1 := hB1'.cell 1 _ rfl
  have z2 := hB1'.cell 2 _ rfl
  have z3 := hB1'.cell 3 _ rfl
  have z4 := hB1'.cell 4 _ rfl
  have z5 := hB1'.cell 5 _ rfl
  have z6 := hB1'.cell 6 _ rfl
  have y0 := hB2.cell 0 _ rfl
  have y1 := hB2.cell 1 _ rfl
  have y2 := hB2.cell 2 _ rfl
  have y3 := hB2.cell 3 _ rfl
  have y4 := hB2.cell 4 _ rfl
  have y5 := hB2.cell 5 _ rfl
  have y6 := hB2.cell 6 _ rfl
  clear hB1' hB2
  by_cases h0 : c.kind = d.kind
  rotate_left
  · have HN := Lib.hid h0
    have e0 : (c.kind == d.kind) = false := by rw [beq_eq_false_iff_ne]; exact h0
    clear h0
    go_wp2_with fail
    go_ret
    exact ⟨false, rfl, by simp [HN.out], hx⟩
  have H0 := Lib.hid h0
  have e0 : (c.kind == d.kind) = true := by rw [beq_iff_eq]; exact h0
  clear h0
  by_cases h1 : c.dev = d.dev
  rotate_left
  · have HN := Lib.hid h1
    have e1 : (c.dev == d.dev) = false := by rw [beq_eq_false_iff_ne]; exact h1
    clear h1
    go_wp2_with fail
    go_ret
    exact ⟨false, rfl, by simp [HN.out], hx⟩
  have H1 := Lib.hid h1
  have e1 : (c.dev == d.dev) = true := by rw [beq_iff_eq]; exact h1
  clear h1
  by_cases h2 : c.ep = d.ep
  rotate_left
  · have HN := Lib.hid h2
    have e2 : (c.ep == d.ep) = false := by rw [beq_eq_false_iff_ne]; exact h2
    clear h2
    go_wp2_with fail
    go_ret
    exact ⟨false, rfl, by simp [HN.out], hx⟩
  have H2 := Lib.hid h2
  have e2 : (c.ep == d.ep) = true := by rw [beq_iff_eq]; exact h2
  clear h2
  by_cases h3 : c.req = d.req
  rotate_left
  · have HN := Lib.hid h3
    have e3 : (c.req == d.req) = false := by rw [beq_eq_false_iff_ne]; exact h3
    clear h3
    go_wp2_with fail
    go_ret
    exact ⟨false, rfl, by simp [HN.out], hx⟩
  have H3 := Lib.hid h3
  have e3 : (c.req == d.req) = true := by rw [beq_iff_eq]; exact h3
  clear h3
  by_cases h4 : c.n = d.n
  rotate_left
  · have HN := Lib.hid h4
    have e4 : (c.n == d.n) = false := by rw [beq_eq_false_iff_ne]; exact h4
    clear h4
    go_wp2_with fail
    go_ret
    exact ⟨false, rfl, by simp [HN.out], hx⟩
  have H4 := Lib.hid h4
  have e4 : (c.n == d.n) = true := by rw [beq_iff_eq]; exact h4
  clear h4
  have HE := Lib.hid (show c.kind = d.kind ∧ c.dev = d.dev ∧ c.ep = d.ep ∧ c.req = d.req ∧ c.n = d.n from ⟨H0.out, H1.out, H2.out, H3.out, H4.out⟩)
  have zk5 := z5
  have zk6 := z6
  go_wp2_with fail
  refine hW.mono ?_
  rintro e w3 ⟨rfl, hx3⟩
  have hO3 := hO _ hx3
  replace z6 := hx3.keeps z6 (fun h => h)
  replace y6 := hx3.keeps y6 (fun h => h)
  go_wp2_with fail
  refine hO3.mono ?_
  rintro e w4 ⟨rfl, hx4⟩
  go_wp2_with fail
  go_ret
  exact ⟨true, rfl, by simp [HE.out], (hx.comp hx3).comp hx4⟩
end Go.Proofs.Ytddobhihjljcgaa

/- Replies and messages held against one another. -/
namespace Go.Proofs.Ytddobhihjljcgaa
open Go.RowKit Go.Esc
set_option linter.unusedVariables false
set_option linter.unusedSimpArgs false

set_option maxRecDepth 100000 in
set_option maxHeartbeats 4000000 in
theorem samereply_any (w : World) (c d : ReplyR) (h k : ReplyA) (hc : c.In w h) (hd : d.In w k) (hs : c.slices = d.slices) (hi : c.ids = d.ids) (hu : c.used = d.used) (hsl : c.slices.length ≤ 1099511627776) (hil : c.ids.length ≤ 1099511627776) (hul : c.used.length ≤ 1099511627776) :
    Calls Try.prog 44 #[c.val h, d.val k] w fun e w' => ∃ r, e = .returned (.bool r) ∧ (r = true ↔ eqR c d) ∧ Ext no w w' := by
  have hS := fun wz (hz : Ext no w wz) => eqslices_any wz h.s k.s h.sc k.sc c.slices (hc.no hz).s (by have := (hd.no hz).s; rwa [← hs] at this) hsl
  have hI := fun wz (hz : Ext no w wz) => eqranges_any wz h.i k.i h.ic k.ic c.ids (hc.no hz).i (by have := (hd.no hz).i; rwa [← hi] at this) hil
  have hU := fun wz (hz : Ext no w wz) => eqints_any wz h.u k.u h.uc k.uc c.used (hc.no hz).u (by have := (hd.no hz).u; rwa [← hu] at this) hul
  rw [show d.val k = .agg #[.int .i64 d.err, .int .i64 d.n, .int .i64 d.dev, .int .i64 d.ep, .int .i64 d.til, .int .i64 d.last, .slice k.s c.slices.length k.sc, .slice k.i c.ids.length k.ic, .slice k.u c.used.length k.uc] by rw [hs, hi, hu]; rfl]
  clear hs hi hu hc hd
  unfold ReplyR.val eqR
  go_enter Try.func44, Try.ntmps44
  go_upto_region 1 with fail
  have hB1 := Blk.lit w #[.int .i64 c.err, .int .i64 c.n, .int .i64 c.dev, .int .i64 c.ep, .int .i64 c.til, .int .i64 c.last, .slice h.s c.slices.length h.sc, .slice h.i c.ids.length h.ic, .slice h.u c.used.length h.uc] 34
  have hx1 := Ext.alloc no w (.cells #[.int .i64 c.err, .int .i64 c.n, .int .i64 c.dev, .int .i64 c.ep, .int .i64 c.til, .int .i64 c.last, .slice h.s c.slices.length h.sc, .slice h.i c.ids.length h.ic, .slice h.u c.used.length h.uc] 34)
  have hB2 := Blk.at (w.alloc (.cells #[.int .i64 c.err, .int .i64 c.n, .int .i64 c.dev, .int .i64 c.ep, .int .i64 c.til, .int .i64 c.last, .slice h.s c.slices.length h.sc, .slice h.i c.ids.length h.ic, .slice h.u c.used.length h.uc] 34)) #[.int .i64 d.err, .int .i64 d.n, .int .i64 d.dev, .int .i64 d.ep, .int .i64 d.til, .int .i64 d.last, .slice k.s c.slices.length k.sc, .slice k.i c.ids.length k.ic, .slice k.u c.used.length k.uc] 34 (w.heap.size + 1) (by simp)
  have hx2 := Ext.alloc no (w.alloc (.cells #[.int .i64 c.err, .int .i64 c.n, .int .i64 c.dev, .int .i64 c.ep, .int .i64 c.til, .int .i64 c.last, .slice h.s c.slices.length h.sc, .slice h.i c.ids.length h.ic, .slice h.u c.used.length h.uc] 34)) (.cells #[.int .i64 d.err, .int .i64 d.n, .int .i64 d.dev, .int .i64 d.ep, .int .i64 d.til, .int .i64 d.last, .slice k.s c.slices.length k.sc, .slice k.i c.ids.length k.ic, .slice k.u c.used.length k.uc] 34)
  have hB1' := hB1.ext (by simp) hx2 (fun h => h)
  have hx := hx1.comp hx2
  clear hB1 hx1 hx2
  generalize ((w.alloc (.cells #[.int .i64 c.err, .int .i64 c.n, .int .i64 c.dev, .int .i64 c.ep, .int .i64 c.til, .int .i64 c.last, .slice h.s c.slices.length h.sc, .slice h.i c.ids.length h.ic, .slice h.u c.used.length h.uc] 34)).alloc (.cells #[.int .i64 d.err, .int .i64 d.n, .int .i64 d.dev, .int .i64 d.ep, .int .i64 d.til, .int .i64 d.last, .slice k.s c.slices.length k.sc, .slice k.i c.ids.length k.ic, .slice k.u c.used.length k.uc] 34)) = w2 at *
  obtain ⟨ga, hga⟩ : ∃ ga, ga = w.heap.size := ⟨_, rfl⟩
  rw [← hga] at hB1' hB2 ⊢
  clear hga
  have z0 := hB1'.cell 0 _ rfl
  have z1 := hB1'.cell 1 _ rfl
  have z2 := hB1'.cell 2 _ rfl
  have z3 := hB1'.cell 3 _ rfl
  have z4 := hB1'.cell 4 _ rfl
  have z5 := hB1'.cell 5 _ rfl
  have z6 := hB1'.cell 6 _ rfl
  have z7 := hB1'.cell 7 _ rfl
  have z8 := hB1'.cell 8 _ rfl
  have y0 := hB2.cell 0 _ rfl
  have y1 := hB2.cell 1 _ rfl
  have y2 := hB2.cell 2 _ rfl
  have y3 := hB2.cell 3 _ rfl
  have y4 := hB2.cell 4 _ rfl
  have y5 := hB2.cell 5 _ rfl
  have y6 := hB2.cell 6 _ rfl
  have y7 := hB2.cell 7 _ rfl
  have y8 := hB2.cell 8 _ rfl
  go_cut [5, 6] (fun s5 s6 wx => ∃ p q : Nat, s5 = .pointer (some ⟨p, 0, none⟩) ∧ s6 = .pointer (some ⟨q, 0, none⟩) ∧ Blk wx p [.int .i64 c.dev, .int .i64 c.ep, .int .i64 c.til, .int .i64 c.last, .slice h.s c.slices.length h.sc, .slice h.i c.ids.length h.ic, .slice h.u c.used.length h.uc] ∧ Blk wx q [.int .i64 d.dev, .int .i64 d.ep, .int .i64 d.til, .int .i64 d.last, .slice k.s c.slices.length k.sc, .slice k.i c.ids.length k.ic, .slice k.u c.used.length k.uc] ∧ Ext no w2 wx)
  case first =>
    refine wp_region_F [1, 3] (looks [(1, fun z => Ext no w2 z), (3, fun z => Ext no w2 z)]) (by kernel_rfl) ?_
    have hE0 := Ext.drew no w2
    generalize w2.drew = wd at *
    have hT0 : ∀ k, looks [(1, fun z => Ext no w2 z), (3, fun z => Ext no w2 z)] k (wd) := looks_all ⟨hE0, hE0, trivial⟩
    refine wpF_take 0 (v := ?_) rfl (by kernel_rfl) (by kernel_rfl) (by kernel_rfl) (fun _ _ _ h => h) hT0 (by rfl) ?_ ?_
    rotate_left
    · (intro wq; go_simp; try with_reducible rfl)
    simp only [Act.put, List.setIfInBounds_toArray, List.set_cons_zero, List.set_cons_succ]
    refine wpF_look 1 (v := .agg #[.int .i64 c.dev, .int .i64 c.ep, .int .i64 c.til, .int .i64 c.last, .slice h.s c.slices.length h.sc, .slice h.i c.ids.length h.ic, .slice h.u c.used.length h.uc]) rfl rfl (by kernel_rfl) (by kernel_rfl) (by kernel_rfl) (by kernel_rfl) (fun _ _ _ h => h) hT0 (by rfl) (fun w hS => by have hS : Ext no w2 w := hS; have q0 := hS.keeps z2 (fun h => h); have q1 := hS.keeps z3 (fun h => h); have q2 := hS.keeps z4 (fun h => h); have q3 := hS.keeps z5 (fun h => h); have q4 := hS.keeps z6 (fun h => h); have q5 := hS.keeps z7 (fun h => h); have q6 := hS.keeps z8 (fun h => h); go_simp) ?_
    simp only [Act.put, List.setIfInBounds_toArray, List.set_cons_zero, List.set_cons_succ]
    refine wpF_take 2 (v := ?_) rfl (by kernel_rfl) (by kernel_rfl) (by kernel_rfl) (fun _ _ _ h => h) hT0 (by rfl) ?_ ?_
    rotate_left
    · (intro wq; go_simp; try with_reducible rfl)
    simp only [Act.put, List.setIfInBounds_toArray, List.set_cons_zero, List.set_cons_succ]
    refine wpF_look 3 (v := .agg #[.int .i64 d.dev, .int .i64 d.ep, .int .i64 d.til, .int .i64 d.last, .slice k.s c.slices.length k.sc, .slice k.i c.ids.length k.ic, .slice k.u c.used.length k.uc]) rfl rfl (by kernel_rfl) (by kernel_rfl) (by kernel_rfl) (by kernel_rfl) (fun _ _ _ h => h) hT0 (by rfl) (fun w hS => by have hS : Ext no w2 w := hS; have q0 := hS.keeps y2 (fun h => h); have q1 := hS.keeps y3 (fun h => h); have q2 := hS.keeps y4 (fun h => h); have q3 := hS.keeps y5 (fun h => h); have q4 := hS.keeps y6 (fun h => h); have q5 := hS.keeps y7 (fun h => h); have q6 := hS.keeps y8 (fun h => h); go_simp) ?_
    simp only [Act.put, List.setIfInBounds_toArray, List.set_cons_zero, List.set_cons_succ]
    refine wpF_execs [4, 5] (by kernel_rfl) (by simp) ?_
    intro j hj
    simp only [List.mem_cons, List.not_mem_nil, or_false] at hj
    rcases hj with rfl | rfl
    · refine ⟨_, rfl, by rfl, ?_⟩
      intro K hK
      refine op_alloc_lease rfl (fun hZp5 => ?_)
      have hx1 := Ext.alloc no wd (.cells lz 32)
      obtain ⟨p5, hp5⟩ : ∃ p, p = wd.heap.size := ⟨_, rfl⟩
      rw [← hp5] at hZp5 ⊢
      have hE1 := hE0.comp hx1
      have hlp5 : w2.heap.size ≤ p5 := by have := hE0.size; omega
      generalize wd.alloc (.cells lz 32) = u1 at *
      have hlt1 := hZp5.lt (by simp [lz])
      clear hp5
      have hT1 : ∀ k, looks [(1, fun z => Ext no w2 z), (3, fun z => Ext no w2 z)] k (u1) := looks_all ⟨hE1, hE1, trivial⟩
      refine hK _ _ (looks [(1, fun z => Ext no w2 z), (3, fun z => Ext no w2 z)]) ⟨.inr (.inr (fun x h => h)), .inr (.inr (fun x h => h)), trivial⟩ hT1 ?_
      clear hK K
      try simp only [Act.put, List.setIfInBounds_toArray, List.set_cons_zero, List.set_cons_succ]
      refine wpF_exec 5 rfl (by kernel_rfl) (by rfl) ?_
      intro K hK
      refine op_alloc_lease rfl (fun hZp6 => ?_)
      have hx2 := Ext.alloc no u1 (.cells lz 32)
      obtain ⟨p6, hp6⟩ : ∃ p, p = u1.heap.size := ⟨_, rfl⟩
      rw [← hp6] at hZp6 ⊢
      have hZp5 := hZp5.ext (by simp [lz]) hx2 (fun h => h)
      have hne : p5 < p6 := by omega
      have hE2 := hE1.comp hx2
      have hlp6 : w2.heap.size ≤ p6 := by have := hE1.size; omega
      generalize u1.alloc (.cells lz 32) = u2 at *
      clear hp6
      have hT2 : ∀ k, looks [(1, fun z => Ext no w2 z), (3, fun z => Ext no w2 z)] k (u2) := looks_all ⟨hE2, hE2, trivial⟩
      refine hK _ _ (looks [(1, fun z => Ext no w2 z), (3, fun z => Ext no w2 z)]) ⟨.inr (.inr (fun x h => h)), .inr (.inr (fun x h => h)), trivial⟩ hT2 ?_
      clear hK K
      try simp only [Act.put, List.setIfInBounds_toArray, List.set_cons_zero, List.set_cons_succ]
      refine wpF_exec 6 rfl (by kernel_rfl) (by rfl) ?_
      intro K hK
      refine op_store_row rfl (g := p5) (vs := #[.int .i64 c.dev, .int .i64 c.ep, .int .i64 c.til, .int .i64 c.last, .slice h.s c.slices.length h.sc, .slice h.i c.ids.length h.ic, .slice h.u c.used.length h.uc]) (by rfl) (by rfl) hZp5 rfl (by kernel_rfl) (by first | kernel_rfl | simp [Value.oneCell']) (fun hBp5 hx3 => ?_)
      have hZp6 := hZp6.ext (by simp [lz]) hx3 (fun e => by have e : p6 = p5 := e; omega)
      have hE3 := hE2.fresh hx3 (by omega)
      generalize u2.setCells p5 0 (List.toArray [.int .i64 c.dev, .int .i64 c.ep, .int .i64 c.til, .int .i64 c.last, .slice h.s c.slices.length h.sc, .slice h.i c.ids.length h.ic, .slice h.u c.used.length h.uc]).toList = u3 at *
      have hT3 : ∀ k, looks [(1, fun z => Ext no w2 z), (3, fun z => Ext no w2 z)] k (u3) := looks_all ⟨hE3, hE3, trivial⟩
      refine hK _ _ (looks [(1, fun z => Ext no w2 z), (3, fun z => Ext no w2 z)]) ⟨.inr (.inl (by kernel_rfl)), .inr (.inr (fun x h => h)), trivial⟩ hT3 ?_
      clear hK K
      try simp only [Act.put, List.setIfInBounds_toArray, List.set_cons_zero, List.set_cons_succ]
      refine wpF_exec 7 rfl (by kernel_rfl) (by rfl) ?_
      intro K hK
      refine op_store_row rfl (g := p6) (vs := #[.int .i64 d.dev, .int .i64 d.ep, .int .i64 d.til, .int .i64 d.last, .slice k.s c.slices.length k.sc, .slice k.i c.ids.length k.ic, .slice k.u c.used.length k.uc]) (by rfl) (by rfl) hZp6 rfl (by kernel_rfl) (by first | kernel_rfl | simp [Value.oneCell']) (fun hBp6 hx4 => ?_)
      have hBp5 := hBp5.ext (by simp) hx4 (fun e => by have e : p5 = p6 := e; omega)
      have hE4 := hE3.fresh hx4 (by omega)
      generalize u3.setCells p6 0 (List.toArray [.int .i64 d.dev, .int .i64 d.ep, .int .i64 d.til, .int .i64 d.last, .slice k.s c.slices.length k.sc, .slice k.i c.ids.length k.ic, .slice k.u c.used.length k.uc]).toList = u4 at *
      have hT4 : ∀ k, looks [(1, fun z => Ext no w2 z), (3, fun z => Ext no w2 z)] k (u4) := looks_all ⟨hE4, hE4, trivial⟩
      refine hK _ _ (looks [(1, fun z => Ext no w2 z), (3, fun z => Ext no w2 z)]) ⟨.inr (.inl (by kernel_rfl)), .inr (.inl (by kernel_rfl)), trivial⟩ hT4 ?_
      clear hK K
      try simp only [Act.put, List.setIfInBounds_toArray, List.set_cons_zero, List.set_cons_succ]
      refine wpF_done (by kernel_rfl) ?_ _
      go_wp2_with fail
      go_meet
      exact ⟨p5, p6, rfl, rfl, hBp5, hBp6, hE4⟩
    · refine ⟨_, rfl, by rfl, ?_⟩
      intro K hK
      refine op_alloc_lease rfl (fun hZp6 => ?_)
      have hx1 := Ext.alloc no wd (.cells lz 32)
      obtain ⟨p6, hp6⟩ : ∃ p, p = wd.heap.size := ⟨_, rfl⟩
      rw [← hp6] at hZp6 ⊢
      have hE1 := hE0.comp hx1
      have hlp6 : w2.heap.size ≤ p6 := by have := hE0.size; omega
      generalize wd.alloc (.cells lz 32) = u1 at *
      have hlt1 := hZp6.lt (by simp [lz])
      clear hp6
      have hT1 : ∀ k, looks [(1, fun z => Ext no w2 z), (3, fun z => Ext no w2 z)] k (u1) := looks_all ⟨hE1, hE1, trivial⟩
      refine hK _ _ (looks [(1, fun z => Ext no w2 z), (3, fun z => Ext no w2 z)]) ⟨.inr (.inr (fun x h => h)), .inr (.inr (fun x h => h)), trivial⟩ hT1 ?_
      clear hK K
      try simp only [Act.put, List.setIfInBounds_toArray, List.set_cons_zero, List.set_cons_succ]
      refine wpF_exec 4 rfl (by kernel_rfl) (by rfl) ?_
      intro K hK
      refine op_alloc_lease rfl (fun hZp5 => ?_)
      have hx2 := Ext.alloc no u1 (.cells lz 32)
      obtain ⟨p5, hp5⟩ : ∃ p, p = u1.heap.size := ⟨_, rfl⟩
      rw [← hp5] at hZp5 ⊢
      have hZp6 := hZp6.ext (by simp [lz]) hx2 (fun h => h)
      have hne : p6 < p5 := by omega
      have hE2 := hE1.comp hx2
      have hlp5 : w2.heap.size ≤ p5 := by have := hE1.size; omega
      generalize u1.alloc (.cells lz 32) = u2 at *
      clear hp5
      have hT2 : ∀ k, looks [(1, fun z => Ext no w2 z), (3, fun z => Ext no w2 z)] k (u2) := looks_all ⟨hE2, hE2, trivial⟩
      refine hK _ _ (looks [(1, fun z => Ext no w2 z), (3, fun z => Ext no w2 z)]) ⟨.inr (.inr (fun x h => h)), .inr (.inr (fun x h => h)), trivial⟩ hT2 ?_
      clear hK K
      try simp only [Act.put, List.setIfInBounds_toArray, List.set_cons_zero, List.set_cons_succ]
      refine wpF_exec 6 rfl (by kernel_rfl) (by rfl) ?_
      intro K hK
      refine op_store_row rfl (g := p5) (vs := #[.int .i64 c.dev, .int .i64 c.ep, .int .i64 c.til, .int .i64 c.last, .slice h.s c.slices.length h.sc, .slice h.i c.ids.length h.ic, .slice h.u c.used.length h.uc]) (by rfl) (by rfl) hZp5 rfl (by kernel_rfl) (by first | kernel_rfl | simp [Value.oneCell']) (fun hBp5 hx3 => ?_)
      have hZp6 := hZp6.ext (by simp [lz]) hx3 (fun e => by have e : p6 = p5 := e; omega)
      have hE3 := hE2.fresh hx3 (by omega)
      generalize u2.setCells p5 0 (List.toArray [.int .i64 c.dev, .int .i64 c.ep, .int .i64 c.til, .int .i64 c.last, .slice h.s c.slices.length h.sc, .slice h.i c.ids.length h.ic, .slice h.u c.used.length h.uc]).toList = u3 at *
      have hT3 : ∀ k, looks [(1, fun z => Ext no w2 z), (3, fun z => Ext no w2 z)] k (u3) := looks_all ⟨hE3, hE3, trivial⟩
      refine hK _ _ (looks [(1, fun z => Ext no w2 z), (3, fun z => Ext no w2 z)]) ⟨.inr (.inl (by kernel_rfl)), .inr (.inr (fun x h => h)), trivial⟩ hT3 ?_
      clear hK K
      try simp only [Act.put, List.setIfInBounds_toArray, List.set_cons_zero, List.set_cons_succ]
      refine wpF_exec 7 rfl (by kernel_rfl) (by rfl) ?_
      intro K hK
      refine op_store_row rfl (g := p6) (vs := #[.int .i64 d.dev, .int .i64 d.ep, .int .i64 d.til, .int .i64 d.last, .slice k.s c.slices.length k.sc, .slice k.i c.ids.length k.ic, .slice k.u c.used.length k.uc]) (by rfl) (by rfl) hZp6 rfl (by kernel_rfl) (by first | kernel_rfl | simp [Value.oneCell']) (fun hBp6 hx4 => ?_)
      have hBp5 := hBp5.ext (by simp) hx4 (fun e => by have e : p5 = p6 := e; omega)
      have hE4 := hE3.fresh hx4 (by omega)
      generalize u3.setCells p6 0 (List.toArray [.int .i64 d.dev, .int .i64 d.ep, .int .i64 d.til, .int .i64 d.last, .slice k.s c.slices.length k.sc, .slice k.i c.ids.length k.ic, .slice k.u c.used.length k.uc]).toList = u4 at *
      have hT4 : ∀ k, looks [(1, fun z => Ext no w2 z), (3, fun z => Ext no w2 z)] k (u4) := looks_all ⟨hE4, hE4, trivial⟩
      refine hK _ _ (looks [(1, fun z => Ext no w2 z), (3, fun z => Ext no w2 z)]) ⟨.inr (.inl (by kernel_rfl)), .inr (.inl (by kernel_rfl)), trivial⟩ hT4 ?_
      clear hK K
      try simp only [Act.put, List.setIfInBounds_toArray, List.set_cons_zero, List.set_cons_succ]
      refine wpF_done (by kernel_rfl) ?_ _
      go_wp2_with fail
      go_meet
      exact ⟨p5, p6, rfl, rfl, hBp5, hBp6, hE4⟩
  case rest =>
    obtain ⟨p, q, rfl, rfl, hP, hQ, hxc⟩ := hcut
    have hx3 := hx.comp hxc
    have hS := hS _ hx3
    have hI := fun wz (hz : Ext no wc wz) => hI wz (hx3.comp hz)
    have hU := fun wz (hz : Ext no wc wz) => hU wz (hx3.comp hz)
    have z0 := hxc.keeps z0 (fun h => h)
    have z1 := hxc.keeps z1 (fun h => h)
    have y0 := hxc.keeps y0 (fun h => h)
    have y1 := hxc.keeps y1 (fun h => h)
    clear z2 z3 z4 z5 z6 z7 z8 y2 y3 y4 y5 y6 y7 y8 hB1' hB2 hx hxc
    have p0 := hP.cell 0 _ rfl
    have p1 := hP.cell 1 _ rfl
    have p2 := hP.cell 2 _ rfl
    have p3 := hP.cell 3 _ rfl
    have p4 := hP.cell 4 _ rfl
    have p5 := hP.cell 5 _ rfl
    have p6 := hP.cell 6 _ rfl
    have q0 := hQ.cell 0 _ rfl
    have q1 := hQ.cell 1 _ rfl
    have q2 := hQ.cell 2 _ rfl
    have q3 := hQ.cell 3 _ rfl
    have q4 := hQ.cell 4 _ rfl
    have q5 := hQ.cell 5 _ rfl
    have q6 := hQ.cell 6 _ rfl
    clear hP hQ
    by_cases h0 : c.err = d.err
    rotate_left
    · have HN := Lib.hid h0
      have e0 : (c.err == d.err) = false := by rw [beq_eq_false_iff_ne]; exact h0
      clear h0
      go_wp2_with fail
      go_ret
      exact ⟨false, rfl, by simp [HN.out], hx3⟩
    have H0 := Lib.hid h0
    have e0 : (c.err == d.err) = true := by rw [beq_iff_eq]; exact h0
    clear h0
    by_cases h1 : c.n = d.n
    rotate_left
    · have HN := Lib.hid h1
      have e1 : (c.n == d.n) = false := by rw [beq_eq_false_iff_ne]; exact h1
      clear h1
      go_wp2_with fail
      go_ret
      exact ⟨false, rfl, by simp [HN.out], hx3⟩
    have H1 := Lib.hid h1
    have e1 : (c.n == d.n) = true := by rw [beq_iff_eq]; exact h1
    clear h1
    by_cases h2 : c.dev = d.dev
    rotate_left
    · have HN := Lib.hid h2
      have e2 : (c.dev == d.dev) = false := by rw [beq_eq_false_iff_ne]; exact h2
      clear h2
      go_wp2_with fail
      go_ret
      exact ⟨false, rfl, by simp [HN.out], hx3⟩
    have H2 := Lib.hid h2
    have e2 : (c.dev == d.dev) = true := by rw [beq_iff_eq]; exact h2
    clear h2
    by_cases h3 : c.ep = d.ep
    rotate_left
    · have HN := Lib.hid h3
      have e3 : (c.ep == d.ep) = false := by rw [beq_eq_false_iff_ne]; exact h3
      clear h3
      go_wp2_with fail
      go_ret
      exact ⟨false, rfl, by simp [HN.out], hx3⟩
    have H3 := Lib.hid h3
    have e3 : (c.ep == d.ep) = true := by rw [beq_iff_eq]; exact h3
    clear h3
    by_cases h4 : c.til = d.til
    rotate_left
    · have HN := Lib.hid h4
      have e4 : (c.til == d.til) = false := by rw [beq_eq_false_iff_ne]; exact h4
      clear h4
      go_wp2_with fail
      go_ret
      exact ⟨false, rfl, by simp [HN.out], hx3⟩
    have H4 := Lib.hid h4
    have e4 : (c.til == d.til) = true := by rw [beq_iff_eq]; exact h4
    clear h4
    by_cases h5 : c.last = d.last
    rotate_left
    · have HN := Lib.hid h5
      have e5 : (c.last == d.last) = false := by rw [beq_eq_false_iff_ne]; exact h5
      clear h5
      go_wp2_with fail
      go_ret
      exact ⟨false, rfl, by simp [HN.out], hx3⟩
    have H5 := Lib.hid h5
    have e5 : (c.last == d.last) = true := by rw [beq_iff_eq]; exact h5
    clear h5
    have HE := Lib.hid (show c.err = d.err ∧ c.n = d.n ∧ c.dev = d.dev ∧ c.ep = d.ep ∧ c.til = d.til ∧ c.last = d.last from ⟨H0.out, H1.out, H2.out, H3.out, H4.out, H5.out⟩)
    go_wp2_with fail
    refine hS.mono ?_
    rintro e w4 ⟨rfl, hx4⟩
    have hI4 := hI _ hx4
    have hU := fun wz (hz : Ext no w4 wz) => hU wz (hx4.comp hz)
    replace p5 := hx4.keeps p5 (fun h => h)
    replace q5 := hx4.keeps q5 (fun h => h)
    replace p6 := hx4.keeps p6 (fun h => h)
    replace q6 := hx4.keeps q6 (fun h => h)
    go_wp2_with fail
    refine hI4.mono ?_
    rintro e w5 ⟨rfl, hx5⟩
    have hU5 := hU _ hx5
    replace p6 := hx5.keeps p6 (fun h => h)
    replace q6 := hx5.keeps q6 (fun h => h)
    go_wp2_with fail
    refine hU5.mono ?_
    rintro e w6 ⟨rfl, hx6⟩
    go_wp2_with fail
    go_ret
    exact ⟨true, rfl, by simp [HE.out], ((hx3.comp hx4).comp hx5).comp hx6⟩
end Go.Proofs.Ytddobhihjljcgaa

/- Messages held against one another. -/
namespace Go.Proofs.Ytddobhihjljcgaa
open Go.RowKit Go.Esc
set_option linter.unusedVariables false
set_option linter.unusedSimpArgs false
/-- What a message's kind names is the same (kinds and rows are). -/
def sameP (a b : MsgR) : Prop := a.dev = b.dev ∧ (a.kind = 1 → eqC a.cmd b.cmd) ∧ (a.kind = 2 → a.req = b.req ∧ a.pos = b.pos ∧ eqR a.rep b.rep) ∧ (a.kind = 3 → a.ver = b.ver ∧ a.pos = b.pos ∧ a.subs = b.subs) ∧ (a.kind = 4 → a.pos = b.pos ∧ a.nxt = b.nxt) ∧ (a.kind = 5 → a.req = b.req ∧ a.err = b.err)
theorem sameP_self (a : MsgR) : sameP a a := ⟨rfl, fun _ => ⟨rfl, rfl, rfl, rfl, rfl⟩, fun _ => ⟨rfl, rfl, rfl, rfl, rfl, rfl, rfl, rfl⟩, fun _ => ⟨rfl, rfl, rfl⟩, fun _ => ⟨rfl, rfl⟩, fun _ => ⟨rfl, rfl⟩⟩
/-- Two messages of one kind, with the same rows. -/
structure Twin (a b : MsgR) : Prop where
  kd : b.kind = a.kind
  k1 : 1 ≤ a.kind ∧ a.kind ≤ 5
  cw : a.cmd.wants = b.cmd.wants
  co : a.cmd.ops = b.cmd.ops
  rs : a.rep.slices = b.rep.slices
  ri : a.rep.ids = b.rep.ids
  ru : a.rep.used = b.rep.used
  mo : a.ops = b.ops
  sl : a.kind = 3 → a.subs.length = b.subs.length
/-- Rows that are not too long. -/
structure Short (a : MsgR) : Prop where
  cw : a.cmd.wants.length ≤ 1099511627776
  co : a.cmd.ops.length ≤ 1099511627776
  cd : ∀ o ∈ a.cmd.ops, o.dots.length ≤ 1099511627776
  rs : a.rep.slices.length ≤ 1099511627776
  ri : a.rep.ids.length ≤ 1099511627776
  ru : a.rep.used.length ≤ 1099511627776
  mo : a.ops.length ≤ 1099511627776
  md : ∀ o ∈ a.ops, o.dots.length ≤ 1099511627776
  sb : a.subs.length ≤ 1099511627776
theorem nice_short {m : MsgR} (h : m.nice) : Short m where
  cw := by have := h.cmd.wl; omega
  co := by have := h.cmd.ol; omega
  cd := fun o ho => by have := (h.cmd.of o ho).2.2.1; omega
  rs := by have := h.rep.sl; omega
  ri := by have := h.rep.il; omega
  ru := by have := h.rep.ul; omega
  mo := by have := h.ol; omega
  md := fun o ho => by have := (h.of o ho).2.2.1; omega
  sb := by have := h.sb; omega

set_option maxRecDepth 100000 in
set_option maxHeartbeats 4000000 in
theorem wisame_1 (w : World) (a b : MsgR) (h k : MsgA) (ha : a.In w h) (hb : b.In w k) (ht : Twin a b) (hs : Short a) (hk : a.kind = 1) :
    Calls Try.prog 20 #[a.val h, b.val k] w fun e w' => ∃ r, e = .returned (.bool r) ∧ (r = true ↔ sameP a b) ∧ Ext no w w' := by
  have hkb : b.kind = 1 := by rw [ht.kd, hk]
  have hsl := Lib.hid (fun e : a.kind = 3 => ht.sl e)
  have hkk := Lib.hid hk
  go_enter Try.func20, Try.ntmps20
  go_upto_region 0 with fail
  refine wp_region_lit ?_
  refine wp_box_msg rfl rfl (by rfl) (fun hA => ?_)
  simp only [Act.put, List.setIfInBounds_toArray, List.set_cons_zero, List.set_cons_succ]
  have hxa := Ext.alloc no w (.cells (a.cells h).toArray 36)
  obtain ⟨ga, h0⟩ : ∃ g, g = w.heap.size := ⟨_, rfl⟩
  rw [← h0] at hA ⊢
  clear h0
  generalize w.alloc (.cells (a.cells h).toArray 36) = w1 at *
  refine wp_box_msg rfl rfl (by rfl) (fun hB => ?_)
  simp only [Act.put, List.setIfInBounds_toArray, List.set_cons_zero, List.set_cons_succ]
  have hxb := Ext.alloc no w1 (.cells (b.cells k).toArray 36)
  have hA2 := hA.ext (msg_ne _ _) hxb (fun h => h)
  have hx := hxa.comp hxb
  obtain ⟨gb, h0⟩ : ∃ g, g = w1.heap.size := ⟨_, rfl⟩
  rw [← h0] at hB ⊢
  clear h0
  generalize w1.alloc (.cells (b.cells k).toArray 36) = w2 at *
  have ha2 := ha.no hx
  have hb2 := hb.no hx
  clear hA hxa hxb ha hb

  have z0 : w2.cell? ⟨ga, 0, none⟩ = some (.int .i64 1) := by have q := hA2.cell 0 _ rfl; rwa [hk] at q
  have y0 : w2.cell? ⟨gb, 0, none⟩ = some (.int .i64 1) := by have q := hB.cell 0 _ rfl; rwa [hkb] at q
  have z1 : w2.cell? ⟨ga, 1, none⟩ = some (.int .i64 a.dev) := by exact hA2.cell 1 _ rfl
  have z8 : w2.cell? ⟨ga, 8, none⟩ = some (.int .i64 a.cmd.kind) := by exact hA2.cell 8 _ rfl
  have z9 : w2.cell? ⟨ga, 9, none⟩ = some (.int .i64 a.cmd.dev) := by exact hA2.cell 9 _ rfl
  have z10 : w2.cell? ⟨ga, 10, none⟩ = some (.int .i64 a.cmd.ep) := by exact hA2.cell 10 _ rfl
  have z11 : w2.cell? ⟨ga, 11, none⟩ = some (.int .i64 a.cmd.req) := by exact hA2.cell 11 _ rfl
  have z12 : w2.cell? ⟨ga, 12, none⟩ = some (.int .i64 a.cmd.n) := by exact hA2.cell 12 _ rfl
  have z13 : w2.cell? ⟨ga, 13, none⟩ = some (.slice h.c.w a.cmd.wants.length h.c.wc) := by exact hA2.cell 13 _ rfl
  have z14 : w2.cell? ⟨ga, 14, none⟩ = some (.slice h.c.o a.cmd.ops.length h.c.oc) := by exact hA2.cell 14 _ rfl
  have y1 : w2.cell? ⟨gb, 1, none⟩ = some (.int .i64 b.dev) := by exact hB.cell 1 _ rfl
  have y8 : w2.cell? ⟨gb, 8, none⟩ = some (.int .i64 b.cmd.kind) := by exact hB.cell 8 _ rfl
  have y9 : w2.cell? ⟨gb, 9, none⟩ = some (.int .i64 b.cmd.dev) := by exact hB.cell 9 _ rfl
  have y10 : w2.cell? ⟨gb, 10, none⟩ = some (.int .i64 b.cmd.ep) := by exact hB.cell 10 _ rfl
  have y11 : w2.cell? ⟨gb, 11, none⟩ = some (.int .i64 b.cmd.req) := by exact hB.cell 11 _ rfl
  have y12 : w2.cell? ⟨gb, 12, none⟩ = some (.int .i64 b.cmd.n) := by exact hB.cell 12 _ rfl
  have y13 : w2.cell? ⟨gb, 13, none⟩ = some (.slice k.c.w b.cmd.wants.length k.c.wc) := by exact hB.cell 13 _ rfl
  have y14 : w2.cell? ⟨gb, 14, none⟩ = some (.slice k.c.o b.cmd.ops.length k.c.oc) := by exact hB.cell 14 _ rfl
  clear hA2 hB
  by_cases hd : a.dev = b.dev
  rotate_left
  · have HN := Lib.hid (show ¬ sameP a b from fun h => hd h.1)
    have e0 : (a.dev != b.dev) = true := by rw [bne_iff_ne]; exact hd
    have e1 : (a.dev == b.dev) = false := by rw [beq_eq_false_iff_ne]; exact hd
    clear hd hk hkb
    go_wp2_with fail
    go_ret
    exact ⟨false, rfl, by simp [HN.out], hx⟩
  have e0 : (a.dev != b.dev) = false := by rw [bne_eq_false_iff_eq]; exact hd
  have e0' : (a.dev == b.dev) = true := by rw [beq_iff_eq]; exact hd
  have HP := Lib.hid (show sameP a b ↔ eqC a.cmd b.cmd from by simp [sameP, hk, hd])
  clear hd hk hkb
  go_wp2_with fail
  refine (samecmd_any w2 a.cmd b.cmd h.c k.c ha2.c hb2.c ht.cw ht.co hs.cw hs.co hs.cd).mono ?_
  rintro e w3 ⟨r, rfl, hr, hx3⟩
  have HR := Lib.hid hr
  clear hr
  go_wp2_with fail
  go_ret
  exact ⟨r, rfl, HR.out.trans HP.out.symm, hx.comp hx3⟩
set_option maxRecDepth 100000 in
set_option maxHeartbeats 4000000 in
theorem wisame_2 (w : World) (a b : MsgR) (h k : MsgA) (ha : a.In w h) (hb : b.In w k) (ht : Twin a b) (hs : Short a) (hk : a.kind = 2) :
    Calls Try.prog 20 #[a.val h, b.val k] w fun e w' => ∃ r, e = .returned (.bool r) ∧ (r = true ↔ sameP a b) ∧ Ext no w w' := by
  have hkb : b.kind = 2 := by rw [ht.kd, hk]
  have hsl := Lib.hid (fun e : a.kind = 3 => ht.sl e)
  have hkk := Lib.hid hk
  go_enter Try.func20, Try.ntmps20
  go_upto_region 0 with fail
  refine wp_region_lit ?_
  refine wp_box_msg rfl rfl (by rfl) (fun hA => ?_)
  simp only [Act.put, List.setIfInBounds_toArray, List.set_cons_zero, List.set_cons_succ]
  have hxa := Ext.alloc no w (.cells (a.cells h).toArray 36)
  obtain ⟨ga, h0⟩ : ∃ g, g = w.heap.size := ⟨_, rfl⟩
  rw [← h0] at hA ⊢
  clear h0
  generalize w.alloc (.cells (a.cells h).toArray 36) = w1 at *
  refine wp_box_msg rfl rfl (by rfl) (fun hB => ?_)
  simp only [Act.put, List.setIfInBounds_toArray, List.set_cons_zero, List.set_cons_succ]
  have hxb := Ext.alloc no w1 (.cells (b.cells k).toArray 36)
  have hA2 := hA.ext (msg_ne _ _) hxb (fun h => h)
  have hx := hxa.comp hxb
  obtain ⟨gb, h0⟩ : ∃ g, g = w1.heap.size := ⟨_, rfl⟩
  rw [← h0] at hB ⊢
  clear h0
  generalize w1.alloc (.cells (b.cells k).toArray 36) = w2 at *
  have ha2 := ha.no hx
  have hb2 := hb.no hx
  clear hA hxa hxb ha hb

  have z0 : w2.cell? ⟨ga, 0, none⟩ = some (.int .i64 2) := by have q := hA2.cell 0 _ rfl; rwa [hk] at q
  have y0 : w2.cell? ⟨gb, 0, none⟩ = some (.int .i64 2) := by have q := hB.cell 0 _ rfl; rwa [hkb] at q
  have z1 : w2.cell? ⟨ga, 1, none⟩ = some (.int .i64 a.dev) := by exact hA2.cell 1 _ rfl
  have z2 : w2.cell? ⟨ga, 2, none⟩ = some (.int .i64 a.req) := by exact hA2.cell 2 _ rfl
  have z4 : w2.cell? ⟨ga, 4, none⟩ = some (.int .i64 a.pos) := by exact hA2.cell 4 _ rfl
  have z15 : w2.cell? ⟨ga, 15, none⟩ = some (.int .i64 a.rep.err) := by exact hA2.cell 15 _ rfl
  have z16 : w2.cell? ⟨ga, 16, none⟩ = some (.int .i64 a.rep.n) := by exact hA2.cell 16 _ rfl
  have z17 : w2.cell? ⟨ga, 17, none⟩ = some (.int .i64 a.rep.dev) := by exact hA2.cell 17 _ rfl
  have z18 : w2.cell? ⟨ga, 18, none⟩ = some (.int .i64 a.rep.ep) := by exact hA2.cell 18 _ rfl
  have z19 : w2.cell? ⟨ga, 19, none⟩ = some (.int .i64 a.rep.til) := by exact hA2.cell 19 _ rfl
  have z20 : w2.cell? ⟨ga, 20, none⟩ = some (.int .i64 a.rep.last) := by exact hA2.cell 20 _ rfl
  have z21 : w2.cell? ⟨ga, 21, none⟩ = some (.slice h.r.s a.rep.slices.length h.r.sc) := by exact hA2.cell 21 _ rfl
  have z22 : w2.cell? ⟨ga, 22, none⟩ = some (.slice h.r.i a.rep.ids.length h.r.ic) := by exact hA2.cell 22 _ rfl
  have z23 : w2.cell? ⟨ga, 23, none⟩ = some (.slice h.r.u a.rep.used.length h.r.uc) := by exact hA2.cell 23 _ rfl
  have y1 : w2.cell? ⟨gb, 1, none⟩ = some (.int .i64 b.dev) := by exact hB.cell 1 _ rfl
  have y2 : w2.cell? ⟨gb, 2, none⟩ = some (.int .i64 b.req) := by exact hB.cell 2 _ rfl
  have y4 : w2.cell? ⟨gb, 4, none⟩ = some (.int .i64 b.pos) := by exact hB.cell 4 _ rfl
  have y15 : w2.cell? ⟨gb, 15, none⟩ = some (.int .i64 b.rep.err) := by exact hB.cell 15 _ rfl
  have y16 : w2.cell? ⟨gb, 16, none⟩ = some (.int .i64 b.rep.n) := by exact hB.cell 16 _ rfl
  have y17 : w2.cell? ⟨gb, 17, none⟩ = some (.int .i64 b.rep.dev) := by exact hB.cell 17 _ rfl
  have y18 : w2.cell? ⟨gb, 18, none⟩ = some (.int .i64 b.rep.ep) := by exact hB.cell 18 _ rfl
  have y19 : w2.cell? ⟨gb, 19, none⟩ = some (.int .i64 b.rep.til) := by exact hB.cell 19 _ rfl
  have y20 : w2.cell? ⟨gb, 20, none⟩ = some (.int .i64 b.rep.last) := by exact hB.cell 20 _ rfl
  have y21 : w2.cell? ⟨gb, 21, none⟩ = some (.slice k.r.s b.rep.slices.length k.r.sc) := by exact hB.cell 21 _ rfl
  have y22 : w2.cell? ⟨gb, 22, none⟩ = some (.slice k.r.i b.rep.ids.length k.r.ic) := by exact hB.cell 22 _ rfl
  have y23 : w2.cell? ⟨gb, 23, none⟩ = some (.slice k.r.u b.rep.used.length k.r.uc) := by exact hB.cell 23 _ rfl
  clear hA2 hB
  by_cases hd : a.dev = b.dev
  rotate_left
  · have HN := Lib.hid (show ¬ sameP a b from fun h => hd h.1)
    have e0 : (a.dev != b.dev) = true := by rw [bne_iff_ne]; exact hd
    have e1 : (a.dev == b.dev) = false := by rw [beq_eq_false_iff_ne]; exact hd
    clear hd hk hkb
    go_wp2_with fail
    go_ret
    exact ⟨false, rfl, by simp [HN.out], hx⟩
  have e0 : (a.dev != b.dev) = false := by rw [bne_eq_false_iff_eq]; exact hd
  have e0' : (a.dev == b.dev) = true := by rw [beq_iff_eq]; exact hd
  have HP := Lib.hid (show sameP a b ↔ (a.req = b.req ∧ a.pos = b.pos ∧ eqR a.rep b.rep) from by simp [sameP, hk, hd])
  clear hd hk hkb
  by_cases h0 : a.req = b.req
  rotate_left
  · have HN := Lib.hid (show ¬ sameP a b from fun h => h0 (HP.out.1 h).1)
    have f0 : (a.req == b.req) = false := by rw [beq_eq_false_iff_ne]; exact h0
    clear h0
    go_wp2_with fail
    go_ret
    exact ⟨false, rfl, by simp [HN.out], hx⟩
  have H0 := Lib.hid h0
  have f0 : (a.req == b.req) = true := by rw [beq_iff_eq]; exact h0
  clear h0
  by_cases h1 : a.pos = b.pos
  rotate_left
  · have HN := Lib.hid (show ¬ sameP a b from fun h => h1 (HP.out.1 h).2.1)
    have f1 : (a.pos == b.pos) = false := by rw [beq_eq_false_iff_ne]; exact h1
    clear h1
    go_wp2_with fail
    go_ret
    exact ⟨false, rfl, by simp [HN.out], hx⟩
  have H1 := Lib.hid h1
  have f1 : (a.pos == b.pos) = true := by rw [beq_iff_eq]; exact h1
  clear h1
  go_wp2_with fail
  refine (samereply_any w2 a.rep b.rep h.r k.r ha2.r hb2.r ht.rs ht.ri ht.ru hs.rs hs.ri hs.ru).mono ?_
  rintro e w3 ⟨r, rfl, hr, hx3⟩
  have HR := Lib.hid hr
  clear hr
  go_wp2_with fail
  go_ret
  exact ⟨r, rfl, by rw [HP.out, HR.out]; exact ⟨fun h => ⟨H0.out, H1.out, h⟩, fun h => h.2.2⟩, hx.comp hx3⟩
set_option maxRecDepth 100000 in
set_option maxHeartbeats 4000000 in
theorem wisame_3 (w : World) (a b : MsgR) (h k : MsgA) (ha : a.In w h) (hb : b.In w k) (ht : Twin a b) (hs : Short a) (hk : a.kind = 3) :
    Calls Try.prog 20 #[a.val h, b.val k] w fun e w' => ∃ r, e = .returned (.bool r) ∧ (r = true ↔ sameP a b) ∧ Ext no w w' := by
  have hkb : b.kind = 3 := by rw [ht.kd, hk]
  have hsl := Lib.hid (fun e : a.kind = 3 => ht.sl e)
  have hkk := Lib.hid hk
  go_enter Try.func20, Try.ntmps20
  go_upto_region 0 with fail
  refine wp_region_lit ?_
  refine wp_box_msg rfl rfl (by rfl) (fun hA => ?_)
  simp only [Act.put, List.setIfInBounds_toArray, List.set_cons_zero, List.set_cons_succ]
  have hxa := Ext.alloc no w (.cells (a.cells h).toArray 36)
  obtain ⟨ga, h0⟩ : ∃ g, g = w.heap.size := ⟨_, rfl⟩
  rw [← h0] at hA ⊢
  clear h0
  generalize w.alloc (.cells (a.cells h).toArray 36) = w1 at *
  refine wp_box_msg rfl rfl (by rfl) (fun hB => ?_)
  simp only [Act.put, List.setIfInBounds_toArray, List.set_cons_zero, List.set_cons_succ]
  have hxb := Ext.alloc no w1 (.cells (b.cells k).toArray 36)
  have hA2 := hA.ext (msg_ne _ _) hxb (fun h => h)
  have hx := hxa.comp hxb
  obtain ⟨gb, h0⟩ : ∃ g, g = w1.heap.size := ⟨_, rfl⟩
  rw [← h0] at hB ⊢
  clear h0
  generalize w1.alloc (.cells (b.cells k).toArray 36) = w2 at *
  have ha2 := ha.no hx
  have hb2 := hb.no hx
  clear hA hxa hxb ha hb

  have z0 : w2.cell? ⟨ga, 0, none⟩ = some (.int .i64 3) := by have q := hA2.cell 0 _ rfl; rwa [hk] at q
  have y0 : w2.cell? ⟨gb, 0, none⟩ = some (.int .i64 3) := by have q := hB.cell 0 _ rfl; rwa [hkb] at q
  have z1 : w2.cell? ⟨ga, 1, none⟩ = some (.int .i64 a.dev) := by exact hA2.cell 1 _ rfl
  have z3 : w2.cell? ⟨ga, 3, none⟩ = some (.int .i64 a.ver) := by exact hA2.cell 3 _ rfl
  have z4 : w2.cell? ⟨ga, 4, none⟩ = some (.int .i64 a.pos) := by exact hA2.cell 4 _ rfl
  have z6 : w2.cell? ⟨ga, 6, none⟩ = some (.slice h.b a.subs.length h.bc) := by exact hA2.cell 6 _ rfl
  have y1 : w2.cell? ⟨gb, 1, none⟩ = some (.int .i64 b.dev) := by exact hB.cell 1 _ rfl
  have y3 : w2.cell? ⟨gb, 3, none⟩ = some (.int .i64 b.ver) := by exact hB.cell 3 _ rfl
  have y4 : w2.cell? ⟨gb, 4, none⟩ = some (.int .i64 b.pos) := by exact hB.cell 4 _ rfl
  have y6 : w2.cell? ⟨gb, 6, none⟩ = some (.slice k.b b.subs.length k.bc) := by exact hB.cell 6 _ rfl
  clear hA2 hB
  by_cases hd : a.dev = b.dev
  rotate_left
  · have HN := Lib.hid (show ¬ sameP a b from fun h => hd h.1)
    have e0 : (a.dev != b.dev) = true := by rw [bne_iff_ne]; exact hd
    have e1 : (a.dev == b.dev) = false := by rw [beq_eq_false_iff_ne]; exact hd
    clear hd hk hkb
    go_wp2_with fail
    go_ret
    exact ⟨false, rfl, by simp [HN.out], hx⟩
  have e0 : (a.dev != b.dev) = false := by rw [bne_eq_false_iff_eq]; exact hd
  have e0' : (a.dev == b.dev) = true := by rw [beq_iff_eq]; exact hd
  have HP := Lib.hid (show sameP a b ↔ (a.ver = b.ver ∧ a.pos = b.pos ∧ a.subs = b.subs) from by simp [sameP, hk, hd])
  clear hd hk hkb
  by_cases h0 : a.ver = b.ver
  rotate_left
  · have HN := Lib.hid (show ¬ sameP a b from fun h => h0 (HP.out.1 h).1)
    have f0 : (a.ver == b.ver) = false := by rw [beq_eq_false_iff_ne]; exact h0
    clear h0
    go_wp2_with fail
    go_ret
    exact ⟨false, rfl, by simp [HN.out], hx⟩
  have H0 := Lib.hid h0
  have f0 : (a.ver == b.ver) = true := by rw [beq_iff_eq]; exact h0
  clear h0
  by_cases h1 : a.pos = b.pos
  rotate_left
  · have HN := Lib.hid (show ¬ sameP a b from fun h => h1 (HP.out.1 h).2.1)
    have f1 : (a.pos == b.pos) = false := by rw [beq_eq_false_iff_ne]; exact h1
    clear h1
    go_wp2_with fail
    go_ret
    exact ⟨false, rfl, by simp [HN.out], hx⟩
  have H1 := Lib.hid h1
  have f1 : (a.pos == b.pos) = true := by rw [beq_iff_eq]; exact h1
  clear h1
  go_wp2_with fail
  refine (eqbools_any w2 h.b k.b h.bc k.bc a.subs b.subs ha2.b hb2.b (hsl.out hkk.out) hs.sb).mono ?_
  rintro e w3 ⟨r, rfl, hr, hx3⟩
  have HR := Lib.hid hr
  clear hr
  go_wp2_with fail
  go_ret
  exact ⟨r, rfl, by rw [HP.out, HR.out]; exact ⟨fun h => ⟨H0.out, H1.out, h⟩, fun h => h.2.2⟩, hx.comp hx3⟩
set_option maxRecDepth 100000 in
set_option maxHeartbeats 4000000 in
theorem wisame_4 (w : World) (a b : MsgR) (h k : MsgA) (ha : a.In w h) (hb : b.In w k) (ht : Twin a b) (hs : Short a) (hk : a.kind = 4) :
    Calls Try.prog 20 #[a.val h, b.val k] w fun e w' => ∃ r, e = .returned (.bool r) ∧ (r = true ↔ sameP a b) ∧ Ext no w w' := by
  have hkb : b.kind = 4 := by rw [ht.kd, hk]
  have hsl := Lib.hid (fun e : a.kind = 3 => ht.sl e)
  have hkk := Lib.hid hk
  go_enter Try.func20, Try.ntmps20
  go_upto_region 0 with fail
  refine wp_region_lit ?_
  refine wp_box_msg rfl rfl (by rfl) (fun hA => ?_)
  simp only [Act.put, List.setIfInBounds_toArray, List.set_cons_zero, List.set_cons_succ]
  have hxa := Ext.alloc no w (.cells (a.cells h).toArray 36)
  obtain ⟨ga, h0⟩ : ∃ g, g = w.heap.size := ⟨_, rfl⟩
  rw [← h0] at hA ⊢
  clear h0
  generalize w.alloc (.cells (a.cells h).toArray 36) = w1 at *
  refine wp_box_msg rfl rfl (by rfl) (fun hB => ?_)
  simp only [Act.put, List.setIfInBounds_toArray, List.set_cons_zero, List.set_cons_succ]
  have hxb := Ext.alloc no w1 (.cells (b.cells k).toArray 36)
  have hA2 := hA.ext (msg_ne _ _) hxb (fun h => h)
  have hx := hxa.comp hxb
  obtain ⟨gb, h0⟩ : ∃ g, g = w1.heap.size := ⟨_, rfl⟩
  rw [← h0] at hB ⊢
  clear h0
  generalize w1.alloc (.cells (b.cells k).toArray 36) = w2 at *
  have ha2 := ha.no hx
  have hb2 := hb.no hx
  clear hA hxa hxb ha hb

  have z0 : w2.cell? ⟨ga, 0, none⟩ = some (.int .i64 4) := by have q := hA2.cell 0 _ rfl; rwa [hk] at q
  have y0 : w2.cell? ⟨gb, 0, none⟩ = some (.int .i64 4) := by have q := hB.cell 0 _ rfl; rwa [hkb] at q
  have z1 : w2.cell? ⟨ga, 1, none⟩ = some (.int .i64 a.dev) := by exact hA2.cell 1 _ rfl
  have z4 : w2.cell? ⟨ga, 4, none⟩ = some (.int .i64 a.pos) := by exact hA2.cell 4 _ rfl
  have z5 : w2.cell? ⟨ga, 5, none⟩ = some (.int .i64 a.nxt) := by exact hA2.cell 5 _ rfl
  have z24 : w2.cell? ⟨ga, 24, none⟩ = some (.slice h.o a.ops.length h.oc) := by exact hA2.cell 24 _ rfl
  have y1 : w2.cell? ⟨gb, 1, none⟩ = some (.int .i64 b.dev) := by exact hB.cell 1 _ rfl
  have y4 : w2.cell? ⟨gb, 4, none⟩ = some (.int .i64 b.pos) := by exact hB.cell 4 _ rfl
  have y5 : w2.cell? ⟨gb, 5, none⟩ = some (.int .i64 b.nxt) := by exact hB.cell 5 _ rfl
  have y24 : w2.cell? ⟨gb, 24, none⟩ = some (.slice k.o b.ops.length k.oc) := by exact hB.cell 24 _ rfl
  clear hA2 hB
  by_cases hd : a.dev = b.dev
  rotate_left
  · have HN := Lib.hid (show ¬ sameP a b from fun h => hd h.1)
    have e0 : (a.dev != b.dev) = true := by rw [bne_iff_ne]; exact hd
    have e1 : (a.dev == b.dev) = false := by rw [beq_eq_false_iff_ne]; exact hd
    clear hd hk hkb
    go_wp2_with fail
    go_ret
    exact ⟨false, rfl, by simp [HN.out], hx⟩
  have e0 : (a.dev != b.dev) = false := by rw [bne_eq_false_iff_eq]; exact hd
  have e0' : (a.dev == b.dev) = true := by rw [beq_iff_eq]; exact hd
  have HP := Lib.hid (show sameP a b ↔ (a.pos = b.pos ∧ a.nxt = b.nxt) from by simp [sameP, hk, hd])
  clear hd hk hkb
  by_cases h0 : a.pos = b.pos
  rotate_left
  · have HN := Lib.hid (show ¬ sameP a b from fun h => h0 (HP.out.1 h).1)
    have f0 : (a.pos == b.pos) = false := by rw [beq_eq_false_iff_ne]; exact h0
    clear h0
    go_wp2_with fail
    go_ret
    exact ⟨false, rfl, by simp [HN.out], hx⟩
  have H0 := Lib.hid h0
  have f0 : (a.pos == b.pos) = true := by rw [beq_iff_eq]; exact h0
  clear h0
  by_cases h1 : a.nxt = b.nxt
  rotate_left
  · have HN := Lib.hid (show ¬ sameP a b from fun h => h1 (HP.out.1 h).2)
    have f1 : (a.nxt == b.nxt) = false := by rw [beq_eq_false_iff_ne]; exact h1
    clear h1
    go_wp2_with fail
    go_ret
    exact ⟨false, rfl, by simp [HN.out], hx⟩
  have H1 := Lib.hid h1
  have f1 : (a.nxt == b.nxt) = true := by rw [beq_iff_eq]; exact h1
  clear h1
  have hq := eqops_any w2 h.o k.o h.oc k.oc a.ops ha2.o (by have := hb2.o; rwa [← ht.mo] at this) hs.mo hs.md
  rw [show b.ops.length = a.ops.length by rw [ht.mo]] at y24
  go_wp2_with fail
  refine hq.mono ?_
  rintro e w3 ⟨rfl, hx3⟩
  go_wp2_with fail
  go_ret
  exact ⟨true, rfl, by simp [HP.out, H0.out, H1.out], hx.comp hx3⟩
set_option maxRecDepth 100000 in
set_option maxHeartbeats 4000000 in
theorem wisame_5 (w : World) (a b : MsgR) (h k : MsgA) (ha : a.In w h) (hb : b.In w k) (ht : Twin a b) (hs : Short a) (hk : a.kind = 5) :
    Calls Try.prog 20 #[a.val h, b.val k] w fun e w' => ∃ r, e = .returned (.bool r) ∧ (r = true ↔ sameP a b) ∧ Ext no w w' := by
  have hkb : b.kind = 5 := by rw [ht.kd, hk]
  have hsl := Lib.hid (fun e : a.kind = 3 => ht.sl e)
  have hkk := Lib.hid hk
  go_enter Try.func20, Try.ntmps20
  go_upto_region 0 with fail
  refine wp_region_lit ?_
  refine wp_box_msg rfl rfl (by rfl) (fun hA => ?_)
  simp only [Act.put, List.setIfInBounds_toArray, List.set_cons_zero, List.set_cons_succ]
  have hxa := Ext.alloc no w (.cells (a.cells h).toArray 36)
  obtain ⟨ga, h0⟩ : ∃ g, g = w.heap.size := ⟨_, rfl⟩
  rw [← h0] at hA ⊢
  clear h0
  generalize w.alloc (.cells (a.cells h).toArray 36) = w1 at *
  refine wp_box_msg rfl rfl (by rfl) (fun hB => ?_)
  simp only [Act.put, List.setIfInBounds_toArray, List.set_cons_zero, List.set_cons_succ]
  have hxb := Ext.alloc no w1 (.cells (b.cells k).toArray 36)
  have hA2 := hA.ext (msg_ne _ _) hxb (fun h => h)
  have hx := hxa.comp hxb
  obtain ⟨gb, h0⟩ : ∃ g, g = w1.heap.size := ⟨_, rfl⟩
  rw [← h0] at hB ⊢
  clear h0
  generalize w1.alloc (.cells (b.cells k).toArray 36) = w2 at *
  have ha2 := ha.no hx
  have hb2 := hb.no hx
  clear hA hxa hxb ha hb

  have z0 : w2.cell? ⟨ga, 0, none⟩ = some (.int .i64 5) := by have q := hA2.cell 0 _ rfl; rwa [hk] at q
  have y0 : w2.cell? ⟨gb, 0, none⟩ = some (.int .i64 5) := by have q := hB.cell 0 _ rfl; rwa [hkb] at q
  have z1 : w2.cell? ⟨ga, 1, none⟩ = some (.int .i64 a.dev) := by exact hA2.cell 1 _ rfl
  have z2 : w2.cell? ⟨ga, 2, none⟩ = some (.int .i64 a.req) := by exact hA2.cell 2 _ rfl
  have z7 : w2.cell? ⟨ga, 7, none⟩ = some (.int .i64 a.err) := by exact hA2.cell 7 _ rfl
  have y1 : w2.cell? ⟨gb, 1, none⟩ = some (.int .i64 b.dev) := by exact hB.cell 1 _ rfl
  have y2 : w2.cell? ⟨gb, 2, none⟩ = some (.int .i64 b.req) := by exact hB.cell 2 _ rfl
  have y7 : w2.cell? ⟨gb, 7, none⟩ = some (.int .i64 b.err) := by exact hB.cell 7 _ rfl
  clear hA2 hB
  by_cases hd : a.dev = b.dev
  rotate_left
  · have HN := Lib.hid (show ¬ sameP a b from fun h => hd h.1)
    have e0 : (a.dev != b.dev) = true := by rw [bne_iff_ne]; exact hd
    have e1 : (a.dev == b.dev) = false := by rw [beq_eq_false_iff_ne]; exact hd
    clear hd hk hkb
    go_wp2_with fail
    go_ret
    exact ⟨false, rfl, by simp [HN.out], hx⟩
  have e0 : (a.dev != b.dev) = false := by rw [bne_eq_false_iff_eq]; exact hd
  have e0' : (a.dev == b.dev) = true := by rw [beq_iff_eq]; exact hd
  have HP := Lib.hid (show sameP a b ↔ (a.req = b.req ∧ a.err = b.err) from by simp [sameP, hk, hd])
  clear hd hk hkb
  by_cases h0 : a.req = b.req
  rotate_left
  · have HN := Lib.hid (show ¬ sameP a b from fun h => h0 (HP.out.1 h).1)
    have f0 : (a.req == b.req) = false := by rw [beq_eq_false_iff_ne]; exact h0
    clear h0
    go_wp2_with fail
    go_ret
    exact ⟨false, rfl, by simp [HN.out], hx⟩
  have H0 := Lib.hid h0
  have f0 : (a.req == b.req) = true := by rw [beq_iff_eq]; exact h0
  clear h0
  by_cases h1 : a.err = b.err
  rotate_left
  · have HN := Lib.hid (show ¬ sameP a b from fun h => h1 (HP.out.1 h).2)
    have f1 : (a.err == b.err) = false := by rw [beq_eq_false_iff_ne]; exact h1
    clear h1
    go_wp2_with fail
    go_ret
    exact ⟨false, rfl, by simp [HN.out], hx⟩
  have H1 := Lib.hid h1
  have f1 : (a.err == b.err) = true := by rw [beq_iff_eq]; exact h1
  clear h1
  go_wp2_with fail
  go_ret
  exact ⟨true, rfl, by simp [HP.out, H0.out, H1.out], hx⟩
theorem wisame_any (w : World) (a b : MsgR) (h k : MsgA) (ha : a.In w h) (hb : b.In w k) (ht : Twin a b) (hs : Short a) :
    Calls Try.prog 20 #[a.val h, b.val k] w fun e w' => ∃ r, e = .returned (.bool r) ∧ (r = true ↔ sameP a b) ∧ Ext no w w' := by
  have h1 := ht.k1
  by_cases h2 : a.kind = 1
  · exact wisame_1 w a b h k ha hb ht hs h2
  by_cases h3 : a.kind = 2
  · exact wisame_2 w a b h k ha hb ht hs h3
  by_cases h4 : a.kind = 3
  · exact wisame_3 w a b h k ha hb ht hs h4
  by_cases h5 : a.kind = 4
  · exact wisame_4 w a b h k ha hb ht hs h5
  exact wisame_5 w a b h k ha hb ht hs (by omega)
end Go.Proofs.Ytddobhihjljcgaa
