/- Acts of a script, as an argument holds them; few. -/
import Derived.Test.YtpljcnjkdjblmaaKvO
namespace Go.Esc
open Go.RowKit
/-- An act; its batch's slice. -/
structure ActR where
  kind : Int
  n : Int
  l : List ChangeR
  a : Option Addr
  c : Nat
def ActR.cells (x : ActR) : List Value := [.int .i64 x.kind, .int .i64 x.n, .slice x.a x.l.length x.c]
theorem kAct (x : ActR) : (ActR.cells x).length = 3 := rfl
structure ActR.good (x : ActR) (w : World) : Prop where
  kind : I64ok x.kind
  n : I64ok x.n
  rd : Rd w x.a (rows ChangeR.cells x.l)
  ok : ∀ c ∈ x.l, c.ok
  len : x.l.length ≤ x.c
  cap : x.c ≤ maxLen
def fewAct (x : ActR) : Prop := x.l.length ≤ 25 ∧ ∀ c ∈ x.l, c.key.length ≤ 60 ∧ c.val.length ≤ 60
def fewActs (l : List ActR) : Prop := l.length ≤ 60 ∧ ∀ x ∈ l, fewAct x
end Go.Esc
namespace Go.Proofs.Ytpljcnjkdjblmaa
open Go.RowKit Go.Esc Go.ChangeShapes Go.WideShapes Go.ChangeAt
set_option linter.unusedVariables false
set_option linter.unusedSimpArgs false
theorem trod_changes {H : Type} {enc : TypeId × Value → H} {W : World} {fuel : Nat} {cs : List Value} {x : DataW H × List MemPlace}
    (hf : DataW.trod enc Try.prog W 0 (fun _ => true) true fuel 36 cs = some x) : ∃ (a : Option Addr) (l : List ChangeR) (c : Nat), cs = [.slice a l.length c] ∧ Rd W a (rows ChangeR.cells l) ∧ (∀ d ∈ l, d.ok) ∧ l.length ≤ c ∧ c ≤ maxLen :=
  trod_rows Try.underlying36 (by kernel_rfl : Try.prog.cellsOf 39 = 4) kChange (fun _ _ _ h => trod_change h) hf
set_option maxRecDepth 100000 in
theorem open_acts {H : Type} {enc : TypeId × Value → H} {W : World} {v : Value} {d : DataW H} {p : List MemPlace} {base : Nat}
    (hv : Value.okWide Try.prog W .any base 54 v) (h : DataW.Trod enc Try.prog W 0 (fun _ => true) true 54 v d p) :
    ∃ (a : Option Addr) (l : List ActR) (c : Nat), v = .slice a l.length c ∧ Rd W a (rows ActR.cells l) ∧ (∀ x ∈ l, x.good W) ∧ l.length ≤ c ∧ c ≤ maxLen := by
  refine open_rows_of Try.underlying54 (by kernel_rfl : Try.prog.cellsOf 57 = 3) kAct ?_ hv h
  intro fuel cs x hf
  have hl := trod_cells Try.underlying57 hf
  rw [show Try.prog.cellsOf 57 = 3 by kernel_rfl] at hl
  obtain ⟨v0, v1, v2, rfl⟩ : ∃ v0 v1 v2, cs = [v0, v1, v2] := by
    match cs, hl with
    | [v0, v1, v2], _ => exact ⟨v0, v1, v2, rfl⟩
  obtain ⟨m0, y0, g0⟩ := trod_field Try.underlying57 hf 0 3 0 1 rfl rfl rfl (by kernel_rfl)
  obtain ⟨m1, y1, g1⟩ := trod_field Try.underlying57 hf 1 3 1 1 rfl rfl rfl (by kernel_rfl)
  obtain ⟨m2, y2, g2⟩ := trod_field Try.underlying57 hf 2 36 2 1 rfl rfl rfl (by kernel_rfl)
  obtain ⟨n0, e0, k0⟩ := trod_num Try.underlying3 g0
  obtain ⟨n1, e1, k1⟩ := trod_num Try.underlying3 g1
  obtain ⟨a, l, c, e2, r2, o2, c2, q2⟩ := trod_changes g2
  simp at e0 e1 e2
  subst e0 e1 e2
  exact ⟨⟨n0, n1, l, a, c⟩, rfl, k0, k1, r2, o2, c2, q2⟩

set_option maxRecDepth 100000 in
set_option maxHeartbeats 8000000 in
theorem kvfew_any (w : World) (la : Option Addr) (l : List ActR) (lc : Nat) (hr : Rd w la (rows ActR.cells l)) (hg : ∀ x ∈ l, x.good w) (hlc : l.length ≤ lc) (hcm : lc ≤ maxLen) :
    Calls Try.prog 23 #[.slice la l.length lc] w fun e w' => ∃ r, e = .returned (.bool r) ∧ (r = true → fewActs l) ∧ w = w' := by
  have HG := Lib.hid hg
  unfold maxLen at hcm
  clear hg
  go_enter Try.func23, Try.ntmps23
  go_wp2_with fail
  go_loopw [3] (fun s3 wr => ∃ i : Nat, s3 = .int .i64 i ∧ i ≤ l.length ∧ (∀ x ∈ l.take i, fewAct x) ∧ w = wr) (fun s3 _ => l.length - (intOf s3).toNat)
  case atStart => exact ⟨0, rfl, Nat.zero_le _, (fun x hx => by simp at hx), rfl⟩
  case round =>
    obtain ⟨i, rfl, hil, hfw, rfl⟩ := hrel
    have HFw := Lib.hid hfw
    clear hfw
    by_cases hin : i < l.length
    · have d1 : decide (i < l.length) = true := decT hin
      obtain ⟨x, hx⟩ : ∃ x, l[i]? = some x := ⟨_, List.getElem?_eq_getElem hin⟩
      have hxg := HG.out x (List.mem_of_getElem? hx)
      have htk : l.take (i + 1) = l.take i ++ [x] := by rw [List.take_succ_eq_append_getElem hin, (List.getElem?_eq_some_iff.1 hx).2]
      have HTk := Lib.hid htk
      obtain ⟨ob, off, hsa, _⟩ := rows_shape kAct (by omega) hr (by omega)
      subst hsa
      have y2 : w.cell? ⟨ob, off + i * 3 + 2, none⟩ = some (.slice x.a x.l.length x.c) := rows_cell kAct hr hx 2 _ rfl
      have hcap := hxg.cap
      have hxl := hxg.len
      have hxr := hxg.rd
      have hxo := hxg.ok
      have HXo := Lib.hid hxo
      unfold maxLen at hcap
      obtain ⟨kind, n, k, a, c⟩ := x
      simp only at y2 hcap hxl hxr HXo
      clear hx hxg htk hxo
      by_cases h25 : 25 < k.length
      · have d2 : decide ((25 : Int) < (k.length : Int)) = true := decT (by omega)
        have d2' : decide (25 < k.length) = true := decT h25
        go_wp2_with fail
        go_ret
        exact ⟨false, rfl, (fun h => by cases h), rfl⟩
      have d2 : decide ((25 : Int) < (k.length : Int)) = false := decF (by omega)
      have d2' : decide (25 < k.length) = false := decF h25
      go_wp2_with fail
      go_loopw [4] (fun s4 wr => ∃ t : Nat, s4 = .int .i64 t ∧ t ≤ k.length ∧ (∀ x ∈ k.take t, x.key.length ≤ 60 ∧ x.val.length ≤ 60) ∧ w = wr) (fun s4 _ => k.length - (intOf s4).toNat)
      case atStart => exact ⟨0, rfl, Nat.zero_le _, (fun x hx => by simp at hx), rfl⟩
      case round =>
        obtain ⟨t, rfl, htl, hfk, rfl⟩ := hrel
        have HFk := Lib.hid hfk
        clear hfk
        by_cases htn : t < k.length
        · have d3 : decide (t < k.length) = true := decT htn
          obtain ⟨y, hy⟩ : ∃ y, k[t]? = some y := ⟨_, List.getElem?_eq_getElem htn⟩
          have hyo := HXo.out y (List.mem_of_getElem? hy)
          have hyk := hyo.key
          have hyv := hyo.val
          have htk2 : k.take (t + 1) = k.take t ++ [y] := by rw [List.take_succ_eq_append_getElem htn, (List.getElem?_eq_some_iff.1 hy).2]
          have HTk2 := Lib.hid htk2
          obtain ⟨oc, of2, hsc, _⟩ := rows_shape kChange (by omega) hxr (by omega)
          subst hsc
          have z1 : w.cell? ⟨oc, of2 + t * 4 + 1, none⟩ = some (.string (str y.key)) := rows_cell kChange hxr hy 1 _ rfl
          have z2 : w.cell? ⟨oc, of2 + t * 4 + 2, none⟩ = some (.string (str y.val)) := rows_cell kChange hxr hy 2 _ rfl
          unfold maxLen at hyk hyv
          clear hy hyo htk2
          by_cases k1 : 60 < y.key.length
          · have d4 : decide ((60 : Int) < ((str y.key).size : Int)) = true := decT (by rw [str_size]; omega)
            have d4' : decide (60 < (str y.key).size) = true := decT (by rw [str_size]; omega)
            go_wp2_with fail
            go_ret
            exact ⟨false, rfl, (fun h => by cases h), rfl⟩
          have d4 : decide ((60 : Int) < ((str y.key).size : Int)) = false := decF (by rw [str_size]; omega)
          have d4' : decide (60 < (str y.key).size) = false := decF (by rw [str_size]; omega)
          by_cases k2 : 60 < y.val.length
          · have d5 : decide ((60 : Int) < ((str y.val).size : Int)) = true := decT (by rw [str_size]; omega)
            have d5' : decide (60 < (str y.val).size) = true := decT (by rw [str_size]; omega)
            go_wp2_with fail
            go_ret
            exact ⟨false, rfl, (fun h => by cases h), rfl⟩
          have d5 : decide ((60 : Int) < ((str y.val).size : Int)) = false := decF (by rw [str_size]; omega)
          have d5' : decide (60 < (str y.val).size) = false := decF (by rw [str_size]; omega)
          have HN := Lib.hid (show ∀ x ∈ k.take (t + 1), x.key.length ≤ 60 ∧ x.val.length ≤ 60 from fun x hx => by
            rw [HTk2.out] at hx
            rcases List.mem_append.1 hx with hx | hx
            · exact HFk.out x hx
            · rw [List.mem_singleton] at hx; rw [hx]; exact ⟨by omega, by omega⟩)
          go_wp2_with fail
          go_roundw
          case rel => exact ⟨t + 1, by go_num, by omega, HN.out, trivial⟩
          case measure => simp [intOf]; omega
        · have d3 : decide (t < k.length) = false := decF htn
          have HN := Lib.hid (show ∀ x ∈ l.take (i + 1), fewAct x from fun x hx => by
            rw [HTk.out] at hx
            rcases List.mem_append.1 hx with hx | hx
            · exact HFw.out x hx
            · rw [List.mem_singleton] at hx
              rw [hx]
              have h1 := HFk.out
              rw [List.take_of_length_le (by omega)] at h1
              exact ⟨by show k.length ≤ 25; omega, h1⟩)
          go_wp2_with fail
          go_roundw
          case rel => exact ⟨i + 1, by go_num, by omega, HN.out, trivial⟩
          case measure => simp [intOf]; omega
    · have d1 : decide (i < l.length) = false := decF hin
      have HN := Lib.hid (show ∀ x ∈ l, fewAct x by
        have h1 := HFw.out
        rw [List.take_of_length_le (by omega)] at h1
        exact h1)
      go_wp2_with fail
      go_ret
      exact ⟨_, rfl, fun h => ⟨by have h1 := of_decide_eq_true h; omega, HN.out⟩, rfl⟩
end Go.Proofs.Ytpljcnjkdjblmaa
