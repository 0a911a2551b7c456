/- Rows of operations in memory; few, Row. -/
import Derived.Test.YtejmmkjpncpedaaGreatCoL
import Derived.Test.YtejmmkjpncpedaaGreatOpE
namespace Go.Esc
open Go.RowKit
/-- An operation, and where its dots lie. -/
structure OpW where
  o : OpR
  a : Option Addr
  c : Nat
def OpW.cells (x : OpW) : List Value := x.o.cells x.a x.c
structure OpW.good (x : OpW) (w : World) : Prop where
  ok : x.o.ok
  rd : Rd w x.a (ds x.o.dots)
  lc : x.o.dots.length ≤ x.c
  cm : x.c ≤ maxLen
theorem kOp (x : OpW) : (OpW.cells x).length = 11 := rfl
theorem Rd.none0 (w : World) (a : Option Addr) : Rd w a [] := fun j v h => by simp at h
theorem Rd.lt {w : World} {a : Option Addr} {cs : List Value} (h : Rd w a cs) (hn : cs ≠ []) : ∃ ad, a = some ad ∧ ad.block < w.heap.size := by
  cases cs with
  | nil => exact absurd rfl hn
  | cons v vs =>
    obtain ⟨ad, ha, hlt⟩ := Rd.ne h (by simp)
    exact ⟨ad, ha, hlt⟩
theorem Rd.extN {S : Nat → Prop} {w w' : World} {a : Option Addr} {cs : List Value} (h : Rd w a cs) (hx : Ext S w w') (hS : cs ≠ [] → ∀ ad, a = some ad → ¬ S ad.block) : Rd w' a cs := by
  by_cases hn : cs = []
  · subst hn; exact Rd.none0 _ _
  · exact h.ext hx (hS hn)
theorem OpW.good.no {x : OpW} {w w' : World} (h : x.good w) (hx : Ext no w w') : x.good w' := ⟨h.ok, h.rd.ext hx (fun _ _ h => h), h.lc, h.cm⟩
theorem ds_nil {l : List DotR} (h : ds l ≠ []) : l ≠ [] := fun e => h (by rw [e]; rfl)
end Go.Esc
namespace Go.Proofs.YtejmmkjpncpedaaGreat
open Go.RowKit Go.Esc
set_option linter.unusedVariables false
set_option linter.unusedSimpArgs false
set_option maxRecDepth 100000 in
set_option maxHeartbeats 2000000 in
theorem cofew_any (w : World) (a : Option Addr) (l : List OpW) (c : Nat) (hr : Rd w a (rows OpW.cells l)) (hg : ∀ x ∈ l, x.good w) (hlc : l.length ≤ c) (hcm : c ≤ maxLen) :
    Calls Tryz.prog 5 #[.slice a l.length c] w fun e w' => e = .returned (.bool (l.all (fun x => fewB x.o) && decide (l.length ≤ 60))) ∧ Ext no w w' := by
  unfold maxLen at hcm
  obtain ⟨F, hF⟩ : ∃ F, F = (l.all (fun x => fewB x.o) && decide (l.length ≤ 60)) := ⟨_, rfl⟩
  rw [← hF]
  have HF := Lib.hid hF
  have Hg := Lib.hid hg
  clear hF hg
  go_enter Tryz.func5, Tryz.ntmps5
  go_wp2_with fail
  go_loopw [3] (fun s3 wr => ∃ i : Nat, s3 = .int .i64 i ∧ i ≤ l.length ∧ (l.take i).all (fun x => fewB x.o) = true ∧ Ext no w wr) (fun s3 _ => l.length - (intOf s3).toNat)
  case atStart => exact ⟨0, rfl, Nat.zero_le _, rfl, Ext.refl _ _⟩
  case round =>
    obtain ⟨i, rfl, hil, hall, hx⟩ := hrel
    have Hall := Lib.hid hall
    clear hall
    by_cases hin : i < l.length
    · have d1 : decide (i < l.length) = true := decT hin
      obtain ⟨x, hxm⟩ : ∃ x, l[i]? = some x := ⟨_, List.getElem?_eq_getElem hin⟩
      have hgx := Hg.out x (List.mem_of_getElem? hxm)
      obtain ⟨b, off, rfl, _⟩ := rows_shape kOp (by omega) hr (by omega)
      have hrr := hr.ext hx (fun _ _ h => h)
      have q0 : wr.cell? ⟨b, off + i * 11, none⟩ = some (.int .i64 (x.o.dot.dev)) := rows_cell kOp hrr hxm 0 _ rfl
      have q1 : wr.cell? ⟨b, off + i * 11 + 1, none⟩ = some (.int .i64 (x.o.dot.ep)) := rows_cell kOp hrr hxm 1 _ rfl
      have q2 : wr.cell? ⟨b, off + i * 11 + 2, none⟩ = some (.int .i64 (x.o.dot.seq)) := rows_cell kOp hrr hxm 2 _ rfl
      have q3 : wr.cell? ⟨b, off + i * 11 + 3, none⟩ = some (.int .i64 (x.o.coll)) := rows_cell kOp hrr hxm 3 _ rfl
      have q4 : wr.cell? ⟨b, off + i * 11 + 4, none⟩ = some (.int .i64 (x.o.ver)) := rows_cell kOp hrr hxm 4 _ rfl
      have q5 : wr.cell? ⟨b, off + i * 11 + 5, none⟩ = some (.int .i64 (x.o.kind)) := rows_cell kOp hrr hxm 5 _ rfl
      have q6 : wr.cell? ⟨b, off + i * 11 + 6, none⟩ = some (.string (str (x.o.key))) := rows_cell kOp hrr hxm 6 _ rfl
      have q7 : wr.cell? ⟨b, off + i * 11 + 7, none⟩ = some (.string (str (x.o.text))) := rows_cell kOp hrr hxm 7 _ rfl
      have q8 : wr.cell? ⟨b, off + i * 11 + 8, none⟩ = some (.int .i64 (x.o.n)) := rows_cell kOp hrr hxm 8 _ rfl
      have q9 : wr.cell? ⟨b, off + i * 11 + 9, none⟩ = some (.int .i64 (x.o.time)) := rows_cell kOp hrr hxm 9 _ rfl
      have q10 : wr.cell? ⟨b, off + i * 11 + 10, none⟩ = some (.slice x.a x.o.dots.length x.c) := rows_cell kOp hrr hxm 10 _ rfl
      have hok := hgx.ok
      have hfd := hgx.lc
      have hfc := hgx.cm
      unfold maxLen at hfc
      have hkk := hok.key
      have hkt := hok.text
      go_wp2_with fail
      refine (few_any wr x.o x.a x.c (by unfold maxLen; omega) hkk hkt).mono ?_
      rintro e w1 ⟨rfl, hx1⟩
      have hxt : l.take (i + 1) = l.take i ++ [x] := by
        rw [List.take_succ_eq_append_getElem hin, (List.getElem?_eq_some_iff.1 hxm).2]
      clear q0 q1 q2 q3 q4 q5 q6 q7 q8 q9 q10 hrr hgx hok hfd hfc hkk hkt
      cases hfb : fewB x.o with
      | true =>
        have Ht := Lib.hid (show (l.take (i + 1)).all (fun x => fewB x.o) = true by rw [hxt, List.all_append, Hall.out]; simp [hfb])
        clear hxt
        go_wp2_with fail
        go_roundw
        case rel => exact ⟨i + 1, by go_num, by omega, Ht.out, hx.comp hx1⟩
        case measure => simp [intOf]; omega
      | false =>
        have Hf := Lib.hid (show F = false by
          rw [HF.out]
          have : l.all (fun x => fewB x.o) = false := by
            rw [List.all_eq_false]
            exact ⟨x, List.mem_of_getElem? hxm, by simp [hfb]⟩
          rw [this]; rfl)
        clear hxt
        go_wp2_with fail
        go_ret
        exact ⟨by rw [Hf.out]; rfl, hx.comp hx1⟩
    · obtain rfl : i = l.length := by omega
      have d1 : decide (l.length < l.length) = false := decF (by omega)
      rw [List.take_length] at Hall
      have Hf := Lib.hid (show F = decide (l.length ≤ 60) by rw [HF.out, Hall.out]; rfl)
      by_cases h60 : l.length ≤ 60
      · have d6 : decide ((l.length : Int) ≤ 60) = true := decT (by omega)
        have Hf' := Lib.hid (show F = true by rw [Hf.out]; exact decT h60)
        clear Hf
        go_wp2_with fail
        go_ret
        exact ⟨by rw [Hf'.out]; rfl, hx⟩
      · have d6 : decide ((l.length : Int) ≤ 60) = false := decF (by omega)
        have Hf' := Lib.hid (show F = false by rw [Hf.out]; exact decF h60)
        clear Hf
        go_wp2_with fail
        go_ret
        exact ⟨by rw [Hf'.out]; rfl, hx⟩
end Go.Proofs.YtejmmkjpncpedaaGreat
