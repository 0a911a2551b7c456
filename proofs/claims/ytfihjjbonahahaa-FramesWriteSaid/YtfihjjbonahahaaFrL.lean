/- The laws of chapter 2: what they share. -/
import Derived.Test.YtfihjjbonahahaaFrF
import Derived.Lib.SlBytesConst
namespace Go.Proofs.Ytfihjjbonahahaa
open Go.RowKit Go.Esc

set_option maxHeartbeats 400000 in
theorem within_any (a n : Int) (w : World) (h1 : 0 < n) (h2 : n ≤ 4611686018427387904) (h3 : I64ok a) :
    Calls Try.prog 18 #[.int .i64 a, .int .i64 n] w fun e w' => e = .returned (.int .i64 (a % n)) ∧ w = w' := by
  obtain ⟨h3, h4⟩ := h3
  have hb := Int.tmod_lt_of_pos a h1
  have hb' : -n ≤ a.tmod n := by
    have := tmod_pos a n h1
    have e1 := Int.emod_nonneg a (show n ≠ 0 by omega)
    have e2 := Int.emod_lt_of_pos a h1
    generalize a % n = q at *
    split at this <;> omega
  have he := tmod_pos a n h1
  have He := Lib.hid he
  clear he
  by_cases hn : a.tmod n < 0
  · go_enter Try.func18, Try.ntmps18
    go_wp2
    go_ret
    exact ⟨by rw [He.out, if_pos (by omega)]; rfl, rfl⟩
  · go_enter Try.func18, Try.ntmps18
    go_wp2
    go_ret
    exact ⟨by rw [He.out, if_neg (by omega)]; rfl, rfl⟩


theorem fcrc_at (w : World) (a : Option Addr) (m c : Nat) (l : List UInt8) (hm : m = l.length) (hrd : Rd w a (bs l)) (hl : l.length ≤ 1099511627776) :
    Calls Try.prog 33 #[.slice a m c] w fun e w' => e = .returned (.int .u32 (crc l)) ∧ w = w' := by
  subst hm; exact fcrc_any w a c l hrd hl

set_option maxHeartbeats 400000 in
theorem known_any (w : World) : Calls Try.prog 15 #[] w fun e w' => e = .returned (.bool true) ∧ Ext no w w' := by
  have hrd := Rd.lit w #[.int .u8 49, .int .u8 50, .int .u8 51, .int .u8 52, .int .u8 53, .int .u8 54, .int .u8 55, .int .u8 56, .int .u8 57] 5 (9, 10)
  have hcrc : crc [49, 50, 51, 52, 53, 54, 55, 56, 57] = 3421780262 := by decide +kernel
  have hbs : (#[Value.int .u8 49, .int .u8 50, .int .u8 51, .int .u8 52, .int .u8 53, .int .u8 54, .int .u8 55, .int .u8 56, .int .u8 57] : Array Value).toList = bs [49, 50, 51, 52, 53, 54, 55, 56, 57] := rfl
  rw [hbs] at hrd
  clear hbs
  have Hcrc := Lib.hid hcrc
  clear hcrc
  have kc := fun (w : World) (C : Array Value) (n c : Nat) => Lib.run_convert_bytes_const (P := Try.prog) w 23 5 C n c Try.underlying23 Try.underlying5
  go_enter Try.func15, Try.ntmps15
  go_wp2_with fail
  refine (fcrc_at _ _ 9 _ [49, 50, 51, 52, 53, 54, 55, 56, 57] rfl hrd (by simp)).mono ?_
  rintro e w1 ⟨rfl, rfl⟩
  rw [Hcrc.out]
  go_wp2_with fail
  go_ret
  exact ⟨rfl, Ext.alloc no _ _⟩

/-- Rows that are not too much. -/
def fewB (L : List (List UInt8)) : Bool := L.all (fun l => decide (l.length ≤ 300)) && decide (L.length ≤ 10)
theorem fewB_of {L : List (List UInt8)} (h : fewB L = true) : (∀ l ∈ L, l.length ≤ 300) ∧ L.length ≤ 10 := by
  unfold fewB at h
  simp at h
  exact h

set_option maxHeartbeats 400000 in
theorem few_any (w : World) (a : Option Addr) (c : Nat) (ps : List Part) (hrd : Rd w a (ps.map Part.v)) (hlc : ps.length ≤ c) (hcm : c ≤ maxLen) :
    Calls Try.prog 16 #[.slice a ps.length c] w fun e w' => e = .returned (.bool (fewB (ps.map Part.l))) ∧ w = w' := by
  unfold maxLen at hcm
  obtain ⟨F, hF⟩ : ∃ F, F = fewB (ps.map Part.l) := ⟨_, rfl⟩
  rw [← hF]
  have HF := Lib.hid hF
  clear hF
  go_enter Try.func16, Try.ntmps16
  go_wp2_with fail
  go_loop [3] (fun s3 => ∃ k : Nat, k ≤ ps.length ∧ s3 = .int .i64 k ∧ ∀ p ∈ ps.take k, p.l.length ≤ 300) (fun s3 => ps.length - (intOf s3).toNat)
  case atStart => exact ⟨0, Nat.zero_le _, rfl, by simp⟩
  case round =>
    obtain ⟨k, hk, rfl, hall⟩ := hrel
    have Hall := Lib.hid hall
    clear hall
    by_cases hlt : k < ps.length
    · obtain ⟨ad, rfl, _⟩ := hrd.ne (by simp; omega)
      have hcell := hrd.cell k (by simpa using hlt)
      rw [List.getElem_map, Part.v] at hcell
      have Hst := Lib.hid (show ps[k].l.length ≤ 300 → ∀ p ∈ ps.take (k + 1), p.l.length ≤ 300 by
        intro h p hp
        rw [List.take_succ_eq_append_getElem hlt, List.mem_append, List.mem_singleton] at hp
        rcases hp with hp | rfl
        · exact Hall.out p hp
        · exact h)
      have Hno := Lib.hid (show ¬ ps[k].l.length ≤ 300 → fewB (ps.map Part.l) = false by
        intro h
        cases hb : fewB (ps.map Part.l) with
        | false => rfl
        | true => exact absurd ((fewB_of hb).1 _ (List.mem_map.2 ⟨ps[k], by simp, rfl⟩)) h)
      generalize ps[k] = p at *
      by_cases h3 : 300 < p.l.length
      · go_wp2_with fail
        go_ret
        exact ⟨by rw [HF.out, Hno.out (by omega)]; rfl, rfl⟩
      · have h3' : p.l.length ≤ 300 := by omega
        go_wp2_with fail
        go_round
        case rel => exact ⟨k + 1, by omega, by go_num, Hst.out h3'⟩
        case measure => simp [intOf]; omega
    · obtain rfl : k = ps.length := by omega
      rw [List.take_length] at Hall
      have hf : F = decide ((ps.length : Int) ≤ 10) := by
        rw [HF.out]
        unfold fewB
        have : (ps.map Part.l).all (fun l => decide (l.length ≤ 300)) = true := by
          simp
          exact Hall.out
        rw [this, List.length_map, Bool.true_and]
        by_cases h : ps.length ≤ 10 <;> simp <;> omega
      have Hf := Lib.hid hf
      clear hf
      go_wp2_with fail
      go_ret
      exact ⟨by rw [Hf.out]; rfl, rfl⟩

set_option maxHeartbeats 400000 in
theorem log_any (w : World) (a : Option Addr) (c : Nat) (ps : List Part) (hrd : Rd w a (ps.map Part.v)) (hrow : ∀ p ∈ ps, Rd w p.a (bs p.l)) (h10 : ps.length ≤ 10) (h300 : ∀ p ∈ ps, p.l.length ≤ 300) :
    Calls Try.prog 17 #[.slice a ps.length c] w fun e w' => ∃ a' c', e = .returned (.slice a' ((ps.map Part.l).flatMap frame).length c') ∧ Own w' w.heap.size a' 1 ((ps.map Part.l).flatMap frame).length c' (bs ((ps.map Part.l).flatMap frame)) ∧ Ext no w w' := by
  have Hrow := Lib.hid hrow
  have H300 := Lib.hid h300
  clear hrow h300
  obtain ⟨L, hL⟩ : ∃ L, L = ps.map Part.l := ⟨_, rfl⟩
  rw [← hL]
  have hLl : L.length = ps.length := by rw [hL]; simp
  have HL := Lib.hid hL
  have HLl := Lib.hid hLl
  clear hL hLl
  go_enter Try.func17, Try.ntmps17
  go_wp2_with fail
  go_loopw [3, 4] (fun s3 s4 wr => ∃ (k : Nat) (v : Option Addr) (cv : Nat) (M : List UInt8), k ≤ ps.length ∧ s4 = .int .i64 k ∧ s3 = .slice v M.length cv ∧ M = (L.take k).flatMap frame ∧ M.length ≤ 308 * k ∧ Own wr w.heap.size v 1 M.length cv (bs M) ∧ Ext no w wr) (fun _ s4 _ => ps.length - (intOf s4).toNat)
  case atStart => exact ⟨0, none, 0, [], Nat.zero_le _, rfl, rfl, by simp, by simp, Own.nil _ _ _, Ext.refl _ _⟩
  case round =>
    obtain ⟨k, v, cv, M, hk, rfl, rfl, hM, hMl, hown, hx⟩ := hrel
    have HM := Lib.hid hM
    clear hM
    by_cases hlt : k < ps.length
    · obtain ⟨ad, rfl, _⟩ := hrd.ne (by simp; omega)
      have hcell := hx.keeps (hrd.cell k (by simpa using hlt)) (fun h => h)
      rw [List.getElem_map, Part.v] at hcell
      have hpr := (Hrow.out ps[k] (by simp)).ext hx (fun _ _ h => h)
      have hpl := H300.out ps[k] (by simp)
      have Hst := Lib.hid (show (L.take (k + 1)).flatMap frame = M ++ frame ps[k].l by
        have hkL : k < L.length := by rw [HLl.out]; exact hlt
        rw [List.take_succ_eq_append_getElem hkL, List.flatMap_append, ← HM.out]
        simp only [HL.out, List.getElem_map, List.flatMap_singleton])
      have hd10 : decide ((k : Int) < 10) = true := by rw [decide_eq_true_eq]; omega
      generalize ps[k] = p at *
      have hfn := frame_length p.l
      have hfl : (frame p.l).length ≤ 308 := by omega
      clear hfn
      go_wp2_with fail
      refine (rframe_any wr p.a p.c p.l hpr (by omega)).mono ?_
      rintro e w1 ⟨a1, c1, rfl, hown1, hx1⟩
      have hx01 := hx.comp hx1
      have hs1 := hx01.size
      have hownv := hown.ext hx1 (fun _ _ h => h)
      have hrd1 := hown1.rd
      clear hown hown1 hx hx1
      generalize frame p.l = f at *
      go_wp2_with (at_builtin; refine wpList_append TBytes rfl rfl rfl hownv rfl hrd1 (by simp) (bs_one _) ?c1 ?c2 hs1 ?_)
      case c1 => unfold maxLen; omega
      case c2 => omega
      intro a2 c2 w2 happ
      have hown2 := happ.own
      have hx2 : Ext no w w2 := Ext.ofBelow (hx01.belowAll.trans (hownv.below happ.ext hs1)) (Nat.le_refl _)
      rw [← bs_append, ← List.length_append] at hown2
      have hml : (M ++ f).length ≤ 308 * (k + 1) := by rw [List.length_append]; omega
      clear happ
      go_wp2_with fail
      go_roundw
      case rel => exact ⟨k + 1, a2, c2, M ++ f, by omega, by go_num, by simp, Hst.out.symm, hml, hown2, hx2⟩
      case measure => simp [intOf]; omega
    · obtain rfl : k = ps.length := by omega
      have HMM := Lib.hid (show L.flatMap frame = M by rw [HM.out, ← HLl.out, List.take_length])
      have hd : decide ((ps.length : Int) < ps.length) = false := by simp
      go_wp2_with fail
      go_ret
      rw [HMM.out]
      exact ⟨v, cv, rfl, hown, hx⟩
end Go.Proofs.Ytfihjjbonahahaa
