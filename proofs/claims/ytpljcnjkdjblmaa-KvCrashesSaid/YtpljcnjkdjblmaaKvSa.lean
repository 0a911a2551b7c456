/- escrowlaw5.same: has a store what the reference's has? -/
import Derived.Test.YtpljcnjkdjblmaaKvTw
import Derived.Test.YtpljcnjkdjblmaaKvQ
import Derived.Test.YtpljcnjkdjblmaaKvU
namespace Go.Esc
open Go.RowKit
def sameX (X Y : KvX) : Bool := decide (X.r0 = Y.r0 ∧ X.r1 = Y.r1 ∧ X.r2 = Y.r2)
theorem sameX_iff (X Y : KvX) : sameX X Y = true ↔ X = Y := by
  unfold sameX
  rw [decide_eq_true_eq]
  constructor
  · rintro ⟨h0, h1, h2⟩; cases X; cases Y; simp only at h0 h1 h2; rw [h0, h1, h2]
  · rintro rfl; exact ⟨rfl, rfl, rfl⟩
theorem sameX_not {X Y : KvX} (h : X ≠ Y) : sameX X Y = false := by
  cases hs : sameX X Y with
  | false => rfl
  | true => exact absurd ((sameX_iff X Y).1 hs) h
theorem rows_all {X Y : KvX} (h : ∀ c : Nat, c < 3 → X.row c = Y.row c) : X = Y := by
  have h0 : X.r0 = Y.r0 := h 0 (by omega)
  have h1 : X.r1 = Y.r1 := h 1 (by omega)
  have h2 : X.r2 = Y.r2 := h 2 (by omega)
  cases X; cases Y; simp only at h0 h1 h2; rw [h0, h1, h2]
theorem row_len (X : KvX) (c : Int) : (X.row c).length ≤ X.len := by
  unfold KvX.row KvX.len
  split
  · omega
  · split <;> omega
theorem scan_whole (X : KvX) (c : Int) (h : X.len ≤ 300) : (scanX X c []).take (400 : Int).toNat = X.row c := by
  have := row_len X c
  rw [scanX_nil]
  exact List.take_of_length_le (by show (X.row c).length ≤ 400; omega)
end Go.Esc
namespace Go.Proofs.Ytpljcnjkdjblmaa
open Go.RowKit Go.Esc
set_option linter.unusedVariables false
set_option linter.unusedSimpArgs false

set_option maxRecDepth 100000 in
set_option maxHeartbeats 16000000 in
theorem kvsame_any (w : World) (s j b : Nat) (m : KvM) (X : KvX) (x : Nat) (Y : KvX) (q : Trio) (hS : Blk w s [.pointer (some ⟨j, 0, none⟩), .map (some b)]) (hm : MapIn w b m) (ht : Tells m X) (hXl : X.len ≤ 300) (hk : KxAt w x Y q) (hYl : Y.len ≤ 300) :
    Calls Try.prog 24 #[.pointer (some ⟨s, 0, none⟩), .pointer (some ⟨x, 0, none⟩)] w fun e w' => e = .returned (.bool (sameX X Y)) ∧ Ext no w w' := by
  have HT := Lib.hid ht
  have hml := ht.len
  have HML := Lib.hid hml
  have hm3 : m.length ≤ 300 := by omega
  clear ht hml
  go_enter Try.func24, Try.ntmps24
  go_wp2_with fail
  refine (kvlen_any w s j b m hS hm (by omega)).mono ?_
  rintro e _ ⟨rfl, rfl⟩
  rw [HML.out]
  go_wp2_with fail
  refine (rlen_any w x Y q hk (most_of (by omega))).mono ?_
  rintro e w1 ⟨rfl, hx1⟩
  by_cases hne : X.len = Y.len
  case neg =>
    have d0 : ((X.len : Int) != (Y.len : Int)) = true := by rw [bne_iff_ne]; omega
    have HR := Lib.hid (show sameX X Y = false from sameX_not (fun e => hne (by rw [e])))
    clear hne
    go_wp2_with fail
    go_ret
    exact ⟨by rw [HR.out]; rfl, hx1⟩
  have d0 : ((X.len : Int) != (Y.len : Int)) = false := by rw [hne]; simp
  clear hne
  go_wp2_with fail
  go_loopw [5] (fun s5 wr => ∃ c : Nat, s5 = .int .i64 c ∧ c ≤ 3 ∧ (∀ t : Nat, t < c → X.row t = Y.row t) ∧ Ext no w wr) (fun s5 _ => 3 - (intOf s5).toNat)
  case atStart => exact ⟨0, rfl, by omega, (fun t h => by omega), hx1⟩
  case round =>
    obtain ⟨c, rfl, hc3, hrow, hx⟩ := hrel
    have HRow := Lib.hid hrow
    clear hrow
    by_cases hcl : c < 3
    · have d1 : decide ((c : Int) < 3) = true := decT (by omega)
      have HC := Lib.hid (show (c : Int) = 0 ∨ (c : Int) = 1 ∨ (c : Int) = 2 by omega)
      have hXr := row_len X c
      have hYr := row_len Y c
      go_wp2_with fail
      refine (kvscanX_any wr s j b m X c [] 400 (hS.ext (by simp) hx (fun h => h)) (hm.no hx) HT.out HC.out (by omega)).mono ?_
      rw [scan_whole X c hXl]
      rintro e w2 ⟨a1, c1, rfl, ho1, hx2⟩
      go_wp2_with fail
      refine (rscan_any w2 x Y q (hk.no (hx.comp hx2)) (most_of (by omega)) c HC.out [] 400).mono ?_
      rw [scan_whole Y c hYl]
      rintro e w3 ⟨a2, c2, rfl, ho2, hx3⟩
      have hr1 := ho1.rd.ext hx3 (fun _ _ h => h)
      have hr2 := ho2.rd
      have hW3 := (hx.comp hx2).comp hx3
      obtain ⟨P, hP⟩ : ∃ P, P = X.row c := ⟨_, rfl⟩
      obtain ⟨Q, hQ⟩ : ∃ Q, Q = Y.row c := ⟨_, rfl⟩
      rw [← hP] at hr1 hXr ⊢
      rw [← hQ] at hr2 hYr ⊢
      have hF : P ≠ Q → sameX X Y = false := fun hh => sameX_not (fun e => hh (by rw [hP, hQ, e]))
      have hG : P = Q → ∀ t : Nat, t < c + 1 → X.row t = Y.row t := fun hh t htl => by
        by_cases e : t = c
        · rw [e, ← hP, ← hQ, hh]
        · exact HRow.out t (by omega)
      have HF := Lib.hid hF
      have HG := Lib.hid hG
      clear hP hQ hF hG ho1 ho2 hx hx2 hx3
      by_cases hll : P.length = Q.length
      case neg =>
        have d2 : ((P.length : Int) != (Q.length : Int)) = true := by rw [bne_iff_ne]; omega
        have HR := Lib.hid (HF.out (fun e => hll (by rw [e])))
        clear hll
        go_wp2_with fail
        go_ret
        exact ⟨by rw [HR.out]; rfl, hW3⟩
      have d2 : ((P.length : Int) != (Q.length : Int)) = false := by rw [hll]; simp
      have hl1 : P.length ≤ Q.length := by omega
      have hl2 : Q.length ≤ P.length := by omega
      clear hll
      go_wp2_with fail
      go_loopw [8] (fun s8 wr => ∃ i : Nat, s8 = .int .i64 i ∧ i ≤ P.length ∧ P.take i = Q.take i ∧ Ext no w3 wr) (fun s8 _ => P.length - (intOf s8).toNat)
      case atStart => exact ⟨0, rfl, Nat.zero_le _, by simp, Ext.refl _ _⟩
      case round =>
        obtain ⟨i, rfl, hil, hpq, hx⟩ := hrel
        have HPQ := Lib.hid hpq
        clear hpq
        by_cases hin : i < P.length
        · have d3 : decide (i < P.length) = true := decT hin
          have d3' : decide (i < Q.length) = true := decT (by omega)
          have hiq : i < Q.length := by omega
          obtain ⟨r1, h1⟩ : ∃ r, P[i]? = some r := ⟨_, List.getElem?_eq_getElem hin⟩
          obtain ⟨r2, h2⟩ : ∃ r, Q[i]? = some r := ⟨_, List.getElem?_eq_getElem hiq⟩
          obtain ⟨b1, o1, hs1, _⟩ := rows_shape kPair (by omega) hr1 (by omega)
          subst hs1
          obtain ⟨b2, o2, hs2, _⟩ := rows_shape kPair (by omega) hr2 (by omega)
          subst hs2
          have hrr1 := hr1.ext hx (fun _ _ h => h)
          have hrr2 := hr2.ext hx (fun _ _ h => h)
          have y0 : wr.cell? ⟨b1, o1 + i * 2, none⟩ = some (.string (str r1.key)) := rows_cell kPair hrr1 h1 0 _ rfl
          have y1 : wr.cell? ⟨b1, o1 + i * 2 + 1, none⟩ = some (.string (str r1.val)) := rows_cell kPair hrr1 h1 1 _ rfl
          have z0 : wr.cell? ⟨b2, o2 + i * 2, none⟩ = some (.string (str r2.key)) := rows_cell kPair hrr2 h2 0 _ rfl
          have z1 : wr.cell? ⟨b2, o2 + i * 2 + 1, none⟩ = some (.string (str r2.val)) := rows_cell kPair hrr2 h2 1 _ rfl
          have hP1 : P.take (i + 1) = P.take i ++ [r1] := by rw [List.take_succ_eq_append_getElem hin, (List.getElem?_eq_some_iff.1 h1).2]
          have hQ1 : Q.take (i + 1) = Q.take i ++ [r2] := by rw [List.take_succ_eq_append_getElem hiq, (List.getElem?_eq_some_iff.1 h2).2]
          have hbad : r1 ≠ r2 → P ≠ Q := fun hh e => by rw [e] at h1; rw [h1] at h2; exact hh (Option.some.inj h2)
          have hgo : r1 = r2 → P.take (i + 1) = Q.take (i + 1) := fun e => by rw [hP1, hQ1, HPQ.out, e]
          have HB := Lib.hid hbad
          have HGo := Lib.hid hgo
          clear hrr1 hrr2 h1 h2 hP1 hQ1 hbad hgo
          go_upto_region 12 with fail
          by_cases k1 : r1.key = r2.key
          case neg =>
            have d4 : ((str r1.key).toList == (str r2.key).toList) = false := by rw [toList_str, toList_str, beq_eq_false_iff_ne]; exact k1
            have HR := Lib.hid (HF.out (HB.out (fun e => k1 (by rw [e]))))
            clear k1
            go_quiet (fail)
            have hxq := hx.comp (Ext.drewN no wr nq)
            generalize wr.drewN nq = wz at *
            go_wp2_with fail
            go_ret
            exact ⟨by rw [HR.out]; rfl, hW3.comp hxq⟩
          have d4 : ((str r1.key).toList == (str r2.key).toList) = true := by rw [k1]; exact beqStrT rfl
          by_cases k2 : r1.val = r2.val
          case neg =>
            have d5 : ((str r1.val).toList == (str r2.val).toList) = false := by rw [toList_str, toList_str, beq_eq_false_iff_ne]; exact k2
            have HR := Lib.hid (HF.out (HB.out (fun e => k2 (by rw [e]))))
            clear k1 k2
            go_quiet (fail)
            have hxq := hx.comp (Ext.drewN no wr nq)
            generalize wr.drewN nq = wz at *
            go_wp2_with fail
            go_ret
            exact ⟨by rw [HR.out]; rfl, hW3.comp hxq⟩
          have d5 : ((str r1.val).toList == (str r2.val).toList) = true := by rw [k2]; exact beqStrT rfl
          have HR := Lib.hid (HGo.out (by cases r1; cases r2; simp only at k1 k2; rw [k1, k2]))
          clear k1 k2
          go_quiet (fail)
          have hxq := hx.comp (Ext.drewN no wr nq)
          generalize wr.drewN nq = wz at *
          clear y0 y1 z0 z1
          go_wp2_with fail
          go_roundw
          case rel => exact ⟨i + 1, by go_num, by omega, HR.out, hxq⟩
          case measure => simp [intOf]; omega
        · have d3 : decide (i < P.length) = false := decF hin
          have HR := Lib.hid (HG.out (by
            have h1 := HPQ.out
            rw [List.take_of_length_le (by omega), List.take_of_length_le (by omega)] at h1
            exact h1))
          go_wp2_with fail
          go_roundw
          case rel => exact ⟨c + 1, by go_num, by omega, HR.out, hW3.comp hx⟩
          case measure => simp [intOf]; omega
    · have d1 : decide ((c : Int) < 3) = false := decF (by omega)
      have HR := Lib.hid (show sameX X Y = true from (sameX_iff X Y).2 (rows_all (fun t htl => HRow.out t (by omega))))
      go_wp2_with fail
      go_ret
      exact ⟨by rw [HR.out]; rfl, hx⟩
end Go.Proofs.Ytpljcnjkdjblmaa
