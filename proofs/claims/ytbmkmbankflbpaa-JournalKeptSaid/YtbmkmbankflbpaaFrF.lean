/- The walk of the reference of chapter 2: Scan. -/
import Derived.Test.YtbmkmbankflbpaaFrE
import Derived.Test.YtbmkmbankflbpaaFrD
namespace Go.Proofs.Ytbmkmbankflbpaa
open Go.RowKit Go.Esc

theorem rget_at (w : World) (a : Option Addr) (m c : Nat) (l : List UInt8) (hm : m = l.length) (hrd : Rd w a (bs l)) (h4 : 4 ≤ l.length) (hl : l.length ≤ 1099511627776) :
    Calls Try.prog 32 #[.slice a m c] w fun e w' => e = .returned (.int .u32 (rd4 l)) ∧ ∃ n, w' = w.drewN n := by
  subst hm; exact rget_any w a c l hrd h4 hl
theorem rone_at (w : World) (a : Option Addr) (m c : Nat) (l : List UInt8) (hm : m = l.length) (hrd : Rd w a (bs l)) (hl : l.length ≤ 1099511627776) (hlc : l.length ≤ c) :
    Calls Try.prog 9 #[.slice a m c] w fun e w' => ∃ a' c', e = .returned (.tuple #[.slice a' (one l).1.length c', .int .i64 (one l).2]) ∧ Rd w' a' (bs (one l).1) ∧ (∀ ad, a' = some ad → w.heap.size ≤ ad.block) ∧ Ext no w w' := by
  subst hm; exact rone_any w a c l hrd hl hlc

set_option maxHeartbeats 1000000 in
theorem rscan_new (w : World) (a : Option Addr) (c : Nat) (l : List UInt8) (hrd : Rd w a (bs l)) (hl : l.length ≤ 1099511627776) (hlc : l.length ≤ c) (hcm : c ≤ maxLen) :
    Calls Try.prog 17 #[.slice a l.length c] w (ScanNew w l) := by
  unfold maxLen at hcm
  go_enter Try.func17, Try.ntmps17
  go_wp2_with fail
  go_loopw [4, 5] (fun s4 s5 wr => ∃ (ps : List Part) (n : Nat) (v : Option Addr) (cv : Nat), s5 = .int .i64 n ∧ s4 = .slice v ps.length cv ∧ n ≤ l.length ∧ Scans w l ps n v cv wr) (fun _ s5 _ => l.length - (intOf s5).toNat)
  case atStart => exact ⟨[], 0, none, 0, rfl, rfl, Nat.zero_le _, Scans.start w l⟩
  case round =>
    obtain ⟨ps, n, v, cv, rfl, rfl, hn, hS⟩ := hrel
    have cutn : ∀ w, (Instr.sliceAt 22 (.slice a l.length c) (some (.int .i64 (n : Int))) none none).run Try.prog w = .ok (.slice (cutAt a c n 1) (l.length - n) (c - n)) w := fun w => run_cut_l TBytes w a l.length c .i64 n hn
    obtain ⟨r, hr⟩ : ∃ r, r = l.drop n := ⟨_, rfl⟩
    have hrl : l.length - n = r.length := by rw [hr, List.length_drop]
    have hrd1 : Rd wr (cutAt a c n 1) (bs r) := by
      have := (hrd.ext hS.ext (fun _ _ h => h)).cutB c n hlc
      rw [← hr] at this; exact this
    rw [hrl] at cutn
    have hrl' : r.length ≤ 1099511627776 := by omega
    have hrc : r.length ≤ c - n := by omega
    have hln : (l.length : Int) - n = r.length := by omega
    have Hr := Lib.hid hr
    have Hrl := Lib.hid hrl
    have Hln := Lib.hid hln
    clear hr hrl hln
    generalize hca : cutAt a c n 1 = ar at *
    have Hca := Lib.hid hca
    clear hca
    by_cases h8 : r.length < 8
    · have Hst := Lib.hid (hS.stop (by rw [← Hr.out]; unfold frameAt; rw [if_neg (by omega)]))
      have h8' : ¬ ((n : Int) + 8 ≤ l.length) := by have := Hrl.out; omega
      go_wp2_with fail
      go_ret2
      obtain ⟨h1, h2, h3⟩ := Hst.out
      exact ⟨v, cv, by rw [← h2, ← h3]; rfl, h1, hS.ext⟩
    have h8' : ((n : Int) + 8 ≤ l.length) := by have := Hrl.out; omega
    have hn4 := rd4_lt r
    go_wp2_with fail
    refine (rget_at wr ar r.length (c - n) r rfl hrd1 (by omega) hrl').mono ?_
    rintro e w1 ⟨rfl, nq, rfl⟩
    have hS1 := hS.on (Ext.drewN no wr nq)
    have hrd2 := hrd1.drewN nq
    clear hS hrd1
    generalize wr.drewN nq = w1 at *
    by_cases h1 : 4194304 < rd4 r
    · have Hst := Lib.hid (hS1.stop (by rw [← Hr.out]; unfold frameAt; rw [if_neg (by omega)]))
      have hd1 : decide ((4194304 : Int) < (rd4 r : Int)) = true := by rw [decide_eq_true_eq]; omega
      go_wp2_with fail
      go_ret2
      obtain ⟨h1, h2, h3⟩ := Hst.out
      exact ⟨v, cv, by rw [← h2, ← h3]; rfl, h1, hS1.ext⟩
    have hd1 : decide ((4194304 : Int) < (rd4 r : Int)) = false := by rw [decide_eq_false_iff_not]; omega
    by_cases h2 : r.length - 8 < rd4 r
    · have Hst := Lib.hid (hS1.stop (by rw [← Hr.out]; unfold frameAt; rw [if_neg (by omega)]))
      have hd2 : decide ((l.length : Int) - n - 8 < (rd4 r : Int)) = true := by rw [decide_eq_true_eq]; have := Hln.out; omega
      go_wp2_with fail
      go_ret2
      obtain ⟨h1, h2, h3⟩ := Hst.out
      exact ⟨v, cv, by rw [← h2, ← h3]; rfl, h1, hS1.ext⟩
    have hd2 : decide ((l.length : Int) - n - 8 < (rd4 r : Int)) = false := by rw [decide_eq_false_iff_not]; have := Hln.out; omega
    have cutx : ∀ w, (Instr.sliceAt 22 (.slice a l.length c) (some (.int .i64 (n : Int))) (some (.int .i64 ((n : Int) + 8 + (rd4 r : Int)))) none).run Try.prog w = .ok (.slice (cutAt a c n 1) (n + 8 + rd4 r - n) (c - n)) w := fun w => run_cut_lh TBytes w a l.length c .i64 .i64 n (n + 8 + rd4 r) (by omega) (by omega)
    rw [Hca.out, show n + 8 + rd4 r - n = 8 + rd4 r from by omega] at cutx
    have hx := frameAt_one (r := r) (by omega) (by omega) (by omega)
    have hrt : Rd w1 ar (bs (r.take (8 + rd4 r))) := by have := hrd2.take (8 + rd4 r); rw [bs_take] at this; exact this
    have Hlt := Lib.hid (show 8 + rd4 r = (r.take (8 + rd4 r)).length by simp; omega)
    have hltl : (r.take (8 + rd4 r)).length ≤ c - n := by simp; omega
    have Hx := Lib.hid hx
    clear hx
    go_wp2_with fail
    refine (rone_at w1 ar (8 + rd4 r) (c - n) (r.take (8 + rd4 r)) Hlt.out hrt (by rw [List.length_take]; omega) hltl).mono ?_
    rintro e w2 ⟨a9, c9, rfl, hrd9, hfr9, hx9⟩
    generalize one (r.take (8 + rd4 r)) = o at *
    obtain ⟨b, k⟩ := o
    simp only at Hx hrd9 ⊢
    have hS2 := hS1.on hx9
    by_cases hk : k = 0
    · subst hk
      have Hf := Lib.hid (show frameAt (l.drop n) = some b by rw [← Hr.out, Hx.out.1]; simp)
      have Hbl := Lib.hid (show b.length = rd4 r from Hx.out.2 rfl)
      have hbr : n + (8 + b.length) ≤ l.length := by have := frameAt_len Hf.out; rw [List.length_drop] at this; omega
      have hfr8 : b ≠ [] → ∀ ad, a9 = some ad → w.heap.size ≤ ad.block := fun _ ad h => by have := hfr9 ad h; have := hS1.ext.size; omega
      have hnew : b ≠ [] → ∀ ad, a9 = some ad → ¬ blk v ad.block := by
        rintro _ ad ha ⟨ad2, e2, hb2⟩
        have := hfr9 ad ha
        have := (hS1.own.base ad2 e2).2.1
        omega
      have hs2 := hS2.ext.size
      have hfew := hS2.few
      have hone := Rd.one w2 (.slice a9 b.length c9) 22 (0, 0)
      clear hS1 hx9 hd1 hd2
      go_wp2_with (at_builtin; refine wpList_append TRows rfl rfl rfl (hS2.own.alloc _) rfl hone (by simp) ?c2 ?c3 ?c4 ?c5 ?_)
      case c2 => rfl
      case c3 => unfold maxLen; omega
      case c4 => omega
      case c5 => omega
      intro v' c' w4 happ
      have hS4 := hS2.step (p := ⟨a9, b, c9⟩) hrd9 Hf.out hnew hfr8 happ
      clear happ hS2
      have hnn : (n : Int) + 8 + (rd4 r : Int) = ((n + (8 + b.length) : Nat) : Int) := by have := Hbl.out; omega
      have Hnn := Lib.hid hnn
      clear hnn
      go_wp2_with fail
      go_roundw
      case rel => exact ⟨ps ++ [⟨a9, b, c9⟩], n + (8 + b.length), v', c', by rw [← Hnn.out], by simp, hbr, hS4⟩
      case measure => have := Hbl.out; simp [intOf]; omega
    · have Hst := Lib.hid (hS2.stop (by rw [← Hr.out, Hx.out.1, if_neg hk]))
      have hbq : ((k : Int) != 0) = true := by simp; omega
      clear hk
      go_wp2_with fail
      go_ret2
      obtain ⟨h1, h2, h3⟩ := Hst.out
      exact ⟨v, cv, by rw [← h2, ← h3]; rfl, h1, hS2.ext⟩
theorem rscan_any (w : World) (a : Option Addr) (c : Nat) (l : List UInt8) (hrd : Rd w a (bs l)) (hl : l.length ≤ 1099511627776) (hlc : l.length ≤ c) (hcm : c ≤ maxLen) :
    Calls Try.prog 17 #[.slice a l.length c] w (ScanEnd w l) :=
  (rscan_new w a c l hrd hl hlc hcm).mono fun _ _ ⟨a', c', h1, h2, h3⟩ => ⟨a', c', h1, h2.lists, h3⟩
end Go.Proofs.Ytbmkmbankflbpaa
