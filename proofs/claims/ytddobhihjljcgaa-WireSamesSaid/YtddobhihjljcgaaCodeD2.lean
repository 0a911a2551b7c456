/- Walks: code.Ints; within of escrowlaw1. -/
import Derived.Test.YtddobhihjljcgaaCodeD
namespace Go.Proofs.Ytddobhihjljcgaa
open Go.RowKit Go.Esc

set_option maxHeartbeats 400000 in
theorem ints_any (w : World) (a b : Option Addr) (c cb : Nat) (l : List UInt8) (t : List Int) (hra : Rd w a (bs l)) (hl : l.length ≤ 274877906944)
    (hrd : Rd w b (is t)) (ht : t.length ≤ 17179869184) (hok : ∀ n ∈ t, I64ok n) :
    Calls Try.prog 52 #[.slice a l.length c, .slice b t.length cb] w fun e w' => ∃ a' c', e = .returned (.slice a' (l ++ encL t).length c') ∧ Own w' w.heap.size a' 1 (l ++ encL t).length c' (bs (l ++ encL t)) ∧ Ext no w w' := by
  have hn : I64ok t.length := ⟨by omega, by omega⟩
  have hsm : ∀ k, (l ++ encLk t k).length ≤ l.length + 10 + k * 10 := by
    intro k
    have := encLk_length t hn hok k
    rw [List.length_append]; omega
  go_enter Try.func52, Try.ntmps52
  go_wp2_with fail
  refine (int_any w a c l t.length hra (by omega) hn).mono ?_
  rintro e w1 ⟨a1, c1, rfl, hown, hext⟩
  have e0 : l ++ encI t.length = l ++ encLk t 0 := by simp [encLk]
  rw [e0] at hown ⊢
  have Hsm := Lib.hid hsm
  clear hsm e0
  generalize hm : l ++ encLk t 0 = m at *
  have Hm := Lib.hid hm
  clear hm
  go_wp2_with fail
  go_loopw [5, 7, 14] (fun s5 _ s14 wr => ∃ (k : Nat) (a' : Option Addr) (c' : Nat) (m : List UInt8), k ≤ t.length ∧ m = l ++ encLk t k ∧ s14 = .int .i64 k ∧ s5 = .slice a' m.length c' ∧
      Own wr w.heap.size a' 1 m.length c' (bs m) ∧ Ext no w wr) (fun _ _ s14 _ => t.length - (intOf s14).toNat)
  case atStart => exact ⟨0, a1, c1, m, Nat.zero_le _, Hm.out.symm, rfl, rfl, hown, hext⟩
  case round =>
    clear Hm hown hext
    obtain ⟨k, a', c', m, hk, hm, rfl, rfl, hown, hext⟩ := hrel
    have hk1 := Hsm.out k
    rw [← hm] at hk1
    have Hm := Lib.hid hm
    clear hm
    by_cases hlt : k < t.length
    · obtain ⟨ad, rfl, _⟩ := hrd.ne (by simp; omega)
      have hc := hext.keeps (hrd.cell k (by simpa using hlt)) (fun h => h)
      rw [show (is t)[k]'(by simpa using hlt) = .int .i64 t[k] from by simp [is, I64]] at hc
      have hokk := hok t[k] (by simp)
      have hz := zig_lt t[k] hokk.1 hokk.2
      have hr := (row_length (zig t[k]) hz).1
      go_wp2_with fail
      refine (turned_any t[k] wr hokk.1 hokk.2).mono ?_
      rintro e w2 ⟨rfl, rfl⟩
      go_wp2_with fail
      refine (row_any (zig t[k]) hz wr).mono ?_
      rintro e w2 ⟨a2, c2, rfl, hown2, hext2⟩
      have hs2 := hext2.size
      have hs1 := hext.size
      go_wp2_with (at_builtin; refine wpList_append TBytes rfl rfl rfl (hown.ext hext2 (fun _ _ h => h)) rfl hown2.rd (by simp) (bs_one _) ?c1 ?c2 ?c3 ?_)
      case c1 => unfold maxLen; omega
      case c2 => omega
      case c3 => omega
      intro a3 c3 w3 happ
      have hex3 : Ext no w w3 := Ext.ofBelow ((hext.comp hext2).belowAll.trans ((hown.ext hext2 (fun _ _ h => h)).below happ.ext (by omega))) (Nat.le_refl _)
      have hown3 := happ.own
      clear happ
      go_wp2_with fail
      go_roundw
      case rel =>
        have e1 : m ++ row (zig t[k]) = l ++ encLk t (k + 1) := by rw [Hm.out, encLk_succ t k hlt, List.append_assoc]; rfl
        refine ⟨k + 1, a3, c3, m ++ row (zig t[k]), by omega, e1, by go_num, by rw [List.length_append], ?_, hex3⟩
        rw [List.length_append, bs_append]; exact hown3
      case measure => simp [intOf]; omega
    · obtain rfl : k = t.length := by omega
      go_wp2_with fail
      refine (clone_any wr a' c' m hown.rd (by omega)).mono ?_
      rintro e w2 ⟨a2, c2, rfl, hown2, hext2⟩
      go_wp2_with fail
      go_ret
      have e1 : m = l ++ encL t := by rw [Hm.out, encLk_all]
      subst e1
      exact ⟨a2, c2, rfl, hown2.mono hext.size, hext.comp hext2⟩

end Go.Proofs.Ytddobhihjljcgaa
