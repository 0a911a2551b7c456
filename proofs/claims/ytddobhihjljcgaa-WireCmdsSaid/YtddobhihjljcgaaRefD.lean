/- Walks of the document's reader: Int, length, Text, Ints. -/
import Derived.Test.YtddobhihjljcgaaRefC
import Derived.Test.YtddobhihjljcgaaMA
namespace Go.Proofs.Ytddobhihjljcgaa
open Go.RowKit Go.Esc
set_option linter.unusedVariables false

theorem xint_any (w : World) (g : Nat) {a : Option Addr} {c : Nat} {b : List UInt8} (s : RS) (h : XRdr w g a c b s.l s.e) :
    Calls Try.prog 70 #[.pointer (some ⟨g, 0, none⟩)] w fun e w' => e = .returned (.int .i64 (rInt s).1) ∧ XRdr w' g a c b (rInt s).2.l (rInt s).2.e ∧ Ext (just g) w w' := by
  by_cases h0 : s.e = 0
  · rw [h0] at h
    refine (xint_ok w g h).mono ?_
    rintro e w' ⟨r, hx, ⟨u, hsc, rfl, hr⟩ | ⟨k, hsc, rfl, hr⟩⟩
    · rw [rInt_ok h0 hsc]; exact ⟨rfl, hr, hx⟩
    · rw [rInt_err h0 hsc]; exact ⟨rfl, hr, hx⟩
  · refine (xint_skip w g h h0).mono ?_
    rintro e w' ⟨rfl, hx⟩
    rw [rInt_skip h0]
    exact ⟨rfl, h.no hx, hx.mono (fun _ _ h => h.elim)⟩

/-- What length leaves. -/
def XLen (w : World) (g : Nat) (a : Option Addr) (c : Nat) (b : List UInt8) (l : List UInt8) (e : Ending) (w' : World) : Prop :=
  ∃ r, Ext (just g) w w' ∧ ((∃ n : Nat, n ≤ 65535 ∧ rLen l = (.inr n, r) ∧ e = .returned (.int .i64 n) ∧ XRdr w' g a c b r 0) ∨ (∃ k : Nat, k ≠ 0 ∧ rLen l = (.inl k, r) ∧ e = .returned (.int .i64 0) ∧ XRdr w' g a c b r k))

set_option maxHeartbeats 1000000 in
theorem xlen_ok (w : World) (g : Nat) {a : Option Addr} {c : Nat} {b l : List UInt8} (h : XRdr w g a c b l 0) :
    Calls Try.prog 94 #[.pointer (some ⟨g, 0, none⟩)] w (XLen w g a c b l) := by
  go_enter Try.func94, Try.ntmps94
  go_wp2_with fail
  refine (xint_ok w g h).mono ?_
  rintro e w' ⟨r, hx, ⟨u, hsc, rfl, hr⟩ | ⟨k, hsc, rfl, hr⟩⟩
  · have hc := hr.err
    have hf := hr.fr 2
    have Hsc := Lib.hid hsc
    clear hsc h
    have hx3 : ∀ v, Ext (just g) w (w'.setCell ⟨g, 2, none⟩ v) := fun v => hx.comp (Ext.setCell _ _ _ rfl)
    by_cases hn : sgn u < 0
    · have hb1 : decide (sgn u < 0) = true := decide_eq_true hn
      have Hb := Lib.hid (rLen_many_of Hsc.out (by omega))
      clear hn
      go_wp2_with fail
      go_ret
      exact ⟨r, hx3 _, .inr ⟨4, by decide, Hb.out, rfl, hr.setErr 4⟩⟩
    · have hb1 : decide (sgn u < 0) = false := decide_eq_false hn
      by_cases hm : 65535 < sgn u
      · have hb2 : decide (65535 < sgn u) = true := decide_eq_true hm
        have Hb := Lib.hid (rLen_many_of Hsc.out (by omega))
        clear hn hm
        go_wp2_with fail
        go_ret
        exact ⟨r, hx3 _, .inr ⟨4, by decide, Hb.out, rfl, hr.setErr 4⟩⟩
      · have hb2 : decide (65535 < sgn u) = false := decide_eq_false hm
        have Hb := Lib.hid (rLen_ok_of Hsc.out (by omega) (by omega))
        obtain ⟨n, hn2, hn3⟩ : ∃ n : Nat, sgn u = n ∧ n ≤ 65535 := ⟨(sgn u).toNat, by omega, by omega⟩
        have Hn := Lib.hid hn2
        clear hn hm
        rw [hn2] at hb1 hb2 ⊢
        clear hn2
        go_wp2_with fail
        go_ret
        have := Hb.out
        rw [Hn.out] at this
        exact ⟨r, hx, .inl ⟨n, hn3, this, rfl, hr⟩⟩
  · have hc := hr.err
    have hk0 : ((k : Int) == 0) = false := by
      rw [beq_eq_false_iff_ne]
      rcases scan_err l 0 true k r hsc with rfl | rfl <;> decide
    have hk : k ≠ 0 := by rintro rfl; simp at hk0
    have Hb := Lib.hid (rLen_err_of hsc)
    clear hsc h
    go_wp2_with fail
    go_ret
    exact ⟨r, hx, .inr ⟨k, hk, Hb.out, rfl, hr⟩⟩

set_option maxHeartbeats 1000000 in
theorem xlen_skip (w : World) (g : Nat) {a : Option Addr} {c : Nat} {b l : List UInt8} {er : Int} (h : XRdr w g a c b l er) (h0 : er ≠ 0) :
    Calls Try.prog 94 #[.pointer (some ⟨g, 0, none⟩)] w fun e w' => e = .returned (.int .i64 0) ∧ Ext no w w' := by
  have hb : (er == 0) = false := by rw [beq_eq_false_iff_ne]; exact h0
  have H0 := Lib.hid h0
  clear h0
  go_enter Try.func94, Try.ntmps94
  go_wp2_with fail
  refine (xint_skip w g h H0.out).mono ?_
  rintro e w' ⟨rfl, hx⟩
  have hr := h.no hx
  have hc := hr.err
  go_wp2_with fail
  go_ret
  exact ⟨rfl, hx⟩
end Go.Proofs.Ytddobhihjljcgaa
