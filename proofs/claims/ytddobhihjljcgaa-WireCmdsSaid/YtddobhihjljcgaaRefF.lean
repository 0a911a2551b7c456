/- Walks of the document's reader: Ints. -/
import Derived.Test.YtddobhihjljcgaaRefE
namespace Go.Proofs.Ytddobhihjljcgaa
open Go.RowKit Go.Esc
set_option linter.unusedVariables false

theorem xtext_any (w : World) (g : Nat) {a : Option Addr} {c : Nat} {b : List UInt8} (s : RS) (h : XRdr w g a c b s.l s.e) :
    Calls Try.prog 72 #[.pointer (some ⟨g, 0, none⟩)] w fun e w' => e = .returned (.string (str (rText s).1)) ∧ XRdr w' g a c b (rText s).2.l (rText s).2.e ∧ Ext (just g) w w' := by
  by_cases h0 : s.e = 0
  · rw [h0] at h
    exact xtext_ok w g s h0 h
  · refine (xtext_skip w g h h0).mono ?_
    rintro e w' ⟨rfl, hx⟩
    rw [rText_skip h0]
    exact ⟨rfl, h.no hx, hx.mono (fun _ _ h => h.elim)⟩

end Go.Proofs.Ytddobhihjljcgaa
