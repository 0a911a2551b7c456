/- Walks of the package code: Fail, caught, the deferred closures. -/
import Derived.Test.YtddobhihjljcgaaCodeE
import Derived.Test.YtddobhihjljcgaaMA
import Derived.Laws.Pointers
namespace Go.Proofs.Ytddobhihjljcgaa
open Go.RowKit Go.Esc
set_option linter.unusedVariables false

/-- The first error stays. -/
def fails (er k : Int) : Int := if er = 0 then k else er

theorem Rdr.fail {w : World} {g : Nat} {d : Option Nat} {l : List UInt8} {er : Int} (h : Rdr w g d l er) (k : Int) : Rdr (w.setCell ⟨g, 1, none⟩ (.int .i64 k)) g d l k := by
  obtain ⟨a, c, h1, h2, h3, h4, h5⟩ := h.sl
  have hx : Ext (just g) w (w.setCell ⟨g, 1, none⟩ (.int .i64 k)) := Ext.setCell _ _ _ rfl
  refine ⟨⟨a, c, ?_, h2, h3, h4.ext hx (fun ad ha he => (h.sep _ (h5 ad ha)).1 he), h5⟩, fun i hi => ⟨(h.sep i hi).1, Nat.lt_of_lt_of_le (h.sep i hi).2 hx.size⟩, ?_, ?_⟩
  · rw [World.cell?_setCell_other _ _ _ _ (by simp)]; exact h1
  · exact World.cell?_setCell_same _ _ _ h.err
  · intro j
    have := World.frozen?_setCells g [.int .i64 k] 1 w ⟨g, j, none⟩
    exact this.trans (h.fr j)

set_option maxHeartbeats 400000 in
theorem fail_any (w : World) (g : Nat) {d : Option Nat} (l : List UInt8) (er k : Int) (h : Rdr w g d l er) :
    Calls Try.prog 32 #[.pointer (some ⟨g, 0, none⟩), .int .i64 k] w fun e w' => e = .returned (.tuple #[]) ∧ Rdr w' g d l (fails er k) ∧ Ext (just g) w w' := by
  have hc := h.err
  have hf := h.fr 1
  by_cases h0 : er = 0
  · subst h0
    go_enter Try.func32, Try.ntmps32
    go_wp2_with fail
    go_end0
    exact ⟨rfl, h.fail k, Ext.setCell _ _ _ rfl⟩
  · have hb : (er == 0) = false := by rw [beq_eq_false_iff_ne]; exact h0
    have H0 := Lib.hid h0
    clear h0
    go_enter Try.func32, Try.ntmps32
    go_wp2_with fail
    go_end0
    exact ⟨rfl, by unfold fails; rw [if_neg H0.out]; exact h, Ext.refl _ _⟩

theorem assert_wrong (k : Int) (w : World) : (Instr.typeAssert (.iface 138 (.int .i64 k)) 20 138 true).run Try.prog w = .ok (.tuple #[.int .i64 k, .bool true]) w := by kernel_rfl

set_option maxHeartbeats 400000 in
theorem caught_nil (w : World) (p : Value) :
    Calls Try.prog 60 #[p, .nilIface] w fun e w' => e = .returned (.tuple #[]) ∧ w = w' := by
  go_enter Try.func60, Try.ntmps60
  go_wp2_with fail
  exact bodyPost_ret (results_none rfl _ _ _) rfl ⟨rfl, rfl⟩

set_option maxHeartbeats 400000 in
theorem caught_wrong (w : World) (g : Nat) {d : Option Nat} (l : List UInt8) (er k : Int) (h : Rdr w g d l er) :
    Calls Try.prog 60 #[.pointer (some ⟨g, 0, none⟩), .iface 138 (.int .i64 k)] w fun e w' => e = .returned (.tuple #[]) ∧ Rdr w' g d l (fails er k) ∧ Ext (just g) w w' := by
  have hta := assert_wrong
  go_enter Try.func60, Try.ntmps60
  go_wp2_with fail
  refine (fail_any w g l er k h).mono ?_
  rintro e w1 ⟨rfl, hr, hx⟩
  go_wp2_with fail
  go_end0
  exact ⟨rfl, hr, hx⟩

/-- The deferred closure of a face that panics with an error of the package. -/
theorem int1_panicking (w : World) (g b : Nat) {d : Option Nat} (l : List UInt8) (er k : Int) (older : List PanicEntry) (h : Rdr w g d l er) (hb : w.cell? ⟨b, 0, none⟩ = some (.pointer (some ⟨g, 0, none⟩))) :
    CallsD Try.prog 59 #[.pointer (some ⟨b, 0, none⟩)] (.panicking ({ v := .iface 138 (.int .i64 k), recovered := false } :: older)) w fun e u' w' =>
      e = .returned (.tuple #[]) ∧ u' = .panicking ({ v := .iface 138 (.int .i64 k), recovered := true } :: older) ∧ Rdr w' g d l (fails er k) ∧ Ext (just g) w w' := by
  have hb' : w.drew.cell? ⟨b, 0, none⟩ = some (.pointer (some ⟨g, 0, none⟩)) := hb
  refine callsD_of_wpS Try.func59 rfl fun c₀ cs hu => ?_
  refine wpS_region_draw (by kernel_rfl) [[0, 1, 2], [1, 0, 2]] (by kernel_rfl) ?_
  intro l' hl
  simp only [List.mem_cons, List.not_mem_nil, or_false] at hl
  rcases hl with rfl | rfl
  all_goals
    simp [wpOpsS, go_sem, recoverD, hu, Try.ntmps59, hb']
    refine (caught_wrong w.drew g l er k (h.no (Ext.drew no w))).mono ?_
    rintro e w1 ⟨rfl, hr, hx⟩
    simp [bodyPostS, results, Try.results59]
    exact ⟨hr, (Ext.drew _ _).comp hx⟩

/-- The deferred closure of a face that returns. -/
theorem int1_returning (w : World) (g b : Nat) (hb : w.cell? ⟨b, 0, none⟩ = some (.pointer (some ⟨g, 0, none⟩))) :
    CallsD Try.prog 59 #[.pointer (some ⟨b, 0, none⟩)] .returning w fun e u' w' => e = .returned (.tuple #[]) ∧ u' = .returning ∧ Ext no w w' := by
  have hb' : w.drew.cell? ⟨b, 0, none⟩ = some (.pointer (some ⟨g, 0, none⟩)) := hb
  refine callsD_of_wpS Try.func59 rfl fun c₀ cs hu => ?_
  refine wpS_region_draw (by kernel_rfl) [[0, 1, 2], [1, 0, 2]] (by kernel_rfl) ?_
  intro l' hl
  simp only [List.mem_cons, List.not_mem_nil, or_false] at hl
  rcases hl with rfl | rfl
  all_goals
    simp [wpOpsS, go_sem, recoverD, hu, Try.ntmps59, hb']
    refine (caught_nil w.drew _).mono ?_
    rintro e w1 ⟨rfl, rfl⟩
    cases c₀
    simp_all [bodyPostS, results, Try.results59]
    exact Ext.drew _ _

/-- The deferred closure of a face that panics with an error of the package. -/
theorem text1_panicking (w : World) (g b : Nat) {d : Option Nat} (l : List UInt8) (er k : Int) (older : List PanicEntry) (h : Rdr w g d l er) (hb : w.cell? ⟨b, 0, none⟩ = some (.pointer (some ⟨g, 0, none⟩))) :
    CallsD Try.prog 91 #[.pointer (some ⟨b, 0, none⟩)] (.panicking ({ v := .iface 138 (.int .i64 k), recovered := false } :: older)) w fun e u' w' =>
      e = .returned (.tuple #[]) ∧ u' = .panicking ({ v := .iface 138 (.int .i64 k), recovered := true } :: older) ∧ Rdr w' g d l (fails er k) ∧ Ext (just g) w w' := by
  have hb' : w.drew.cell? ⟨b, 0, none⟩ = some (.pointer (some ⟨g, 0, none⟩)) := hb
  refine callsD_of_wpS Try.func91 rfl fun c₀ cs hu => ?_
  refine wpS_region_draw (by kernel_rfl) [[0, 1, 2], [1, 0, 2]] (by kernel_rfl) ?_
  intro l' hl
  simp only [List.mem_cons, List.not_mem_nil, or_false] at hl
  rcases hl with rfl | rfl
  all_goals
    simp [wpOpsS, go_sem, recoverD, hu, Try.ntmps91, hb']
    refine (caught_wrong w.drew g l er k (h.no (Ext.drew no w))).mono ?_
    rintro e w1 ⟨rfl, hr, hx⟩
    simp [bodyPostS, results, Try.results91]
    exact ⟨hr, (Ext.drew _ _).comp hx⟩

/-- The deferred closure of a face that returns. -/
theorem text1_returning (w : World) (g b : Nat) (hb : w.cell? ⟨b, 0, none⟩ = some (.pointer (some ⟨g, 0, none⟩))) :
    CallsD Try.prog 91 #[.pointer (some ⟨b, 0, none⟩)] .returning w fun e u' w' => e = .returned (.tuple #[]) ∧ u' = .returning ∧ Ext no w w' := by
  have hb' : w.drew.cell? ⟨b, 0, none⟩ = some (.pointer (some ⟨g, 0, none⟩)) := hb
  refine callsD_of_wpS Try.func91 rfl fun c₀ cs hu => ?_
  refine wpS_region_draw (by kernel_rfl) [[0, 1, 2], [1, 0, 2]] (by kernel_rfl) ?_
  intro l' hl
  simp only [List.mem_cons, List.not_mem_nil, or_false] at hl
  rcases hl with rfl | rfl
  all_goals
    simp [wpOpsS, go_sem, recoverD, hu, Try.ntmps91, hb']
    refine (caught_nil w.drew _).mono ?_
    rintro e w1 ⟨rfl, rfl⟩
    cases c₀
    simp_all [bodyPostS, results, Try.results91]
    exact Ext.drew _ _

end Go.Proofs.Ytddobhihjljcgaa
