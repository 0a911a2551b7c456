/- Walks of the document's reader: New, Int, Fail, End. -/
import Derived.Test.YtddobhihjljcgaaCodeI
import Derived.Test.YtddobhihjljcgaaMA
import Derived.Deep.LoopGhost
import Derived.BigQuiet
namespace Go.Proofs.Ytddobhihjljcgaa
open Go.RowKit Go.Esc
set_option linter.unusedVariables false


theorem _root_.Go.Esc.Rd.extB {S : Nat → Prop} {w w' : World} {a : Option Addr} {b : List UInt8} (h : Rd w a (bs b)) (hx : Ext S w w') (hs : b ≠ [] → ∀ ad, a = some ad → ¬ S ad.block) : Rd w' a (bs b) := by
  cases b with
  | nil => exact Rd.nil _ _
  | cons x b => exact h.ext hx (hs (by simp))
theorem _root_.Go.Esc.Rd.low {w : World} {a : Option Addr} {b : List UInt8} (h : Rd w a (bs b)) (hb : b ≠ []) (ad : Addr) (ha : a = some ad) : ad.block < w.heap.size := by
  obtain ⟨ad', h1, h2⟩ := h.ne (by cases b with | nil => exact absurd rfl hb | cons x b => simp)
  rw [ha] at h1
  cases h1
  exact h2

/-- A reader of the document's lies in block g; of its bytes b these are left; this error. -/
structure XRdr (w : World) (g : Nat) (a : Option Addr) (c : Nat) (b : List UInt8) (l : List UInt8) (er : Int) : Prop where
  sl : w.cell? ⟨g, 0, none⟩ = some (.slice a b.length c)
  pos : ∃ p : Nat, p ≤ b.length ∧ w.cell? ⟨g, 1, none⟩ = some (.int .i64 p) ∧ l = b.drop p
  err : w.cell? ⟨g, 2, none⟩ = some (.int .i64 er)
  fr : ∀ j, w.frozen? ⟨g, j, none⟩ = false
  rd : Rd w a (bs b)
  cap : b.length ≤ c
  cm : c ≤ maxLen
  sep : b ≠ [] → ∀ ad, a = some ad → ad.block ≠ g

theorem XRdr.lt {w : World} {g : Nat} {a : Option Addr} {c : Nat} {b l : List UInt8} {er : Int} (h : XRdr w g a c b l er) : g < w.heap.size := World.block_lt_of_cell? w _ h.err
theorem XRdr.ext {S : Nat → Prop} {w w' : World} {g : Nat} {a : Option Addr} {c : Nat} {b l : List UInt8} {er : Int} (h : XRdr w g a c b l er) (hx : Ext S w w') (hg : ¬ S g) (hs : b ≠ [] → ∀ ad, a = some ad → ¬ S ad.block) : XRdr w' g a c b l er := by
  obtain ⟨p, h1, h2, h3⟩ := h.pos
  exact ⟨hx.keeps h.sl hg, ⟨p, h1, hx.keeps h2 hg, h3⟩, hx.keeps h.err hg, fun j => by rw [hx.frozen (p := ⟨g, j, none⟩) h.lt hg]; exact h.fr j, h.rd.extB hx hs, h.cap, h.cm, h.sep⟩
theorem XRdr.no {w w' : World} {g : Nat} {a : Option Addr} {c : Nat} {b l : List UInt8} {er : Int} (h : XRdr w g a c b l er) (hx : Ext no w w') : XRdr w' g a c b l er := h.ext hx (fun h => h) (fun _ _ _ h => h)
theorem XRdr.setErr {w : World} {g : Nat} {a : Option Addr} {c : Nat} {b l : List UInt8} {er : Int} (h : XRdr w g a c b l er) (k : Int) : XRdr (w.setCell ⟨g, 2, none⟩ (.int .i64 k)) g a c b l k := by
  obtain ⟨p, h1, h2, h3⟩ := h.pos
  refine ⟨?_, ⟨p, h1, ?_, h3⟩, World.cell?_setCell_same _ _ _ h.err, fun j => ?_, h.rd.extB (Ext.setCell (S := just g) _ _ _ rfl) h.sep, h.cap, h.cm, h.sep⟩
  · rw [World.cell?_setCell_other _ _ _ _ (by simp)]; exact h.sl
  · rw [World.cell?_setCell_other _ _ _ _ (by simp)]; exact h2
  · have := World.frozen?_setCells g [.int .i64 k] 2 w ⟨g, j, none⟩
    exact this.trans (h.fr j)
theorem XRdr.setPos {w : World} {g : Nat} {a : Option Addr} {c : Nat} {b l : List UInt8} {er : Int} (h : XRdr w g a c b l er) (p : Nat) (hp : p ≤ b.length) : XRdr (w.setCell ⟨g, 1, none⟩ (.int .i64 p)) g a c b (b.drop p) er := by
  obtain ⟨p0, h1, h2, h3⟩ := h.pos
  refine ⟨?_, ⟨p, hp, World.cell?_setCell_same _ _ _ h2, rfl⟩, ?_, fun j => ?_, h.rd.extB (Ext.setCell (S := just g) _ _ _ rfl) h.sep, h.cap, h.cm, h.sep⟩
  · rw [World.cell?_setCell_other _ _ _ _ (by simp)]; exact h.sl
  · rw [World.cell?_setCell_other _ _ _ _ (by simp)]; exact h.err
  · have := World.frozen?_setCells g [.int .i64 p] 1 w ⟨g, j, none⟩
    exact this.trans (h.fr j)

theorem xnew_any (w : World) (a : Option Addr) (c : Nat) (b : List UInt8) (hrd : Rd w a (bs b)) (hc : b.length ≤ c) (hm : c ≤ maxLen) :
    Calls Try.prog 38 #[.slice a b.length c] w fun e w' => e = .returned (.pointer (some ⟨w.heap.size, 0, none⟩)) ∧ XRdr w' w.heap.size a c b b 0 ∧ Ext no w w' := by
  go_enter Try.func38, Try.ntmps38
  go_wp2_with fail
  go_ret
  have hxa : Ext no w (w.alloc (.cells #[.slice a b.length c, .int .i64 0, .int .i64 0] 124)) := Ext.alloc _ _ _
  exact ⟨rfl, ⟨by simp, ⟨0, Nat.zero_le _, by simp, by simp⟩, by simp, fun j => by simp, hrd.ext hxa (fun _ _ h => h), hc, hm, fun hb ad ha => by have := hrd.low hb ad ha; omega⟩, hxa⟩

theorem xfail_any (w : World) (g : Nat) {a : Option Addr} {c : Nat} {b : List UInt8} (l : List UInt8) (er k : Int) (h : XRdr w g a c b l er) :
    Calls Try.prog 93 #[.pointer (some ⟨g, 0, none⟩), .int .i64 k] w fun e w' => e = .returned (.tuple #[]) ∧ XRdr w' g a c b l (fails er k) ∧ Ext (just g) w w' := by
  have hc := h.err
  have hf := h.fr 2
  by_cases h0 : er = 0
  · subst h0
    go_enter Try.func93, Try.ntmps93
    go_wp2_with fail
    go_end0
    exact ⟨rfl, h.setErr k, Ext.setCell _ _ _ rfl⟩
  · have hb : (er == 0) = false := by rw [beq_eq_false_iff_ne]; exact h0
    have H0 := Lib.hid h0
    clear h0
    go_enter Try.func93, Try.ntmps93
    go_wp2_with fail
    go_end0
    exact ⟨rfl, by unfold fails; rw [if_neg H0.out]; exact h, Ext.refl _ _⟩

theorem xend_any (w : World) (g : Nat) {a : Option Addr} {c : Nat} {b : List UInt8} (s : RS) (h : XRdr w g a c b s.l s.e) :
    Calls Try.prog 40 #[.pointer (some ⟨g, 0, none⟩)] w fun e w' => e = .returned (.int .i64 (rEnd s)) ∧ Ext no w w' := by
  have h1 := h.sl
  have hc := h.err
  obtain ⟨p, hp, h2, hl⟩ := h.pos
  by_cases h0 : s.e = 0
  · have hb : (s.e == 0) = true := by rw [beq_iff_eq]; exact h0
    by_cases hpl : p < b.length
    · have hl' : decide (p < b.length) = true := by rw [decide_eq_true_eq]; omega
      have hr : rEnd s = 9 := by unfold rEnd; rw [if_pos ⟨h0, by rw [hl]; simp; omega⟩]
      have Hr := Lib.hid hr
      clear h0 hr hl hpl
      go_enter Try.func40, Try.ntmps40
      go_upto_region 1 with fail
      go_quiet (fail)
      go_wp2_with fail
      go_ret
      exact ⟨by rw [Hr.out]; rfl, Ext.drewN no _ _⟩
    · have hl' : decide (p < b.length) = false := by rw [decide_eq_false_iff_not]; omega
      have hr : rEnd s = s.e := by unfold rEnd; rw [if_neg (fun hh => by have := hh.2; rw [hl] at this; simp at this; omega)]
      have Hr := Lib.hid hr
      clear h0 hr hl hpl
      go_enter Try.func40, Try.ntmps40
      go_upto_region 1 with fail
      go_quiet (fail)
      go_wp2_with fail
      go_ret
      exact ⟨by rw [Hr.out]; rfl, Ext.drewN no _ _⟩
  · have hb : (s.e == 0) = false := by rw [beq_eq_false_iff_ne]; exact h0
    have hr : rEnd s = s.e := by unfold rEnd; rw [if_neg (fun hh => h0 hh.1)]
    have Hr := Lib.hid hr
    clear h0 hr
    go_enter Try.func40, Try.ntmps40
    go_upto_region 1 with fail
    go_quiet (fail)
    go_wp2_with fail
    go_ret
    exact ⟨by rw [Hr.out]; rfl, Ext.drewN no _ _⟩
end Go.Proofs.Ytddobhihjljcgaa
