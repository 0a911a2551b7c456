/- The texts CodeE CodeF CodeG CodeH CodeI in one. -/
import Derived.Test.YtddobhihjljcgaaGreatMA
import Derived.Deep.LoopGhost
import Derived.Laws.Pointers
import Derived.Deep.DeepCutAuto
/- Walks of the package code: the reader: New, take, number, size. -/
namespace Go.Proofs.YtddobhihjljcgaaGreat
open Go.RowKit Go.Esc
set_option linter.unusedVariables false
/-- A reader of the program lies in block g, its bytes in block d (none: it never had any): these bytes are left; this error. -/
structure Rdr (w : World) (g : Nat) (d : Option Nat) (l : List UInt8) (er : Int) : Prop where
 sl : ∃ a c, w.cell? ⟨g, 0, none⟩ = some (.slice a l.length c) ∧ l.length ≤ c ∧ c ≤ maxLen ∧ Rd w a (bs l) ∧ ∀ ad, a = some ad → d = some ad.block
 sep : ∀ i, d = some i → i ≠ g ∧ i < w.heap.size
 err : w.cell? ⟨g, 1, none⟩ = some (.int .i64 er)
 fr : ∀ j, w.frozen? ⟨g, j, none⟩ = false
theorem Rdr.ext {S : Nat → Prop} {w w' : World} {g : Nat} {d : Option Nat} {l : List UInt8} {er : Int} (h : Rdr w g d l er) (hx : Ext S w w') (hg : ¬ S g) (hs : ∀ i, d = some i → ¬ S i) : Rdr w' g d l er := by
 obtain ⟨a, c, h1, h2, h3, h4, h5⟩ := h.sl
 have hb := World.block_lt_of_cell? w _ h1
 exact ⟨⟨a, c, hx.keeps h1 hg, h2, h3, h4.ext hx (fun ad ha => hs _ (h5 ad ha)), h5⟩, fun i hi => ⟨(h.sep i hi).1, Nat.lt_of_lt_of_le (h.sep i hi).2 hx.size⟩, hx.keeps h.err hg, fun j => by rw [hx.frozen (p := ⟨g, j, none⟩) hb hg]; exact h.fr j⟩
theorem Rdr.no {w w' : World} {g : Nat} {d : Option Nat} {l : List UInt8} {er : Int} (h : Rdr w g d l er) (hx : Ext no w w') : Rdr w' g d l er := h.ext hx (fun h => h) (fun _ _ h => h)
theorem Rdr.lt {w : World} {g : Nat} {d : Option Nat} {l : List UInt8} {er : Int} (h : Rdr w g d l er) : g < w.heap.size := World.block_lt_of_cell? w _ h.err
set_option maxHeartbeats 400000 in
theorem take_cut (w : World) (g n : Nat) {d : Option Nat} (l : List UInt8) (er : Int) (h : Rdr w g d l er) (hn : l.length < n) :
  Calls Tryz.prog 79 #[.pointer (some ⟨g, 0, none⟩), .int .i64 n] w fun e w' => e = .panicked [{ v := .iface 133 (.int .i64 8), recovered := false }] ∧ w = w' := by
 obtain ⟨a, c, h1, h2, h3, h4, h5⟩ := h.sl
 go_enter Tryz.func79, Tryz.ntmps79
 go_wp2_with fail
 exact ⟨rfl, rfl, rfl⟩
set_option maxHeartbeats 400000 in
theorem take_ok (w : World) (g n : Nat) {d : Option Nat} (l : List UInt8) (er : Int) (h : Rdr w g d l er) (hn : n ≤ l.length) :
  Calls Tryz.prog 79 #[.pointer (some ⟨g, 0, none⟩), .int .i64 n] w fun e w' => ∃ a c, e = .returned (.slice a n c) ∧ Rd w' a (bs (l.take n)) ∧ Rdr w' g d (l.drop n) er ∧ Ext (just g) w w' := by
 obtain ⟨a, c, h1, h2, h3, h4, h5⟩ := h.sl
 have f0 := h.fr 0
 go_enter Tryz.func79, Tryz.ntmps79
 go_wp2_with (first
  | (with_reducible show wpList _ _ _ _ _ _; refine wpList_cut_h TBytes rfl rfl rfl rfl n rfl (by omega) ?_)
  | (with_reducible show wpList _ _ _ _ _ _; refine wpList_cut_l TBytes rfl rfl rfl rfl n rfl (by omega) ?_))
 go_ret
 have hx : Ext (just g) w (w.setCell ⟨g, 0, none⟩ (.slice (cutAt a c n 1) (l.length - n) (c - n))) := Ext.setCell _ _ _ rfl
 have hn : ∀ ad, a = some ad → ¬ just g ad.block := fun ad ha he => (h.sep _ (h5 ad ha)).1 he
 refine ⟨a, c, rfl, ?_, ⟨⟨cutAt a c n 1, c - n, ?_, ?_, by omega, ?_, ?_⟩, fun i hi => ⟨(h.sep i hi).1, Nat.lt_of_lt_of_le (h.sep i hi).2 hx.size⟩, ?_, ?_⟩, hx⟩
 ·rw [← bs_take]; exact (h4.take n).ext hx hn
 ·rw [World.cell?_setCell_same _ _ _ h1, List.length_drop]
 ·rw [List.length_drop]; omega
 ·rw [← bs_drop]
  have := (h4.ext hx hn).cutAt c n 1 (fun e => by rw [bs_length]; omega)
  rwa [Nat.mul_one] at this
 ·intro ad ha
  obtain ⟨ad0, h6, h7⟩ := cutAt_block ha
  rw [h7]; exact h5 ad0 h6
 ·rw [World.cell?_setCell_other _ _ _ _ (by simp)]; exact h.err
 ·intro j
  have := World.frozen?_setCells g [.slice (cutAt a c n 1) (l.length - n) (c - n)] 0 w ⟨g, j, none⟩
  exact this.trans (h.fr j)
/-- What a call of the reader's inside ends with. -/
def NumEnd (l : List UInt8) (w : World) (g : Nat) (d : Option Nat) (er : Int) (e : Ending) (w' : World) : Prop :=
 ∃ r, Rdr w' g d r er ∧ Ext (just g) w w' ∧ ((∃ u, scan 0 true l = (.inr u, r) ∧ e = .returned (.int .i64 (sgn u))) ∨ (∃ k : Nat, scan 0 true l = (.inl k, r) ∧ e = .panicked [{ v := .iface 133 (.int .i64 k), recovered := false }]))
set_option maxRecDepth 100000 in
set_option maxHeartbeats 1000000 in
theorem number_any (w : World) (g : Nat) {d : Option Nat} (l : List UInt8) (er : Int) (h : Rdr w g d l er) :
  Calls Tryz.prog 60 #[.pointer (some ⟨g, 0, none⟩)] w (NumEnd l w g d er) := by
 go_enter Tryz.func60, Tryz.ntmps60
 go_wp2_with fail
 go_loopg [3, 4, 5] l.length (fun k s3 s4 _ wr => ∃ (u : Nat) (first : Bool) (l' : List UInt8), k = l'.length ∧ s3 = .int .u64 u ∧ s4 = .bool first ∧ u < 18446744073709551616 ∧ scan 0 true l = scan u first l' ∧ Rdr wr g d l' er ∧ Ext (just g) w wr)
 case atStart => exact ⟨0, true, l, rfl, rfl, rfl, by omega, rfl, h, Ext.refl _ _⟩
 case round =>
  clear h
  obtain ⟨u, first, l', rfl, rfl, rfl, hu, hsc, hr, hx⟩ := hrel
  cases l' with
  | nil =>
   go_wp2_with fail
   refine (take_cut wr g 1 [] er hr (by simp)).mono ?_
   rintro e w1 ⟨rfl, rfl⟩
   go_wp2_with fail
   exact ⟨rfl, [], hr, hx, .inr ⟨8, hsc, rfl⟩⟩
  | cons c r =>
   have hc8 : c.toNat < 256 := c.toNat_lt
   have Hsc := Lib.hid hsc
   have Hu := Lib.hid hu
   clear hsc hu
   go_wp2_with fail
   refine (take_ok wr g 1 (c :: r) er hr (by simp)).mono ?_
   rintro e w1 ⟨a, cc, rfl, hrd, hr1, hx1⟩
   have hx2 := hx.comp hx1
   obtain ⟨b, off, rfl, _⟩ := hrd.shape (by simp)
   have hcell := hrd.lookup 0 (by simp)
   rw [show (bs ((c :: r).take 1))[0]'(by simp) = .int .u8 c.toNat from rfl, Nat.add_zero] at hcell
   simp only [List.drop_one, List.tail_cons] at hr1
   clear hrd hr hx hx1
   by_cases hbad : (first = true ∧ c.toNat = 128) ∨ 144115188075855871 < u
   ·have hsc2 : scan 0 true l = (.inl 10, r) := by rw [Hsc.out, scan, if_pos hbad]
    rcases hbad with ⟨rfl, h128⟩ | hbig
    ·have hb1 : ((c.toNat : Int) == 128) = true := by rw [beq_iff_eq]; omega
     clear h128
     go_wp2_with fail
     exact ⟨rfl, r, hr1, hx2, .inr ⟨10, hsc2, rfl⟩⟩
    ·have hb2 : decide (144115188075855871 < (u : Int)) = true := by rw [decide_eq_true_eq]; omega
     clear hbig
     cases first with
     | false =>
      go_wp2_with fail
      exact ⟨rfl, r, hr1, hx2, .inr ⟨10, hsc2, rfl⟩⟩
     | true =>
      go_wp2_with fail
      all_goals exact ⟨rfl, r, hr1, hx2, .inr ⟨10, hsc2, rfl⟩⟩
   ·have hsc2 : scan u first (c :: r) = if c.toNat < 128 then (.inr (u * 128 + c.toNat % 128), r) else scan (u * 128 + c.toNat % 128) false r := by rw [scan, if_neg hbad]
    have hule : (u : Int) ≤ 144115188075855871 := by omega
    have hb2 : decide (144115188075855871 < (u : Int)) = false := by rw [decide_eq_false_iff_not]; omega
    have hor := or7 ((u : Int) * 128) ((c.toNat : Int) % 128) (by omega) (by omega) (by omega) (by omega) (by omega)
    have hb1 : first = true → ((c.toNat : Int) == 128) = false := by
     intro hf
     rw [beq_eq_false_iff_ne]
     intro h
     exact hbad (.inl ⟨hf, by omega⟩)
    have hv : u * 128 + c.toNat % 128 < 18446744073709551616 := by omega
    have hcast : ((u : Int) * 128 + (c.toNat : Int) % 128) = ((u * 128 + c.toNat % 128 : Nat) : Int) := by omega
    have Hv := Lib.hid hv
    have Hcast := Lib.hid hcast
    have Hsc2 := Lib.hid hsc2
    clear hbad hv hcast hsc2
    by_cases hc : c.toNat < 128
    ·have Hc := Lib.hid hc
     have hsc3 : scan 0 true l = (.inr (u * 128 + c.toNat % 128), r) := by rw [Hsc.out, Hsc2.out, if_pos hc]
     have Hsc3 := Lib.hid hsc3
     clear hsc3
     cases first with
     | false =>
      go_wp2_with fail
      all_goals
       go_ret
       refine ⟨r, hr1, hx2, .inl ⟨_, Hsc3.out, ?_⟩⟩
       first
        | (rw [sgn_odd _ _ Hcast.out (by assumption)]; rfl)
        | (rw [sgn_even _ _ Hcast.out (by assumption)]; rfl)
     | true =>
      have hb1 := hb1 rfl
      go_wp2_with fail
      all_goals
       go_ret
       refine ⟨r, hr1, hx2, .inl ⟨_, Hsc3.out, ?_⟩⟩
       first
        | (rw [sgn_odd _ _ Hcast.out (by assumption)]; rfl)
        | (rw [sgn_even _ _ Hcast.out (by assumption)]; rfl)
    ·have Hc := Lib.hid hc
     have hsc3 : scan 0 true l = scan (u * 128 + c.toNat % 128) false r := by rw [Hsc.out, Hsc2.out, if_neg hc]
     have Hsc3 := Lib.hid hsc3
     clear hsc3
     cases first with
     | false =>
      go_wp2_with fail
      go_roundg r.length
      case measure => simp
      case rel => exact ⟨_, false, r, rfl, by rw [← Hcast.out], rfl, Hv.out, Hsc3.out, hr1, hx2⟩
     | true =>
      have hb1 := hb1 rfl
      go_wp2_with fail
      go_roundg r.length
      case measure => simp
      case rel => exact ⟨_, false, r, rfl, by rw [← Hcast.out], rfl, Hv.out, Hsc3.out, hr1, hx2⟩
end Go.Proofs.YtddobhihjljcgaaGreat
/- Walks of the package code: Fail, caught, the deferred closures. -/
namespace Go.Proofs.YtddobhihjljcgaaGreat
open Go.RowKit Go.Esc
set_option linter.unusedVariables false
/-- The first error stays. -/
def fails (er k : Int) : Int := if er = 0 then k else er
theorem Rdr.fail {w : World} {g : Nat} {d : Option Nat} {l : List UInt8} {er : Int} (h : Rdr w g d l er) (k : Int) : Rdr (w.setCell ⟨g, 1, none⟩ (.int .i64 k)) g d l k := by
 obtain ⟨a, c, h1, h2, h3, h4, h5⟩ := h.sl
 have hx : Ext (just g) w (w.setCell ⟨g, 1, none⟩ (.int .i64 k)) := Ext.setCell _ _ _ rfl
 refine ⟨⟨a, c, ?_, h2, h3, h4.ext hx (fun ad ha he => (h.sep _ (h5 ad ha)).1 he), h5⟩, fun i hi => ⟨(h.sep i hi).1, Nat.lt_of_lt_of_le (h.sep i hi).2 hx.size⟩, ?_, ?_⟩
 ·rw [World.cell?_setCell_other _ _ _ _ (by simp)]; exact h1
 ·exact World.cell?_setCell_same _ _ _ h.err
 ·intro j
  have := World.frozen?_setCells g [.int .i64 k] 1 w ⟨g, j, none⟩
  exact this.trans (h.fr j)
set_option maxHeartbeats 400000 in
theorem fail_any (w : World) (g : Nat) {d : Option Nat} (l : List UInt8) (er k : Int) (h : Rdr w g d l er) :
  Calls Tryz.prog 29 #[.pointer (some ⟨g, 0, none⟩), .int .i64 k] w fun e w' => e = .returned (.tuple #[]) ∧ Rdr w' g d l (fails er k) ∧ Ext (just g) w w' := by
 have hc := h.err
 have hf := h.fr 1
 by_cases h0 : er = 0
 ·subst h0
  go_enter Tryz.func29, Tryz.ntmps29
  go_wp2_with fail
  go_end0
  exact ⟨rfl, h.fail k, Ext.setCell _ _ _ rfl⟩
 ·have hb : (er == 0) = false := by rw [beq_eq_false_iff_ne]; exact h0
  have H0 := Lib.hid h0
  clear h0
  go_enter Tryz.func29, Tryz.ntmps29
  go_wp2_with fail
  go_end0
  exact ⟨rfl, by unfold fails; rw [if_neg H0.out]; exact h, Ext.refl _ _⟩
theorem assert_wrong (k : Int) (w : World) : (Instr.typeAssert (.iface 133 (.int .i64 k)) 20 133 true).run Tryz.prog w = .ok (.tuple #[.int .i64 k, .bool true]) w := by kernel_rfl
set_option maxHeartbeats 400000 in
theorem caught_nil (w : World) (p : Value) :
  Calls Tryz.prog 59 #[p, .nilIface] w fun e w' => e = .returned (.tuple #[]) ∧ w = w' := by
 go_enter Tryz.func59, Tryz.ntmps59
 go_wp2_with fail
 exact bodyPost_ret (results_none rfl _ _ _) rfl ⟨rfl, rfl⟩
set_option maxHeartbeats 400000 in
theorem caught_wrong (w : World) (g : Nat) {d : Option Nat} (l : List UInt8) (er k : Int) (h : Rdr w g d l er) :
  Calls Tryz.prog 59 #[.pointer (some ⟨g, 0, none⟩), .iface 133 (.int .i64 k)] w fun e w' => e = .returned (.tuple #[]) ∧ Rdr w' g d l (fails er k) ∧ Ext (just g) w w' := by
 have hta := assert_wrong
 go_enter Tryz.func59, Tryz.ntmps59
 go_wp2_with fail
 refine (fail_any w g l er k h).mono ?_
 rintro e w1 ⟨rfl, hr, hx⟩
 go_wp2_with fail
 go_end0
 exact ⟨rfl, hr, hx⟩
/-- The deferred closure of a face that panics with an error of the package. -/
theorem int1_panicking (w : World) (g b : Nat) {d : Option Nat} (l : List UInt8) (er k : Int) (older : List PanicEntry) (h : Rdr w g d l er) (hb : w.cell? ⟨b, 0, none⟩ = some (.pointer (some ⟨g, 0, none⟩))) :
  CallsD Tryz.prog 58 #[.pointer (some ⟨b, 0, none⟩)] (.panicking ({ v := .iface 133 (.int .i64 k), recovered := false } :: older)) w fun e u' w' =>
   e = .returned (.tuple #[]) ∧ u' = .panicking ({ v := .iface 133 (.int .i64 k), recovered := true } :: older) ∧ Rdr w' g d l (fails er k) ∧ Ext (just g) w w' := by
 have hb' : w.drew.cell? ⟨b, 0, none⟩ = some (.pointer (some ⟨g, 0, none⟩)) := hb
 refine callsD_of_wpS Tryz.func58 rfl fun c₀ cs hu => ?_
 refine wpS_region_draw (by kernel_rfl) [[0, 1, 2], [1, 0, 2]] (by kernel_rfl) ?_
 intro l' hl
 simp only [List.mem_cons, List.not_mem_nil, or_false] at hl
 rcases hl with rfl | rfl
 all_goals
  simp [wpOpsS, go_sem, recoverD, hu, Tryz.ntmps58, hb']
  refine (caught_wrong w.drew g l er k (h.no (Ext.drew no w))).mono ?_
  rintro e w1 ⟨rfl, hr, hx⟩
  simp [bodyPostS, results, Tryz.results58]
  exact ⟨hr, (Ext.drew _ _).comp hx⟩
/-- The deferred closure of a face that returns. -/
theorem int1_returning (w : World) (g b : Nat) (hb : w.cell? ⟨b, 0, none⟩ = some (.pointer (some ⟨g, 0, none⟩))) :
  CallsD Tryz.prog 58 #[.pointer (some ⟨b, 0, none⟩)] .returning w fun e u' w' => e = .returned (.tuple #[]) ∧ u' = .returning ∧ Ext no w w' := by
 have hb' : w.drew.cell? ⟨b, 0, none⟩ = some (.pointer (some ⟨g, 0, none⟩)) := hb
 refine callsD_of_wpS Tryz.func58 rfl fun c₀ cs hu => ?_
 refine wpS_region_draw (by kernel_rfl) [[0, 1, 2], [1, 0, 2]] (by kernel_rfl) ?_
 intro l' hl
 simp only [List.mem_cons, List.not_mem_nil, or_false] at hl
 rcases hl with rfl | rfl
 all_goals
  simp [wpOpsS, go_sem, recoverD, hu, Tryz.ntmps58, hb']
  refine (caught_nil w.drew _).mono ?_
  rintro e w1 ⟨rfl, rfl⟩
  cases c₀
  simp_all [bodyPostS, results, Tryz.results58]
  exact Ext.drew _ _
/-- The deferred closure of a face that panics with an error of the package. -/
theorem text1_panicking (w : World) (g b : Nat) {d : Option Nat} (l : List UInt8) (er k : Int) (older : List PanicEntry) (h : Rdr w g d l er) (hb : w.cell? ⟨b, 0, none⟩ = some (.pointer (some ⟨g, 0, none⟩))) :
  CallsD Tryz.prog 97 #[.pointer (some ⟨b, 0, none⟩)] (.panicking ({ v := .iface 133 (.int .i64 k), recovered := false } :: older)) w fun e u' w' =>
   e = .returned (.tuple #[]) ∧ u' = .panicking ({ v := .iface 133 (.int .i64 k), recovered := true } :: older) ∧ Rdr w' g d l (fails er k) ∧ Ext (just g) w w' := by
 have hb' : w.drew.cell? ⟨b, 0, none⟩ = some (.pointer (some ⟨g, 0, none⟩)) := hb
 refine callsD_of_wpS Tryz.func97 rfl fun c₀ cs hu => ?_
 refine wpS_region_draw (by kernel_rfl) [[0, 1, 2], [1, 0, 2]] (by kernel_rfl) ?_
 intro l' hl
 simp only [List.mem_cons, List.not_mem_nil, or_false] at hl
 rcases hl with rfl | rfl
 all_goals
  simp [wpOpsS, go_sem, recoverD, hu, Tryz.ntmps97, hb']
  refine (caught_wrong w.drew g l er k (h.no (Ext.drew no w))).mono ?_
  rintro e w1 ⟨rfl, hr, hx⟩
  simp [bodyPostS, results, Tryz.results97]
  exact ⟨hr, (Ext.drew _ _).comp hx⟩
/-- The deferred closure of a face that returns. -/
theorem text1_returning (w : World) (g b : Nat) (hb : w.cell? ⟨b, 0, none⟩ = some (.pointer (some ⟨g, 0, none⟩))) :
  CallsD Tryz.prog 97 #[.pointer (some ⟨b, 0, none⟩)] .returning w fun e u' w' => e = .returned (.tuple #[]) ∧ u' = .returning ∧ Ext no w w' := by
 have hb' : w.drew.cell? ⟨b, 0, none⟩ = some (.pointer (some ⟨g, 0, none⟩)) := hb
 refine callsD_of_wpS Tryz.func97 rfl fun c₀ cs hu => ?_
 refine wpS_region_draw (by kernel_rfl) [[0, 1, 2], [1, 0, 2]] (by kernel_rfl) ?_
 intro l' hl
 simp only [List.mem_cons, List.not_mem_nil, or_false] at hl
 rcases hl with rfl | rfl
 all_goals
  simp [wpOpsS, go_sem, recoverD, hu, Tryz.ntmps97, hb']
  refine (caught_nil w.drew _).mono ?_
  rintro e w1 ⟨rfl, rfl⟩
  cases c₀
  simp_all [bodyPostS, results, Tryz.results97]
  exact Ext.drew _ _
end Go.Proofs.YtddobhihjljcgaaGreat
/- Walks of the package code: New, Int, size, Text, Ints, End of a reader. -/
namespace Go.Proofs.YtddobhihjljcgaaGreat
open Go.RowKit Go.Esc
set_option linter.unusedVariables false
theorem mkFunc : ∀ (fn : Fn) (first cap : Array Value) (w : World), (Instr.makeFunc fn first cap).run Tryz.prog w = .ok (.func fn first cap) w := fun _ _ _ _ => rfl
/-- The face's own variable: a block that holds where the reader lies. -/
theorem boxed (w : World) (g : Nat) {w1 : World} (hg : g < w.heap.size) (hx : Ext (just g) (w.alloc (.cells #[.pointer (some ⟨g, 0, none⟩)] 77)) w1) : w1.cell? ⟨w.heap.size, 0, none⟩ = some (.pointer (some ⟨g, 0, none⟩)) :=
 hx.keeps (by simp) (by simp only [Esc.just]; omega)
theorem face_ext (w : World) (g : Nat) {w1 w2 : World} (o : Obj) (hx : Ext (just g) (w.alloc o) w1) (hx2 : Ext (just g) w1 w2) : Ext (just g) w w2 := ((Ext.alloc _ _ _).comp hx).comp hx2
set_option maxHeartbeats 400000 in
theorem rdInt_any (w : World) (g : Nat) {d : Option Nat} (s : RS) (h : Rdr w g d s.l s.e) :
  Calls Tryz.prog 28 #[.pointer (some ⟨g, 0, none⟩)] w fun e w' => e = .returned (.int .i64 (rInt s).1) ∧ Rdr w' g d (rInt s).2.l (rInt s).2.e ∧ Ext (just g) w w' := by
 have hmf := mkFunc
 have h1 := h.no (Ext.alloc no w (.cells #[.pointer (some ⟨g, 0, none⟩)] 77))
 have hg := h.lt
 have hc := h1.err
 by_cases h0 : s.e = 0
 ·rw [h0] at h1 hc
  have H0 := Lib.hid h0
  clear h0
  go_enter_defers Tryz.func28, Tryz.ntmps28
  go_wp2_with fail
  refine (number_any _ g s.l 0 h1).mono ?_
  rintro e w1 ⟨r, hr1, hx1, ⟨u, hsc, rfl⟩ | ⟨k, hsc, rfl⟩⟩
  ·have Hsc := Lib.hid hsc
   clear hsc
   go_wp2_with fail
   refine leaves_cons (f := 58) (args := #[.pointer (some ⟨w.heap.size, 0, none⟩)]) (by simp) (by simp [go_sem]) ?_
   refine (int1_returning w1 g w.heap.size (boxed w g hg hx1)).mono ?_
   rintro e u' w2 ⟨rfl, rfl, hx2⟩
   rw [rInt_ok H0.out Hsc.out]
   exact ⟨_, results_tmp rfl _ _ _, rfl, hr1.no hx2, face_ext w g _ hx1 (hx2.mono (fun _ _ h => h.elim))⟩
  ·have Hsc := Lib.hid hsc
   clear hsc
   go_wp2_with fail
   refine leaves_cons (f := 58) (args := #[.pointer (some ⟨w.heap.size, 0, none⟩)]) (by simp) (by simp [go_sem]) ?_
   refine (int1_panicking w1 g w.heap.size r 0 k [] hr1 (boxed w g hg hx1)).mono ?_
   rintro e u' w2 ⟨rfl, rfl, hr2, hx2⟩
   rw [rInt_err H0.out Hsc.out]
   refine ⟨_, results_tmp rfl _ _ _, rfl, hr2, face_ext w g _ hx1 hx2⟩
 ·have hb : (s.e == 0) = false := by rw [beq_eq_false_iff_ne]; exact h0
  have H0 := Lib.hid h0
  clear h0
  go_enter_defers Tryz.func28, Tryz.ntmps28
  go_wp2_with fail
  refine leaves_cons (f := 58) (args := #[.pointer (some ⟨w.heap.size, 0, none⟩)]) (by simp) (by simp [go_sem]) ?_
  refine (int1_returning _ g w.heap.size (by simp)).mono ?_
  rintro e u' w2 ⟨rfl, rfl, hx2⟩
  rw [rInt_skip H0.out]
  exact ⟨_, results_tmp rfl _ _ _, rfl, h1.no hx2, (Ext.alloc _ _ _).comp (hx2.mono (fun _ _ h => h.elim))⟩
/-- What size ends with. -/
def LenEnd (l : List UInt8) (w : World) (g : Nat) (d : Option Nat) (er : Int) (e : Ending) (w' : World) : Prop :=
 ∃ r, Rdr w' g d r er ∧ Ext (just g) w w' ∧ ((∃ n : Nat, n ≤ 65535 ∧ rLen l = (.inr n, r) ∧ e = .returned (.int .i64 n)) ∨ (∃ k : Nat, rLen l = (.inl k, r) ∧ e = .panicked [{ v := .iface 133 (.int .i64 k), recovered := false }]))
set_option maxHeartbeats 400000 in
theorem size_any (w : World) (g : Nat) {d : Option Nat} (l : List UInt8) (er : Int) (h : Rdr w g d l er) :
  Calls Tryz.prog 98 #[.pointer (some ⟨g, 0, none⟩)] w (LenEnd l w g d er) := by
 go_enter Tryz.func98, Tryz.ntmps98
 go_wp2_with fail
 refine (number_any w g l er h).mono ?_
 rintro e w1 ⟨r, hr1, hx1, ⟨u, hsc, rfl⟩ | ⟨k, hsc, rfl⟩⟩
 ·obtain ⟨x, hx⟩ : ∃ x, sgn u = x := ⟨_, rfl⟩
  rw [hx]
  have Hsc := Lib.hid hsc
  have Hx := Lib.hid hx
  clear hsc hx
  rcases Int.lt_or_le x 0 with hneg | hpos
  ·go_wp2_with fail
   exact ⟨rfl, r, hr1, hx1, .inr ⟨4, rLen_many_of Hsc.out (by rw [Hx.out]; omega), rfl⟩⟩
  ·rcases Int.lt_or_le 65535 x with hbig | hsm
   ·go_wp2_with fail
    exact ⟨rfl, r, hr1, hx1, .inr ⟨4, rLen_many_of Hsc.out (by rw [Hx.out]; omega), rfl⟩⟩
   ·go_wp2_with fail
    go_ret
    refine ⟨r, hr1, hx1, .inl ⟨x.toNat, by omega, by rw [rLen_ok_of Hsc.out (by rw [Hx.out]; omega) (by rw [Hx.out]; omega), Hx.out], ?_⟩⟩
    rw [show ((x.toNat : Nat) : Int) = x from by omega]; rfl
 ·have Hsc := Lib.hid hsc
  clear hsc
  go_wp2_with fail
  exact ⟨rfl, r, hr1, hx1, .inr ⟨k, rLen_err_of Hsc.out, rfl⟩⟩
set_option maxHeartbeats 1000000 in
theorem rdText_any (w : World) (g : Nat) {d : Option Nat} (s : RS) (h : Rdr w g d s.l s.e) :
  Calls Tryz.prog 81 #[.pointer (some ⟨g, 0, none⟩)] w fun e w' => e = .returned (.string (str (rText s).1)) ∧ Rdr w' g d (rText s).2.l (rText s).2.e ∧ Ext (just g) w w' := by
 have hmf := mkFunc
 have h1 := h.no (Ext.alloc no w (.cells #[.pointer (some ⟨g, 0, none⟩)] 77))
 have hg := h.lt
 have hc := h1.err
 by_cases h0 : s.e = 0
 ·rw [h0] at h1 hc
  have H0 := Lib.hid h0
  clear h0
  go_enter_defers Tryz.func81, Tryz.ntmps81
  go_upto_region 3 with fail
  refine wp_region_lin (by kernel_rfl) [[0, 1, 2, 3, 4, 5], [1, 0, 2, 3, 4, 5], [1, 2, 0, 3, 4, 5]] (by kernel_rfl) ?_
  intro js hjs
  simp only [List.mem_cons, List.not_mem_nil, or_false] at hjs
  rcases hjs with rfl | rfl | rfl
  all_goals
   simp only [picked, opAt]
   go_wp2_with fail
   refine (size_any _ g s.l 0 (h1.no (Ext.drew no _))).mono ?_
   rintro e w1 ⟨r, hr1, hx1, ⟨n, hn, hlen, rfl⟩ | ⟨k, hlen, rfl⟩⟩
   ·have Hlen := Lib.hid hlen
    clear hlen
    have hbx := boxed w g hg ((Ext.drew _ _).comp hx1)
    by_cases hnr : n ≤ r.length
    ·go_wp2_with fail
     refine (take_ok w1 g n r 0 hr1 hnr).mono ?_
     rintro e w2 ⟨a, c, rfl, hrd, hr2, hx2⟩
     have hl : (r.take n).length = n := by rw [List.length_take]; omega
     go_wp2_with (with_reducible show wpList _ _ _ _ _ _; refine wpList_string_of (by exact Tryz.underlying37) (by exact Tryz.underlying5) (by exact Tryz.underlying9) rfl rfl rfl hl.symm hrd ?_)
     refine leaves_cons (f := 97) (args := #[.pointer (some ⟨w.heap.size, 0, none⟩)]) (by simp) (by simp [go_sem]) ?_
     refine (text1_returning w2 g w.heap.size (hx2.keeps hbx (by simp only [Esc.just]; omega))).mono ?_
     rintro e u' w3 ⟨rfl, rfl, hx3⟩
     rw [rText_ok H0.out Hlen.out hnr]
     exact ⟨_, results_tmp rfl _ _ _, rfl, hr2.no hx3, face_ext w g _ (((Ext.drew _ _).comp hx1).comp hx2) (hx3.mono (fun _ _ h => h.elim))⟩
    ·have hnr' : r.length < n := by omega
     clear hnr
     go_wp2_with fail
     refine (take_cut w1 g n r 0 hr1 hnr').mono ?_
     rintro e w2 ⟨rfl, rfl⟩
     go_wp2_with fail
     refine leaves_cons (f := 97) (args := #[.pointer (some ⟨w.heap.size, 0, none⟩)]) (by simp) (by simp [go_sem]) ?_
     refine (text1_panicking w1 g w.heap.size r 0 8 [] hr1 hbx).mono ?_
     rintro e u' w3 ⟨rfl, rfl, hr2, hx2⟩
     rw [rText_cut H0.out Hlen.out hnr']
     exact ⟨_, results_tmp rfl _ _ _, rfl, hr2, face_ext w g _ ((Ext.drew _ _).comp hx1) hx2⟩
   ·have Hlen := Lib.hid hlen
    clear hlen
    go_wp2_with fail
    refine leaves_cons (f := 97) (args := #[.pointer (some ⟨w.heap.size, 0, none⟩)]) (by simp) (by simp [go_sem]) ?_
    refine (text1_panicking w1 g w.heap.size r 0 k [] hr1 (boxed w g hg ((Ext.drew _ _).comp hx1))).mono ?_
    rintro e u' w2 ⟨rfl, rfl, hr2, hx2⟩
    rw [rText_err H0.out Hlen.out]
    exact ⟨_, results_tmp rfl _ _ _, rfl, hr2, face_ext w g _ ((Ext.drew _ _).comp hx1) hx2⟩
 ·have hb : (s.e == 0) = false := by rw [beq_eq_false_iff_ne]; exact h0
  have H0 := Lib.hid h0
  clear h0
  go_enter_defers Tryz.func81, Tryz.ntmps81
  go_wp2_with fail
  refine leaves_cons (f := 97) (args := #[.pointer (some ⟨w.heap.size, 0, none⟩)]) (by simp) (by simp [go_sem]) ?_
  refine (text1_returning _ g w.heap.size (by simp)).mono ?_
  rintro e u' w2 ⟨rfl, rfl, hx2⟩
  rw [rText_skip H0.out]
  exact ⟨_, results_tmp rfl _ _ _, rfl, h1.no hx2, (Ext.alloc _ _ _).comp (hx2.mono (fun _ _ h => h.elim))⟩
end Go.Proofs.YtddobhihjljcgaaGreat
/- Walks of the package code: Ints of a reader. -/
namespace Go.Proofs.YtddobhihjljcgaaGreat
open Go.RowKit Go.Esc
set_option linter.unusedVariables false
theorem ints1_panicking (w : World) (g b b2 : Nat) {d : Option Nat} (v : Value) (l : List UInt8) (er k : Int) (older : List PanicEntry) (h : Rdr w g d l er) (hb : w.cell? ⟨b, 0, none⟩ = some (.pointer (some ⟨g, 0, none⟩)))
  (hb2 : w.cell? ⟨b2, 0, none⟩ = some v) (hf2 : w.frozen? ⟨b2, 0, none⟩ = false) (hne : b2 ≠ b) (hne2 : b2 ≠ g) (hd : ∀ i, d = some i → i ≠ b2) :
  CallsD Tryz.prog 99 #[.pointer (some ⟨b2, 0, none⟩), .pointer (some ⟨b, 0, none⟩)] (.panicking ({ v := .iface 133 (.int .i64 k), recovered := false } :: older)) w fun e u' w' =>
   e = .returned (.tuple #[]) ∧ u' = .panicking ({ v := .iface 133 (.int .i64 k), recovered := true } :: older) ∧ Rdr w' g d l (fails er k) ∧ w'.cell? ⟨b2, 0, none⟩ = some (.slice none 0 0) ∧ Ext (fun i => i = g ∨ i = b2) w w' := by
 refine callsD_of_wpS Tryz.func99 rfl fun c₀ cs hu => ?_
 apply wpS_seq
 apply wpS_region
 simp [wpOpsS, go_sem, recoverD, hu, Tryz.ntmps99, Exit.thenS]
 apply wpS_of_wp
 go_wp2_with fail
 have hxs : Ext (just b2) w (w.setCell ⟨b2, 0, none⟩ (.slice none 0 0)) := Ext.setCell _ _ _ rfl
 refine (caught_wrong _ g l er k (h.ext hxs (fun hh => hne2 hh.symm) (fun i hi hh => hd i hi hh))).mono ?_
 rintro e w1 ⟨rfl, hr, hx⟩
 go_wp2_with fail
 simp [bodyPostS, results, Tryz.results99]
 refine ⟨hr, hx.keeps (World.cell?_setCell_same _ _ _ hb2) hne2, ?_⟩
 exact (hxs.mono (fun i _ hi => .inr hi)).comp (hx.mono (fun i _ hi => .inl hi))
theorem ints1_returning (w : World) (b b2 : Nat) (p : Value) (hb : w.cell? ⟨b, 0, none⟩ = some p) :
  CallsD Tryz.prog 99 #[.pointer (some ⟨b2, 0, none⟩), .pointer (some ⟨b, 0, none⟩)] .returning w fun e u' w' => e = .returned (.tuple #[]) ∧ u' = .returning ∧ w = w' := by
 refine callsD_of_wpS Tryz.func99 rfl fun c₀ cs hu => ?_
 apply wpS_seq
 apply wpS_region
 simp [wpOpsS, go_sem, recoverD, hu, Tryz.ntmps99, Exit.thenS]
 apply wpS_of_wp
 go_wp2_with fail
 refine (caught_nil w _).mono ?_
 rintro e w1 ⟨rfl, rfl⟩
 go_wp2_with fail
 cases c₀
 simp_all [bodyPostS, results, Tryz.results99]
/-- The state of the loop of Ints. -/
structure IntsInv (w : World) (g : Nat) (d : Option Nat) (n : Nat) (r0 : List UInt8) (k : Nat) (acc : List Int) (l' : List UInt8) (a : Option Addr) (c : Nat) (wr : World) : Prop where
 len : acc.length = k
 nums : rNums n [] r0 = rNums (n - k) acc l'
 rdr : Rdr wr g d l' 0
 cell : wr.cell? ⟨w.heap.size + 1, 0, none⟩ = some (.slice a k c)
 fr : wr.frozen? ⟨w.heap.size + 1, 0, none⟩ = false
 box : wr.cell? ⟨w.heap.size, 0, none⟩ = some (.pointer (some ⟨g, 0, none⟩))
 own : Own wr (w.heap.size + 2) a 1 k c (is acc)
 ext : Ext (just g) w wr
 size : w.heap.size + 2 ≤ wr.heap.size
theorem rNums_step {n k : Nat} {acc : List Int} {l r : List UInt8} {u : Nat} (hk : k < n) (h : scan 0 true l = (.inr u, r)) : rNums (n - k) acc l = rNums (n - (k + 1)) (acc ++ [sgn u]) r := by
 obtain ⟨m, hm⟩ : ∃ m, n - k = m + 1 := ⟨n - k - 1, by omega⟩
 rw [hm, show n - (k + 1) = m from by omega, rNums, h]
theorem rNums_stop {n k : Nat} {acc : List Int} {l r : List UInt8} {q : Nat} (hk : k < n) (h : scan 0 true l = (.inl q, r)) : rNums (n - k) acc l = (.inl q, r) := by
 obtain ⟨m, hm⟩ : ∃ m, n - k = m + 1 := ⟨n - k - 1, by omega⟩
 rw [hm, rNums, h]
theorem IntsInv.step (w : World) (g : Nat) (d : Option Nat) (n : Nat) (r : List UInt8) (k : Nat) (acc : List Int) (r' : List UInt8) (a : Option Addr) (c : Nat) (w1 w2 : World) (u : Nat) (a2 : Option Addr) (c2 : Nat) (ti : TypeId) (hg : g < w.heap.size) (hdlt : ∀ i, d = some i → i < w.heap.size)
  (hlen : acc.length = k) (hnums : rNums n [] r = rNums (n - (k + 1)) (acc ++ [sgn u]) r') (hr1 : Rdr w1 g d r' 0) (hcell : w1.cell? ⟨w.heap.size + 1, 0, none⟩ = some (.slice a k c)) (hfr : w1.frozen? ⟨w.heap.size + 1, 0, none⟩ = false)
  (hbox : w1.cell? ⟨w.heap.size, 0, none⟩ = some (.pointer (some ⟨g, 0, none⟩))) (hown : Own w1 (w.heap.size + 2) a 1 k c (is acc)) (hext : Ext (just g) w w1) (hsz : w.heap.size + 2 ≤ w1.heap.size)
  (happ : App (w1.alloc (.cells #[.int .i64 (sgn u)] ti)) w2 (w.heap.size + 2) 1 a k c (is acc) a2 c2 1 [.int .i64 (sgn u)]) :
  IntsInv w g d n r (k + 1) (acc ++ [sgn u]) r' a2 c2 (w2.setCell ⟨w.heap.size + 1, 0, none⟩ (.slice a2 (k + 1) c2)) ∧ w2.cell? ⟨w.heap.size + 1, 0, none⟩ = some (.slice a k c) ∧ w2.frozen? ⟨w.heap.size + 1, 0, none⟩ = false := by
 have hba : ∀ i, blk a i → w.heap.size + 2 ≤ i := by
  rintro i ⟨ad, ha, rfl⟩
  exact (hown.base ad ha).1
 have hx2 : Ext (blk a) w1 w2 := (Ext.alloc _ _ _).comp happ.ext
 have hc2 : w2.cell? ⟨w.heap.size + 1, 0, none⟩ = some (.slice a k c) := hx2.keeps hcell (fun h => by have := hba _ h; simp only at this; omega)
 have hf2 : w2.frozen? ⟨w.heap.size + 1, 0, none⟩ = false := by
  rw [hx2.frozen (p := ⟨w.heap.size + 1, 0, none⟩) (World.block_lt_of_cell? _ _ hcell) (fun h => by have := hba _ h; simp only at this; omega)]; exact hfr
 have hxs : Ext (just (w.heap.size + 1)) w2 (w2.setCell ⟨w.heap.size + 1, 0, none⟩ (.slice a2 (k + 1) c2)) := Ext.setCell _ _ _ rfl
 refine ⟨⟨by simp [hlen], hnums, ?_, World.cell?_setCell_same _ _ _ hc2, ?_, ?_, ?_, ?_, ?_⟩, hc2, hf2⟩
 ·refine (hr1.ext hx2 (fun h => by have := hba _ h; omega) (fun i hi h => by have := hba _ h; have := hdlt i hi; omega)).ext hxs (fun h => by simp only [Esc.just] at h; omega) (fun i hi h => by have := hdlt i hi; simp only [Esc.just] at h; omega)
 ·have := World.frozen?_setCells (w.heap.size + 1) [.slice a2 (k + 1) c2] 0 w2 ⟨w.heap.size + 1, 0, none⟩
  exact this.trans hf2
 ·exact hxs.keeps (hx2.keeps hbox (fun h => by have := hba _ h; simp only at this; omega)) (fun h => by simp only [Esc.just] at h; omega)
 ·have := happ.own.ext hxs (fun ad ha h => by have := (happ.own.base ad ha).1; simp only [Esc.just] at h; omega)
  rwa [show is acc ++ [Value.int .i64 (sgn u)] = is (acc ++ [sgn u]) from by simp [is, I64]] at this
 ·refine (hext.trans hx2 (fun i hi h => by have := hba _ h; omega)).trans hxs (fun i hi h => by simp only [Esc.just] at h; omega)
 ·have := hx2.size
  simp
  omega
end Go.Proofs.YtddobhihjljcgaaGreat
/- Walks of the package code: New and End of a reader. -/
namespace Go.Proofs.YtddobhihjljcgaaGreat
open Go.RowKit Go.Esc
set_option linter.unusedVariables false
theorem new_any (w : World) (a : Option Addr) (c : Nat) (l : List UInt8) (hrd : Rd w a (bs l)) (hl : l.length ≤ 70368744177664) :
  Calls Tryz.prog 27 #[.slice a l.length c] w fun e w' => ∃ g d, e = .returned (.pointer (some ⟨g, 0, none⟩)) ∧ Rdr w' g d l 0 ∧ w.heap.size ≤ g ∧ (∀ i, d = some i → w.heap.size ≤ i) ∧ Ext no w w' := by
 go_enter Tryz.func27, Tryz.ntmps27
 go_wp2_with fail
 refine (clone_any w a c l hrd hl).mono ?_
 rintro e w1 ⟨a2, c2, rfl, hown, hx⟩
 have h1 := hown.nc
 have h2 := hown.cm
 have h3 := hown.rd
 have h4 := hown.base
 clear hown
 go_wp2_with fail
 go_ret
 have hxa : Ext no w1 (w1.alloc (.cells #[.slice a2 l.length c2, .int .i64 0] 116)) := Ext.alloc _ _ _
 refine ⟨w1.heap.size, a2.map Addr.block, rfl, ⟨⟨a2, c2, by simp, h1, h2, h3.ext hxa (fun _ _ h => h), fun ad ha => by rw [ha]; rfl⟩, ?_, by simp, fun j => by simp⟩, hx.size, ?_, hx.comp hxa⟩
 ·intro i hi
  cases a2 with
  | none => cases hi
  | some ad =>
   have := (h4 ad rfl).2.1
   simp at hi ⊢
   omega
 ·intro i hi
  cases a2 with
  | none => cases hi
  | some ad =>
   have := (h4 ad rfl).1
   simp at hi
   omega
theorem end_any (w : World) (g : Nat) {d : Option Nat} (s : RS) (h : Rdr w g d s.l s.e) :
  Calls Tryz.prog 31 #[.pointer (some ⟨g, 0, none⟩)] w fun e w' => e = .returned (.int .i64 (rEnd s)) ∧ w = w' := by
 obtain ⟨a, c, h1, h2, h3, h4, h5⟩ := h.sl
 have hc := h.err
 by_cases h0 : s.e = 0
 ·have hb : (s.e == 0) = true := by rw [beq_iff_eq]; exact h0
  by_cases hl : 0 < s.l.length
  ·have hl' : decide (0 < s.l.length) = true := by rw [decide_eq_true_eq]; omega
   have hr : rEnd s = 9 := by unfold rEnd; rw [if_pos ⟨h0, hl⟩]
   have Hr := Lib.hid hr
   clear h0 hl hr
   go_enter Tryz.func31, Tryz.ntmps31
   go_wp2_with fail
   go_ret
   exact ⟨by rw [Hr.out]; rfl, rfl⟩
  ·have hl' : decide (0 < s.l.length) = false := by rw [decide_eq_false_iff_not]; omega
   have hr : rEnd s = s.e := by unfold rEnd; rw [if_neg (fun hh => hl hh.2)]
   have Hr := Lib.hid hr
   clear h0 hl hr
   go_enter Tryz.func31, Tryz.ntmps31
   go_wp2_with fail
   go_ret
   exact ⟨by rw [Hr.out]; rfl, rfl⟩
 ·have hb : (s.e == 0) = false := by rw [beq_eq_false_iff_ne]; exact h0
  have hr : rEnd s = s.e := by unfold rEnd; rw [if_neg (fun hh => h0 hh.1)]
  have Hr := Lib.hid hr
  clear h0 hr
  go_enter Tryz.func31, Tryz.ntmps31
  go_wp2_with fail
  go_ret
  exact ⟨by rw [Hr.out]; rfl, rfl⟩
end Go.Proofs.YtddobhihjljcgaaGreat
