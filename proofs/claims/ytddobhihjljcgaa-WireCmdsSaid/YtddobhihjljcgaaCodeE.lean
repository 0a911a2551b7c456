/- Walks of the package code: the reader: New, take, number, size. -/
import Derived.Test.YtddobhihjljcgaaMA
import Derived.Deep.LoopGhost
namespace Go.Proofs.Ytddobhihjljcgaa
open Go.RowKit Go.Esc
set_option linter.unusedVariables false

/-- A reader of the program lies in block g, its bytes in block d (none: it never had any): these bytes are left; this error. -/
structure Rdr (w : World) (g : Nat) (d : Option Nat) (l : List UInt8) (er : Int) : Prop where
  sl : ∃ a c, w.cell? ⟨g, 0, none⟩ = some (.slice a l.length c) ∧ l.length ≤ c ∧ c ≤ maxLen ∧ Rd w a (bs l) ∧ ∀ ad, a = some ad → d = some ad.block
  sep : ∀ i, d = some i → i ≠ g ∧ i < w.heap.size
  err : w.cell? ⟨g, 1, none⟩ = some (.int .i64 er)
  fr : ∀ j, w.frozen? ⟨g, j, none⟩ = false

theorem Rdr.ext {S : Nat → Prop} {w w' : World} {g : Nat} {d : Option Nat} {l : List UInt8} {er : Int} (h : Rdr w g d l er) (hx : Ext S w w') (hg : ¬ S g) (hs : ∀ i, d = some i → ¬ S i) : Rdr w' g d l er := by
  obtain ⟨a, c, h1, h2, h3, h4, h5⟩ := h.sl
  have hb := World.block_lt_of_cell? w _ h1
  exact ⟨⟨a, c, hx.keeps h1 hg, h2, h3, h4.ext hx (fun ad ha => hs _ (h5 ad ha)), h5⟩, fun i hi => ⟨(h.sep i hi).1, Nat.lt_of_lt_of_le (h.sep i hi).2 hx.size⟩, hx.keeps h.err hg, fun j => by rw [hx.frozen (p := ⟨g, j, none⟩) hb hg]; exact h.fr j⟩

theorem Rdr.no {w w' : World} {g : Nat} {d : Option Nat} {l : List UInt8} {er : Int} (h : Rdr w g d l er) (hx : Ext no w w') : Rdr w' g d l er := h.ext hx (fun h => h) (fun _ _ h => h)
theorem Rdr.lt {w : World} {g : Nat} {d : Option Nat} {l : List UInt8} {er : Int} (h : Rdr w g d l er) : g < w.heap.size := World.block_lt_of_cell? w _ h.err

set_option maxHeartbeats 400000 in
theorem take_cut (w : World) (g n : Nat) {d : Option Nat} (l : List UInt8) (er : Int) (h : Rdr w g d l er) (hn : l.length < n) :
    Calls Try.prog 86 #[.pointer (some ⟨g, 0, none⟩), .int .i64 n] w fun e w' => e = .panicked [{ v := .iface 138 (.int .i64 8), recovered := false }] ∧ w = w' := by
  obtain ⟨a, c, h1, h2, h3, h4, h5⟩ := h.sl
  go_enter Try.func86, Try.ntmps86
  go_wp2_with fail
  exact ⟨rfl, rfl, rfl⟩

set_option maxHeartbeats 400000 in
theorem take_ok (w : World) (g n : Nat) {d : Option Nat} (l : List UInt8) (er : Int) (h : Rdr w g d l er) (hn : n ≤ l.length) :
    Calls Try.prog 86 #[.pointer (some ⟨g, 0, none⟩), .int .i64 n] w fun e w' => ∃ a c, e = .returned (.slice a n c) ∧ Rd w' a (bs (l.take n)) ∧ Rdr w' g d (l.drop n) er ∧ Ext (just g) w w' := by
  obtain ⟨a, c, h1, h2, h3, h4, h5⟩ := h.sl
  have f0 := h.fr 0
  go_enter Try.func86, Try.ntmps86
  go_wp2_with (first
    | (with_reducible show wpList _ _ _ _ _ _
       refine wpList_cut_h TBytes rfl rfl rfl rfl n rfl (by omega) ?_)
    | (with_reducible show wpList _ _ _ _ _ _
       refine wpList_cut_l TBytes rfl rfl rfl rfl n rfl (by omega) ?_))
  go_ret
  have hx : Ext (just g) w (w.setCell ⟨g, 0, none⟩ (.slice (cutAt a c n 1) (l.length - n) (c - n))) := Ext.setCell _ _ _ rfl
  have hn : ∀ ad, a = some ad → ¬ just g ad.block := fun ad ha he => (h.sep _ (h5 ad ha)).1 he
  refine ⟨a, c, rfl, ?_, ⟨⟨cutAt a c n 1, c - n, ?_, ?_, by omega, ?_, ?_⟩, fun i hi => ⟨(h.sep i hi).1, Nat.lt_of_lt_of_le (h.sep i hi).2 hx.size⟩, ?_, ?_⟩, hx⟩
  · rw [← bs_take]; exact (h4.take n).ext hx hn
  · rw [World.cell?_setCell_same _ _ _ h1, List.length_drop]
  · rw [List.length_drop]; omega
  · rw [← bs_drop]
    have := (h4.ext hx hn).cutAt c n 1 (fun e => by rw [bs_length]; omega)
    rwa [Nat.mul_one] at this
  · intro ad ha
    obtain ⟨ad0, h6, h7⟩ := cutAt_block ha
    rw [h7]; exact h5 ad0 h6
  · rw [World.cell?_setCell_other _ _ _ _ (by simp)]; exact h.err
  · intro j
    have := World.frozen?_setCells g [.slice (cutAt a c n 1) (l.length - n) (c - n)] 0 w ⟨g, j, none⟩
    exact this.trans (h.fr j)

/-- What a call of the reader's inside ends with. -/
def NumEnd (l : List UInt8) (w : World) (g : Nat) (d : Option Nat) (er : Int) (e : Ending) (w' : World) : Prop :=
  ∃ r, Rdr w' g d r er ∧ Ext (just g) w w' ∧ ((∃ u, scan 0 true l = (.inr u, r) ∧ e = .returned (.int .i64 (sgn u))) ∨ (∃ k : Nat, scan 0 true l = (.inl k, r) ∧ e = .panicked [{ v := .iface 138 (.int .i64 k), recovered := false }]))

set_option maxRecDepth 100000 in
set_option maxHeartbeats 1000000 in
theorem number_any (w : World) (g : Nat) {d : Option Nat} (l : List UInt8) (er : Int) (h : Rdr w g d l er) :
    Calls Try.prog 61 #[.pointer (some ⟨g, 0, none⟩)] w (NumEnd l w g d er) := by
  go_enter Try.func61, Try.ntmps61
  go_wp2_with fail
  go_loopg [3, 4, 5] l.length (fun k s3 s4 _ wr => ∃ (u : Nat) (first : Bool) (l' : List UInt8), k = l'.length ∧ s3 = .int .u64 u ∧ s4 = .bool first ∧ u < 18446744073709551616 ∧ scan 0 true l = scan u first l' ∧ Rdr wr g d l' er ∧ Ext (just g) w wr)
  case atStart => exact ⟨0, true, l, rfl, rfl, rfl, by omega, rfl, h, Ext.refl _ _⟩
  case round =>
    clear h
    obtain ⟨u, first, l', rfl, rfl, rfl, hu, hsc, hr, hx⟩ := hrel
    cases l' with
    | nil =>
      go_wp2_with fail
      refine (take_cut wr g 1 [] er hr (by simp)).mono ?_
      rintro e w1 ⟨rfl, rfl⟩
      go_wp2_with fail
      exact ⟨rfl, [], hr, hx, .inr ⟨8, hsc, rfl⟩⟩
    | cons c r =>
      have hc8 : c.toNat < 256 := c.toNat_lt
      have Hsc := Lib.hid hsc
      have Hu := Lib.hid hu
      clear hsc hu
      go_wp2_with fail
      refine (take_ok wr g 1 (c :: r) er hr (by simp)).mono ?_
      rintro e w1 ⟨a, cc, rfl, hrd, hr1, hx1⟩
      have hx2 := hx.comp hx1
      obtain ⟨b, off, rfl, _⟩ := hrd.shape (by simp)
      have hcell := hrd.lookup 0 (by simp)
      rw [show (bs ((c :: r).take 1))[0]'(by simp) = .int .u8 c.toNat from rfl, Nat.add_zero] at hcell
      simp only [List.drop_one, List.tail_cons] at hr1
      clear hrd hr hx hx1
      by_cases hbad : (first = true ∧ c.toNat = 128) ∨ 144115188075855871 < u
      · have hsc2 : scan 0 true l = (.inl 10, r) := by rw [Hsc.out, scan, if_pos hbad]
        rcases hbad with ⟨rfl, h128⟩ | hbig
        · have hb1 : ((c.toNat : Int) == 128) = true := by rw [beq_iff_eq]; omega
          clear h128
          go_wp2_with fail
          exact ⟨rfl, r, hr1, hx2, .inr ⟨10, hsc2, rfl⟩⟩
        · have hb2 : decide (144115188075855871 < (u : Int)) = true := by rw [decide_eq_true_eq]; omega
          clear hbig
          cases first with
          | false =>
            go_wp2_with fail
            exact ⟨rfl, r, hr1, hx2, .inr ⟨10, hsc2, rfl⟩⟩
          | true =>
            go_wp2_with fail
            all_goals exact ⟨rfl, r, hr1, hx2, .inr ⟨10, hsc2, rfl⟩⟩
      · have hsc2 : scan u first (c :: r) = if c.toNat < 128 then (.inr (u * 128 + c.toNat % 128), r) else scan (u * 128 + c.toNat % 128) false r := by rw [scan, if_neg hbad]
        have hule : (u : Int) ≤ 144115188075855871 := by omega
        have hb2 : decide (144115188075855871 < (u : Int)) = false := by rw [decide_eq_false_iff_not]; omega
        have hor := or7 ((u : Int) * 128) ((c.toNat : Int) % 128) (by omega) (by omega) (by omega) (by omega) (by omega)
        have hb1 : first = true → ((c.toNat : Int) == 128) = false := by
          intro hf
          rw [beq_eq_false_iff_ne]
          intro h
          exact hbad (.inl ⟨hf, by omega⟩)
        have hv : u * 128 + c.toNat % 128 < 18446744073709551616 := by omega
        have hcast : ((u : Int) * 128 + (c.toNat : Int) % 128) = ((u * 128 + c.toNat % 128 : Nat) : Int) := by omega
        have Hv := Lib.hid hv
        have Hcast := Lib.hid hcast
        have Hsc2 := Lib.hid hsc2
        clear hbad hv hcast hsc2
        by_cases hc : c.toNat < 128
        · have Hc := Lib.hid hc
          have hsc3 : scan 0 true l = (.inr (u * 128 + c.toNat % 128), r) := by rw [Hsc.out, Hsc2.out, if_pos hc]
          have Hsc3 := Lib.hid hsc3
          clear hsc3
          cases first with
          | false =>
            go_wp2_with fail
            all_goals
              go_ret
              refine ⟨r, hr1, hx2, .inl ⟨_, Hsc3.out, ?_⟩⟩
              first
                | (rw [sgn_odd _ _ Hcast.out (by assumption)]; rfl)
                | (rw [sgn_even _ _ Hcast.out (by assumption)]; rfl)
          | true =>
            have hb1 := hb1 rfl
            go_wp2_with fail
            all_goals
              go_ret
              refine ⟨r, hr1, hx2, .inl ⟨_, Hsc3.out, ?_⟩⟩
              first
                | (rw [sgn_odd _ _ Hcast.out (by assumption)]; rfl)
                | (rw [sgn_even _ _ Hcast.out (by assumption)]; rfl)
        · have Hc := Lib.hid hc
          have hsc3 : scan 0 true l = scan (u * 128 + c.toNat % 128) false r := by rw [Hsc.out, Hsc2.out, if_neg hc]
          have Hsc3 := Lib.hid hsc3
          clear hsc3
          cases first with
          | false =>
            go_wp2_with fail
            go_roundg r.length
            case measure => simp
            case rel => exact ⟨_, false, r, rfl, by rw [← Hcast.out], rfl, Hv.out, Hsc3.out, hr1, hx2⟩
          | true =>
            have hb1 := hb1 rfl
            go_wp2_with fail
            go_roundg r.length
            case measure => simp
            case rel => exact ⟨_, false, r, rfl, by rw [← Hcast.out], rfl, Hv.out, Hsc3.out, hr1, hx2⟩

end Go.Proofs.Ytddobhihjljcgaa
