/- Walks of the document's reader: Int. -/
import Derived.Test.YtddobhihjljcgaaRefB
namespace Go.Proofs.Ytddobhihjljcgaa
open Go.RowKit Go.Esc
set_option linter.unusedVariables false

theorem sgn_odd' (v : Nat) (x : Int) (hx : x = (v : Int)) (h : (x % 2 == 1) = true) : sgn v = -1 - x / 2 := by
  rw [sgn_odd v x hx h]; omega

theorem and1 (x : Int) (h0 : 0 ≤ x) (h1 : x < 18446744073709551616) : bits .and .u64 x 1 = x % 2 := bits_mask .u64 64 (by decide) wraps_u64 1 (by decide) x h0 (by simpa using h1)

/-- What a face of the document's reader leaves. -/
def XEnd (w : World) (g : Nat) (a : Option Addr) (c : Nat) (b : List UInt8) (s : RS) (w' : World) : Prop := XRdr w' g a c b s.l s.e ∧ Ext (just g) w w'

set_option maxHeartbeats 1000000 in
theorem xint_skip (w : World) (g : Nat) {a : Option Addr} {c : Nat} {b l : List UInt8} {er : Int} (h : XRdr w g a c b l er) (h0 : er ≠ 0) :
    Calls Try.prog 70 #[.pointer (some ⟨g, 0, none⟩)] w fun e w' => e = .returned (.int .i64 0) ∧ Ext no w w' := by
  have h1 := h.sl
  have hc := h.err
  have hb : (er == 0) = false := by rw [beq_eq_false_iff_ne]; exact h0
  clear h0
  go_enter Try.func70, Try.ntmps70
  go_upto_region 3 with fail
  go_loopw [3, 4, 5] (fun s3 s4 _ wr => s3 = .int .u64 0 ∧ s4 = .int .i64 0 ∧ wr = w) (fun _ _ _ _ => 0)
  case atStart => exact ⟨rfl, rfl, rfl⟩
  case round =>
    obtain ⟨rfl, rfl, rfl⟩ := hrel
    go_upto_region 4 with fail
    go_quiet (fail)
    go_wp2_with fail
    go_ret
    exact ⟨rfl, Ext.drewN no _ _⟩

set_option maxRecDepth 100000 in
set_option maxHeartbeats 1000000 in
theorem xint_ok (w : World) (g : Nat) {a : Option Addr} {c : Nat} {b l : List UInt8} (h : XRdr w g a c b l 0) :
    Calls Try.prog 70 #[.pointer (some ⟨g, 0, none⟩)] w fun e w' => ∃ r, Ext (just g) w w' ∧
      ((∃ u, scan 0 true l = (.inr u, r) ∧ e = .returned (.int .i64 (sgn u)) ∧ XRdr w' g a c b r 0) ∨ (∃ k : Nat, scan 0 true l = (.inl k, r) ∧ e = .returned (.int .i64 0) ∧ XRdr w' g a c b r k)) := by
  have hcap := h.cap
  have hcm := h.cm
  unfold maxLen at hcm
  go_enter Try.func70, Try.ntmps70
  go_upto_region 3 with fail
  go_loopg [3, 4, 5] l.length (fun k s3 s4 _ wr => ∃ (u : Nat) (i : Nat) (l' : List UInt8), k = l'.length ∧ s3 = .int .u64 u ∧ s4 = .int .i64 i ∧ i + l'.length ≤ b.length ∧ u < 18446744073709551616 ∧ scan 0 true l = scan u (i == 0) l' ∧ XRdr wr g a c b l' 0 ∧ Ext (just g) w wr)
  case atStart => 
    obtain ⟨p, hp, _, hl⟩ := h.pos
    exact ⟨0, 0, l, rfl, rfl, rfl, by rw [hl]; simp, by omega, rfl, h, Ext.refl _ _⟩
  case round =>
    clear h
    obtain ⟨u, i, l', rfl, rfl, rfl, hil, hu, hsc, hr, hx⟩ := hrel
    have h1 := hr.sl
    have hc := hr.err
    have hf1 := hr.fr 1
    have hf2 := hr.fr 2
    obtain ⟨p, hp, h2, hl⟩ := hr.pos
    have hll : l'.length = b.length - p := by rw [hl]; simp
    cases l' with
    | nil =>
      have hpb : decide (b.length ≤ p) = true := by rw [decide_eq_true_eq]; simp at hll; omega
      have Hl := Lib.hid hl
      have Hsc := Lib.hid hsc
      clear hl hll hsc hil
      go_upto_region 4 with fail
      go_quiet (fail)
      go_wp2_with fail
      go_ret
      exact ⟨[], (hx.comp (Ext.drewN _ _ _)).comp (Ext.setCell _ _ _ rfl), .inr ⟨8, Hsc.out, rfl, (hr.no (Ext.drewN no _ _)).setErr 8⟩⟩
    | cons x r =>
      have hpb : decide (b.length ≤ p) = false := by rw [decide_eq_false_iff_not]; simp at hll; omega
      have hp1 : p + 1 ≤ b.length := by simp at hll; omega
      have hc8 : x.toNat < 256 := x.toNat_lt
      have hxp : b[p]'(by omega) = x ∧ r = b.drop (p + 1) := by
        rw [List.drop_eq_getElem_cons (by omega)] at hl
        simp only [List.cons.injEq] at hl
        exact ⟨hl.1.symm, hl.2⟩
      obtain ⟨bb, off, rfl, _⟩ := hr.rd.shape (by simp; omega)
      have hcell := hr.rd.lookup p (by simp; omega)
      rw [show (bs b)[p]'(by simp; omega) = .int .u8 x.toNat from by simp [bs, B8, hxp.1]] at hcell
      have Hr9 := Lib.hid (show ∀ wq, Ext no wr wq → XRdr (wq.setCell ⟨g, 1, none⟩ (.int .i64 ((p + 1 : Nat) : Int))) g (some ⟨bb, off, none⟩) c b r 0 from fun wq hq => by
        have := (hr.no hq).setPos (p + 1) (by omega)
        rwa [← hxp.2] at this)
      have hne : bb ≠ g := hr.sep (by rintro rfl; simp at hp1) _ rfl
      clear hl hll hxp
      have Hsc := Lib.hid hsc
      have Hu := Lib.hid hu
      simp only [List.length_cons] at hil
      clear hsc hu
      go_upto_region 4 with fail
      go_quiet (fail)
      go_upto_region 8 with fail
      go_quiet (fail)
      go_upto_region 10 with fail
      generalize hw2 : World.setCell _ _ _ = w2
      have hr2 : XRdr w2 g (some ⟨bb, off, none⟩) c b r 0 := by rw [← hw2]; exact Hr9.out _ (Ext.drewN no _ _)
      have hx2 : Ext (just g) w w2 := by rw [← hw2]; exact hx.comp ((Ext.drewN (just g) _ _).comp (Ext.setCell _ _ _ rfl))
      have hc2 := hr2.err
      have hf22 := hr2.fr 2
      have hx3 : ∀ v, Ext (just g) w (w2.setCell ⟨g, 2, none⟩ v) := fun v => hx2.comp (Ext.setCell _ _ _ rfl)
      clear hw2 hr hx Hr9 h1 h2 hc hf1 hf2 hcell
      by_cases hbad : ((i == 0) = true ∧ x.toNat = 128) ∨ 144115188075855871 < u
      · have hsc2 : scan 0 true l = (.inl 10, r) := by rw [Hsc.out, scan, if_pos hbad]
        have Hs2 := Lib.hid hsc2
        clear hsc2
        rcases hbad with ⟨hi0, h128⟩ | hbig
        · have hi0' : ((i : Int) == 0) = true := by rw [beq_iff_eq] at hi0 ⊢; omega
          have hb1 : ((x.toNat : Int) == 128) = true := by rw [beq_iff_eq]; omega
          clear h128 hi0
          go_wp2_with fail
          go_ret
          exact ⟨r, hx3 _, .inr ⟨10, Hs2.out, rfl, hr2.setErr 10⟩⟩
        · have hb2 : (!(u : Int) / 144115188075855872 == 0) = true := by rw [Bool.not_eq_true', beq_eq_false_iff_ne]; omega
          by_cases hi0 : i = 0
          · have hi0' : ((i : Int) == 0) = true := by rw [beq_iff_eq]; omega
            by_cases h128 : x.toNat = 128
            · have hb1 : ((x.toNat : Int) == 128) = true := by rw [beq_iff_eq]; omega
              clear h128 hi0
              go_wp2_with fail
              go_ret
              exact ⟨r, hx3 _, .inr ⟨10, Hs2.out, rfl, hr2.setErr 10⟩⟩
            · have hb1 : ((x.toNat : Int) == 128) = false := by rw [beq_eq_false_iff_ne]; omega
              clear h128 hi0
              go_wp2_with fail
              go_ret
              exact ⟨r, hx3 _, .inr ⟨10, Hs2.out, rfl, hr2.setErr 10⟩⟩
          · have hi0' : ((i : Int) == 0) = false := by rw [beq_eq_false_iff_ne]; omega
            clear hi0
            go_wp2_with fail
            go_ret
            exact ⟨r, hx3 _, .inr ⟨10, Hs2.out, rfl, hr2.setErr 10⟩⟩
      · have hsc2 : scan u (i == 0) (x :: r) = if x.toNat < 128 then (.inr (u * 128 + x.toNat % 128), r) else scan (u * 128 + x.toNat % 128) false r := by rw [scan, if_neg hbad]
        have hb2 : (!(u : Int) / 144115188075855872 == 0) = false := by rw [Bool.not_eq_false', beq_iff_eq]; omega
        have hor := or7 ((u : Int) * 128) ((x.toNat : Int) % 128) (by omega) (by omega) (by omega) (by omega) (by omega)
        have hand := and127 (x.toNat : Int) (by omega) (by omega)
        have hand1 := and1 ((u : Int) * 128 + (x.toNat : Int) % 128) (by omega) (by omega)
        have hv : u * 128 + x.toNat % 128 < 18446744073709551616 := by omega
        have hcast : ((u : Int) * 128 + (x.toNat : Int) % 128) = ((u * 128 + x.toNat % 128 : Nat) : Int) := by omega
        have hule : (u : Int) ≤ 144115188075855871 := by omega
        have hcase : (((i : Int) == 0) = true ∧ ((x.toNat : Int) == 128) = false) ∨ ((i : Int) == 0) = false := by
          by_cases hi0 : i = 0
          · refine .inl ⟨by rw [beq_iff_eq]; omega, ?_⟩
            rw [beq_eq_false_iff_ne]
            intro h
            exact hbad (.inl ⟨by rw [beq_iff_eq]; exact hi0, by omega⟩)
          · exact .inr (by rw [beq_eq_false_iff_ne]; omega)
        have Hv := Lib.hid hv
        have Hcast := Lib.hid hcast
        have Hsc2 := Lib.hid hsc2
        clear hbad hv hcast hsc2
        by_cases hc : x.toNat < 128
        · have hsc3 : scan 0 true l = (.inr (u * 128 + x.toNat % 128), r) := by rw [Hsc.out, Hsc2.out, if_pos hc]
          have Hsc3 := Lib.hid hsc3
          clear hsc3
          rcases hcase with ⟨hi0, hb1⟩ | hi0
          all_goals
            go_wp2_with fail
            all_goals
              go_ret
              refine ⟨r, hx2, .inl ⟨_, Hsc3.out, ?_, hr2⟩⟩
              first
                | (rw [sgn_odd _ _ Hcast.out (by assumption)]; rfl)
                | (rw [sgn_even _ _ Hcast.out (by assumption)]; rfl)
                | (rw [sgn_odd' _ _ Hcast.out (by assumption)]; rfl)
        · have hsc3 : scan 0 true l = scan (u * 128 + x.toNat % 128) false r := by rw [Hsc.out, Hsc2.out, if_neg hc]
          have Hsc3 := Lib.hid hsc3
          clear hsc3
          rcases hcase with ⟨hi0, hb1⟩ | hi0
          all_goals
            go_wp2_with fail
            go_roundg r.length
            case measure => simp
            case rel => exact ⟨_, i + 1, r, rfl, by rw [← Hcast.out], by go_num, by omega, Hv.out, Hsc3.out, hr2, hx2⟩
end Go.Proofs.Ytddobhihjljcgaa
