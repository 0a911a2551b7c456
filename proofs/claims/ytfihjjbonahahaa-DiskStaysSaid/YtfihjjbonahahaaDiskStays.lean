/- The walk of the law DiskStays. -/
import Derived.Test.YtfihjjbonahahaaDkL
import Derived.Test.YtfihjjbonahahaaDkO
namespace Go.Proofs.Ytfihjjbonahahaa
open Go.RowKit Go.Esc
set_option linter.unusedVariables false

/-- What stays: the front a of the log, which is synced. -/
structure Stays (a : List UInt8) (s : DS) (k : Nat) : Prop where
  ok : s.ok
  dead : s.dead = false
  left : s.left = 0
  front : s.log.take a.length = a
  sync : a.length ≤ s.synced
  len : s.log.length ≤ 300 * (k + 1)
  snap : s.snap = []
  room : s.room = 100000
  done : s.done ≤ k + 2

theorem Stays.skip {a : List UInt8} {s : DS} {k : Nat} (h : Stays a s k) : Stays a s (k + 1) := ⟨h.ok, h.dead, h.left, h.front, h.sync, by have := h.len; omega, h.snap, h.room, by have := h.done; omega⟩
theorem Stays.append {a b : List UInt8} {s : DS} {k : Nat} (h : Stays a s k) (hk : k ≤ 20) (hb : b.length ≤ 300) : (s.append b).2 = 0 ∧ Stays a (s.append b).1 (k + 1) := by
  have h1 := h.len
  have h2 := h.sync
  have h3 := h.ok.sync
  have h4 := h.room
  have h5 := h.done
  have hs : s.snap.length = 0 := by rw [h.snap]; rfl
  have e := DS.append_live h.dead h.left b (by omega)
  have ho := DS.ok_append h.ok (by omega) b
  rw [e] at ho ⊢
  refine ⟨rfl, ⟨ho.1, h.dead, h.left, ?_, h2, ?_, h.snap, h.room, by simp only; omega⟩⟩
  · simp only
    rw [List.take_append_of_le_length (by omega)]; exact h.front
  · simp only [List.length_append]; omega
theorem Stays.crash {a : List UInt8} {s : DS} {k : Nat} (h : Stays a s k) (p : Int) : Stays a (s.crash p) k := by
  have h1 := h.len
  have h2 := h.sync
  have h3 := h.ok.sync
  have hk := s.keeps_le p
  refine ⟨DS.ok_crash h.ok p, rfl, rfl, ?_, ?_, ?_, h.snap, h.room, h.done⟩
  · simp only [DS.crash]
    rw [List.take_take, Nat.min_eq_left (by omega)]; exact h.front
  · simp only [DS.crash]; omega
  · simp only [DS.crash, List.length_take]; omega

theorem tdiv2_ok (n : Int) (h : I64ok n) : I64ok (n.tdiv 2) := by
  unfold I64ok at *
  have h1 := @Int.tdiv_eq_ediv n 2
  have h2 : Int.sign 2 = 1 := rfl
  rw [h2] at h1
  split at h1 <;> omega

set_option maxRecDepth 100000 in
set_option maxHeartbeats 4000000 in
theorem stays_walk (w : World) (aa : Option Addr) (a : List UInt8) (ac : Nat) (ra : Option Addr) (ps : List Part) (rc : Nat) (pa : Option Addr) (ks : List Int) (pc : Nat)
    (had : Rd w aa (bs a)) (hal : a.length ≤ ac) (hac : ac ≤ maxLen) (hrd : Rd w ra (ps.map Part.v)) (hrg : ∀ p ∈ ps, p.good w) (hrl : ps.length ≤ rc) (hrc : rc ≤ maxLen)
    (hpd : Rd w pa (is ks)) (hpok : ∀ n ∈ ks, I64ok n) (hpl : ks.length ≤ pc) (hpc : pc ≤ maxLen) :
    Calls Try.prog 4 #[.slice aa a.length ac, .slice ra ps.length rc, .slice pa ks.length pc] w fun e w' => e = .returned (.bool true) ∧ Ext no w w' := by
  have Hrg := Lib.hid hrg
  have Hpok := Lib.hid hpok
  clear hrg hpok
  unfold maxLen at hac hrc hpc
  by_cases h300 : 300 < a.length
  · have d1 : decide ((300 : Int) < a.length) = true := decT (by omega)
    go_enter Try.func4, Try.ntmps4
    go_wp2_with fail
    refine (known_any w).mono ?_
    rintro e w1 ⟨rfl, hx1⟩
    go_wp2_with fail
    go_ret
    exact ⟨rfl, hx1⟩
  have d1 : decide ((300 : Int) < a.length) = false := decF (by omega)
  go_enter Try.func4, Try.ntmps4
  go_wp2_with fail
  refine (known_any w).mono ?_
  rintro e w1 ⟨rfl, hx1⟩
  go_wp2_with fail
  refine (newdisk_any w1 100000 (by omega) (by omega) no).mono ?_
  rintro e w2 ⟨g, rfl, hD, hg, hx2⟩
  have hx02 := hx1.comp hx2
  have hgw : w.heap.size ≤ g := Nat.le_trans hx1.size hg
  have old : ∀ (b : Option Addr) (l : List UInt8), Rd w b (bs l) → l ≠ [] → ∀ ad, b = some ad → ad.block ≠ g := fun b l hb he ad ha => by
    obtain ⟨ad', ha', hlt⟩ := hb.ne (by rw [bs_length]; exact List.length_pos_iff.2 he)
    rw [ha] at ha'; cases ha'; omega
  have Old := Lib.hid old
  clear old
  go_wp2_with fail
  refine (append_any w2 g (DS.new 100000) no hD (fun k h => h.elim) (DS.new_ok 100000 (by omega)) aa ac a (had.ext hx02 (fun _ _ h => h)) (fun he ad ha => by
    obtain ⟨ad', ha', hlt⟩ := had.ne (by rw [bs_length]; exact List.length_pos_iff.2 he)
    rw [ha] at ha'; cases ha'; omega) (by omega)).mono ?_
  rintro e w3 ⟨rfl, hD3, hx3⟩
  have e1 : (DS.new 100000).append a = ({ DS.new 100000 with done := 1, log := a }, 0) := by
    rw [DS.append_live rfl rfl a (by simp [DS.new]; omega)]; rfl
  rw [e1] at hD3 ⊢
  clear e1 hD
  go_wp2_with fail
  refine (sync_any w3 g { DS.new 100000 with done := 1, log := a } no hD3 ⟨by simp [DS.new], by simp [DS.new]; omega, by simp [DS.new], by simp [DS.new], by simp [DS.new], by simp⟩).mono ?_
  rintro e w4 ⟨rfl, hD4, hx4⟩
  have e2 : (DS.sync { DS.new 100000 with done := 1, log := a }) = ({ DS.new 100000 with done := 2, log := a, synced := a.length }, 0) := by
    rw [DS.sync_live rfl rfl]
  rw [e2] at hD4 ⊢
  have hst0 : Stays a { DS.new 100000 with done := 2, log := a, synced := a.length } 0 := ⟨⟨by simp, by simp [DS.new]; omega, by simp [DS.new], by simp [DS.new], by simp [DS.new], by simp⟩, rfl, rfl, by simp, by simp, by simp; omega, rfl, rfl, by simp⟩
  have hx04 : Ext no w w4 := hx02.trans (hx3.comp hx4) (fun i hi h => by simp only [Esc.just] at h; omega)
  clear e2 hD3 hx1 hx2 hx3 hx4 hx02
  generalize (DS.mk _ _ _ _ _ _ _ _) = s0 at *
  go_wp2_with fail
  go_loopw [9] (fun s9 wr => ∃ (k : Nat) (s : DS), k ≤ ps.length ∧ k ≤ 20 ∧ s9 = .int .i64 k ∧ Dk wr g s no ∧ Stays a s k ∧ Ext no w wr) (fun s9 _ => ps.length - (intOf s9).toNat)
  case atStart => exact ⟨0, s0, Nat.zero_le _, by omega, rfl, hD4, hst0, hx04⟩
  case round =>
    clear hD4 hst0 hx04
    obtain ⟨k, s, hk, hk20, rfl, hDk, hst, hxr⟩ := hrel
    by_cases hlt : k < ps.length
    rotate_left
    · have dd : decide ((k : Int) < ps.length) = false := decF (by omega)
      go_wp2_with fail
      go_ret
      exact ⟨rfl, hxr⟩
    have dd : decide ((k : Int) < ps.length) = true := decT (by omega)
    by_cases hl20 : k < 20
    rotate_left
    · have dd2 : decide ((k : Int) < 20) = false := decF (by omega)
      go_wp2_with fail
      go_ret
      exact ⟨rfl, hxr⟩
    have dd2 : decide ((k : Int) < 20) = true := decT (by omega)
    obtain ⟨rad, rfl, _⟩ := hrd.ne (by simp; omega)
    have hcw := hrd.cell k (by simpa using hlt)
    rw [List.getElem_map, Part.v] at hcw
    have hcell := hxr.keeps hcw (fun h => h)
    obtain ⟨g1, g2, g3⟩ := Hrg.out ps[k] (by simp)
    generalize ps[k] = p at *
    by_cases hp3 : 300 < p.l.length
    · have dp : decide (300 < p.l.length) = true := decT (by omega)
      have hnext := hst.skip
      clear hst
      go_wp2_with fail
      go_roundw
      case rel => exact ⟨k + 1, s, by omega, by omega, by go_num, hDk, hnext, hxr⟩
      case measure => simp [intOf]; omega
    have dp : decide (300 < p.l.length) = false := decF (by omega)
    obtain ⟨ha1, ha2⟩ := hst.append (b := p.l) (by omega) (by omega)
    have hok := hst.ok
    have Ha1 := Lib.hid ha1
    clear hst ha1
    go_wp2_with fail
    refine (append_any wr g s no hDk (fun k h => h.elim) hok p.a p.c p.l (g1.ext hxr (fun _ _ h => h)) (fun he ad ha => Old.out _ _ g1 he ad ha) (by omega)).mono ?_
    rintro e w3 ⟨rfl, hD3, hx3⟩
    rw [Ha1.out]
    have hx03 : Ext no w w3 := hxr.trans hx3 (fun i hi h => by simp only [Esc.just] at h; omega)
    clear hxr hx3 hDk hok hcell
    generalize (s.append p.l).1 = S at *
    have hcase : ks.length ≤ k ∨ (∃ q, ks[k]? = some q ∧ q.tmod 2 = 1 ∧ I64ok q) ∨ (∃ q, ks[k]? = some q ∧ q.tmod 2 ≠ 1) := by
      by_cases hkk : k < ks.length
      · by_cases h1 : ks[k].tmod 2 = 1
        · exact .inr (.inl ⟨ks[k], List.getElem?_eq_getElem hkk, h1, Hpok.out _ (by simp)⟩)
        · exact .inr (.inr ⟨ks[k], List.getElem?_eq_getElem hkk, h1⟩)
      · exact .inl (by omega)
    rcases hcase with hc | ⟨q, hq, hq1, hqo⟩ | ⟨q, hq, hq1⟩
    focus
      have dk : decide ((k : Int) < ks.length) = false := decF (by omega)
      go_wp2_with fail
      have hD5 := hD3
      have hst5 := ha2
      have hx5 := hx03
    rotate_left
    focus
      have hkk : k < ks.length := (List.getElem?_eq_some_iff.1 hq).1
      have dk : decide ((k : Int) < ks.length) = true := decT (by omega)
      obtain ⟨pad, rfl, _⟩ := hpd.ne (by simp; omega)
      have hkc := hx03.keeps (hpd.get (j := k) (v := .int .i64 q) (by simp [is, I64, hq])) (fun h => h)
      have hqb : (q.tmod 2 == 1) = true := by rw [beq_iff_eq]; exact hq1
      have hq2 := tdiv2_ok q hqo
      have hw2 : wrap64 (q.tdiv 2) = q.tdiv 2 := by unfold wrap64; unfold I64ok at hq2; omega
      have Hq2 := Lib.hid hq2
      clear hq hq1 hqo hq2
      go_wp2_with fail
      refine (crash_any w3 g S no hD3 (fun k h => h.elim) ha2.ok (q.tdiv 2) Hq2.out).mono ?_
      rintro e w4 ⟨rfl, hD5, hx4⟩
      have hst5 := ha2.crash (q.tdiv 2)
      have hx5 : Ext no w w4 := hx03.trans hx4 (fun i hi h => by simp only [Esc.just] at h; omega)
      clear hx4 hqb hw2 hkc
      generalize S.crash (q.tdiv 2) = S at *
      go_wp2_with fail
    rotate_left
    focus
      have hkk : k < ks.length := (List.getElem?_eq_some_iff.1 hq).1
      have dk : decide ((k : Int) < ks.length) = true := decT (by omega)
      obtain ⟨pad, rfl, _⟩ := hpd.ne (by simp; omega)
      have hkc := hx03.keeps (hpd.get (j := k) (v := .int .i64 q) (by simp [is, I64, hq])) (fun h => h)
      have hqb : (q.tmod 2 == 1) = false := by rw [beq_eq_false_iff_ne]; exact hq1
      clear hq hq1
      go_wp2_with fail
      have hD5 := hD3
      have hst5 := ha2
      have hx5 := hx03
    rotate_left
    all_goals
      refine (log_any' _ g _ no hD5 hst5.ok).mono ?_
      rintro e w6 ⟨b6, c6, rfl, ho, hx6⟩
      have hx06 := hx5.comp hx6
      have hD6 := hD5.no hx6
      have hsy := hst5.ok.sync
      have hsl := hst5.sync
      have hfr := hst5.front
      have hbr := ho.rd.take a.length
      rw [bs_take, hfr] at hbr
      have har := had.ext hx06 (fun _ _ h => h)
      have hnc := ho.nc
      have Hst5 := Lib.hid hst5
      clear hfr hst5 ho hx5 hx6 hD5 hD3 ha2 hx03
      have dl : decide (S.log.length < a.length) = false := decF (by omega)
      have cuta : ∀ w, (Instr.sliceAt 23 (.slice b6 S.log.length c6) none (some (.int .i64 (a.length : Int))) none).run Try.prog w = .ok (.slice b6 a.length c6) w := fun w => run_cut_h TBytes w b6 S.log.length c6 .i64 a.length (by omega)
      have cx : ∀ m, (convert 23 9 (.slice b6 a.length c6)).run Try.prog (w6.drewN m) = .ok (.string (str a)) (w6.drewN m) := fun m => convStr _ _ _ _ _ rfl (hbr.drewN m)
      have ca : ∀ m, (convert 23 9 (.slice aa a.length ac)).run Try.prog (w6.drewN m) = .ok (.string (str a)) (w6.drewN m) := fun m => convStr _ _ _ _ _ rfl (har.drewN m)
      go_upto_region 17 with fail
      go_quiet (fail)
      go_wp2_with fail
      go_roundw
      case rel => exact ⟨k + 1, S, by omega, by omega, by go_num, hD6.no (Ext.drewN no _ _), Hst5.out, hx06.comp (Ext.drewN no _ _)⟩
      case measure => simp [intOf]; omega
end Go.Proofs.Ytfihjjbonahahaa
