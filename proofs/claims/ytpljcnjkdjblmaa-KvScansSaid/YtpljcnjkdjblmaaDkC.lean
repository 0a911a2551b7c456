/- Walks of the package disk: New, Append, Sync. -/
import Derived.Test.YtpljcnjkdjblmaaDkB
namespace Go.Proofs.Ytpljcnjkdjblmaa
open Go.RowKit Go.Esc

/-- What a face of a disk leaves that answers by an error's number. -/
def DkEnd (w : World) (g : Nat) (N : Nat → Prop) (s : DS) (k : Nat) (e : Ending) (w' : World) : Prop := e = .returned (.int .i64 k) ∧ Dk w' g s N ∧ Ext (just g) w w'


set_option maxHeartbeats 1000000 in
theorem append_any (w : World) (g : Nat) (s : DS) (N : Nat → Prop) (h : Dk w g s N) (hN : ∀ k, N k → k < w.heap.size) (hok : s.ok) (ba : Option Addr) (bc : Nat) (b : List UInt8) (hbd : Rd w ba (bs b)) (hbg : b ≠ [] → ∀ ad, ba = some ad → ad.block ≠ g) (hbl : b.length ≤ 1099511627776) :
    Calls Try.prog 69 #[.pointer (some ⟨g, 0, none⟩), .slice ba b.length bc] w (DkEnd w g N (s.append b).1 (s.append b).2) := by
  obtain ⟨la, lc, sa, sc, hB, hl, hs⟩ := h
  obtain ⟨k1, k2, k3, k4, k5, k6⟩ := hok
  have hg := hB.lt (by simp [dcells])
  have c3 := hB.cell 3 _ rfl
  have c4 := hB.cell 4 _ rfl
  have c6 := hB.cell 6 _ rfl
  have c7 := hB.cell 7 _ rfl
  by_cases hd : s.dead = true
  · have hap : s.append b = (s, 18) := by unfold DS.append; rw [if_pos hd]
    rw [hap]
    rw [hd] at c3
    clear hap
    have Hd := Lib.hid hd
    clear hd
    go_enter Try.func69, Try.ntmps69
    go_wp2_with fail
    go_ret
    exact ⟨rfl, ⟨la, lc, sa, sc, hB, hl, hs⟩, Ext.refl _ _⟩
  have hd' : s.dead = false := by simpa using hd
  rw [hd'] at c3
  by_cases hf : s.room < s.log.length + s.snap.length + b.length
  · have hap : s.append b = (s, 17) := by unfold DS.append; rw [if_neg hd, if_pos hf]
    rw [hap]
    clear hap hd hd'
    have d1 : decide ((s.room : Int) - s.log.length - s.snap.length < b.length) = true := decT (by omega)
    have w1 : IntKind.i64.wrap ((s.room : Int) - s.log.length) = (s.room : Int) - s.log.length := by rw [IntKind.wrap_i64]; omega
    have w2 : IntKind.i64.wrap ((s.room : Int) - s.log.length - s.snap.length) = (s.room : Int) - s.log.length - s.snap.length := by rw [IntKind.wrap_i64]; omega
    go_enter Try.func69, Try.ntmps69
    go_upto_region 3 with fail
    go_quiet (fail)
    go_wp2_with fail
    go_ret
    exact ⟨rfl, ⟨la, lc, sa, sc, hB.drewN _, hl.ext (Ext.drewN no _ _) (fun _ _ h => h.elim), hs.ext (Ext.drewN no _ _) (fun _ _ h => h.elim)⟩, Ext.drewN _ _ _⟩
  have hap : s.append b = ({ s.spend with log := s.log ++ b }, if s.left = 1 then 18 else 0) := by unfold DS.append; rw [if_neg hd, if_neg hf]
  have Hap := Lib.hid hap
  have Hd := Lib.hid hd'
  clear hap hd hd'
  obtain ⟨S1, hS1⟩ : ∃ S1, S1 = s.append b := ⟨_, rfl⟩
  rw [← hS1]
  have HS1 := Lib.hid hS1
  clear hS1
  have d1 : decide ((s.room : Int) - s.log.length - s.snap.length < b.length) = false := decF (by omega)
  have w1 : IntKind.i64.wrap ((s.room : Int) - s.log.length) = (s.room : Int) - s.log.length := by rw [IntKind.wrap_i64]; omega
  have w2 : IntKind.i64.wrap ((s.room : Int) - s.log.length - s.snap.length) = (s.room : Int) - s.log.length - s.snap.length := by rw [IntKind.wrap_i64]; omega
  go_enter Try.func69, Try.ntmps69
  go_upto_region 3 with fail
  go_quiet (fail)
  have hB1 := hB.drewN nq
  have hx1 := Ext.drewN (just g) w nq
  have hl1 : Sl (w.drewN nq) g N la lc s.log := hl.ext (Ext.drewN no _ _) (fun _ _ h => h.elim)
  have hs1 : Sl (w.drewN nq) g N sa sc s.snap := hs.ext (Ext.drewN no _ _) (fun _ _ h => h.elim)
  have hbd1 := hbd.drewN nq
  have hsz1 := hx1.size
  clear hB hl hs hbd c3 c4 c6 c7 w1 w2
  generalize w.drewN nq = w1 at *
  go_wp2_with fail
  refine (spend_dk w1 g s la sa lc sc hB1 Hd.out k4 k6).mono ?_
  rintro e w2 ⟨rfl, hB2, hx2⟩
  have hl2 := hl1.ext hx2 (fun _ _ h => .inl h)
  have hs2 := hs1.ext hx2 (fun _ _ h => .inl h)
  have hbd2 : Rd w2 ba (bs b) := by
    by_cases he : b = []
    · rw [he]; exact Rd.nil _ _
    · exact hbd1.ext hx2 (fun ad ha h => hbg he ad ha h)
  have hx02 := hx1.comp hx2
  have d4 := hB2.cell 4 _ rfl
  have hlog : s.spend.log = s.log := by unfold DS.spend; split <;> rfl
  rw [hlog] at d4
  have Hlog := Lib.hid hlog
  have hsz2 := hx02.size
  clear hB1 hl1 hs1 hbd1 hx1 hx2 hlog
  go_wp2_with (with_reducible refine wpList_make_z TBytes rfl rfl rfl (s.log.length + b.length) rfl rfl (by go_num) (by go_num) w2.heap.size (Nat.le_refl _) (by omega) (by unfold maxLen; omega) ?_)
  intro ad w3 hown3 hx3
  have hx23 := hx3
  have hg2 : g < w2.heap.size := by omega
  have cutk : ∀ w, (Instr.sliceAt 37 (.slice (some ad) (s.log.length + b.length) (s.log.length + b.length)) (some (.int .i64 (s.log.length : Int))) none none).run Try.prog w = .ok (.slice (cutAt (some ad) (s.log.length + b.length) s.log.length 1) b.length b.length) w := fun w => by
    have := run_cut_l TBytes w (some ad) (s.log.length + b.length) (s.log.length + b.length) .i64 s.log.length (by omega)
    rwa [Nat.add_sub_cancel_left] at this
  have e4 := hx3.keeps d4 (fun h => h)
  have hlr : Rd w3 la (bs s.log) := hl2.1.ext hx3 (fun _ _ h => h)
  go_wp2_with (with_reducible refine wpList_copy TBytes rfl rfl hown3 (off := 0) rfl rfl (fun _ => by rw [Addr.add_zero']) hlr (by simp) (bs_one _) (by omega) (by omega) ?_)
  intro w4 hown4 hx4
  have hx24 : Ext no w2 w4 := Ext.ofBelow (hx3.belowAll.trans (hown3.below hx4 hx3.size)) (Nat.le_refl _)
  clear hown3 hx4 e4 hlr
  have hbr : Rd w4 ba (bs b) := hbd2.ext hx24 (fun _ _ h => h)
  go_wp2_with (with_reducible refine wpList_copy TBytes rfl rfl hown4 (off := s.log.length) rfl rfl (fun hb => by unfold cutAt; rw [if_neg (by omega)]; simp) hbr (by simp) (bs_one _) (by omega) (by omega) ?_)
  intro w5 hown5 hx5
  have hx25 : Ext no w2 w5 := Ext.ofBelow (hx24.belowAll.trans (hown4.below hx5 hx24.size)) (Nat.le_refl _)
  have hnew : Own w5 w2.heap.size (some ad) 1 (s.log.length + b.length) (s.log.length + b.length) (bs (s.log ++ b)) := by
    refine cast (congrArg (Own w5 w2.heap.size (some ad) 1 (s.log.length + b.length) (s.log.length + b.length)) ?_) hown5
    simp [bs_append]
  clear hown4 hown5 hx5 hx24 hx3
  have hB5 := hB2.ext (by simp [dcells]) hx25 (fun h => h)
  have e4 := hx25.keeps d4 (fun h => h)
  have f4 := hB5.fr 4
  have hBe := hB5.set 4 (.slice (some ad) (s.log.length + b.length) (s.log.length + b.length)) (by simp [dcells])
  have hxs := Ext.at w5 g 4 (.slice (some ad) (s.log.length + b.length) (s.log.length + b.length))
  have hle : Sl (w5.setCell ⟨g, 4, none⟩ (.slice (some ad) (s.log.length + b.length) (s.log.length + b.length))) g N (some ad) (s.log.length + b.length) (s.log ++ b) :=
    (Sl.own hnew hg2 (fun k hk => by have := hN k hk; omega)).ext hxs (fun _ _ h => .inl h)
  have hse := (hs2.ext hx25 (fun _ _ h => h.elim)).ext hxs (fun _ _ h => .inl h)
  have hxe : Ext (just g) w (w5.setCell ⟨g, 4, none⟩ (.slice (some ad) (s.log.length + b.length) (s.log.length + b.length))) := (hx02.comp (hx25.mono (fun _ _ h => h.elim))).comp hxs
  have hDk : Dk (w5.setCell ⟨g, 4, none⟩ (.slice (some ad) (s.log.length + b.length) (s.log.length + b.length))) g { s.spend with log := s.log ++ b } N := by
    refine ⟨some ad, _, sa, sc, ?_, hle, ?_⟩
    · unfold dcells at hBe ⊢
      simp only [List.length_append]
      exact hBe
    · have : s.spend.snap = s.snap := by unfold DS.spend; split <;> rfl
      simp only [this]
      exact hse
  clear hB2 hl2 hs2 hbd2 hx02 hB5 hBe hle hse hnew hx23
  by_cases h1 : s.left = 1
  · have hb1 : decide (s.left = 1) = true := decT h1
    have Hr := Lib.hid (show S1 = ({ s.spend with log := s.log ++ b }, 18) by rw [HS1.out, Hap.out, if_pos h1])
    clear h1
    go_wp2_with fail
    go_ret
    rw [Hr.out]
    exact ⟨rfl, hDk, hxe⟩
  · have hb1 : decide (s.left = 1) = false := decF h1
    have Hr := Lib.hid (show S1 = ({ s.spend with log := s.log ++ b }, 0) by rw [HS1.out, Hap.out, if_neg h1])
    clear h1
    go_wp2_with fail
    go_ret
    rw [Hr.out]
    exact ⟨rfl, hDk, hxe⟩

set_option maxHeartbeats 1000000 in
theorem sync_any (w : World) (g : Nat) (s : DS) (N : Nat → Prop) (h : Dk w g s N) (hok : s.ok) :
    Calls Try.prog 70 #[.pointer (some ⟨g, 0, none⟩)] w (DkEnd w g N s.sync.1 s.sync.2) := by
  obtain ⟨la, lc, sa, sc, hB, hl, hs⟩ := h
  obtain ⟨k1, k2, k3, k4, k5, k6⟩ := hok
  have c3 := hB.cell 3 _ rfl
  by_cases hd : s.dead = true
  · have hap : s.sync = (s, 18) := by unfold DS.sync; rw [if_pos hd]
    rw [hap]
    rw [hd] at c3
    clear hap hd
    go_enter Try.func70, Try.ntmps70
    go_wp2_with fail
    go_ret
    exact ⟨rfl, ⟨la, lc, sa, sc, hB, hl, hs⟩, Ext.refl _ _⟩
  have hd' : s.dead = false := by simpa using hd
  rw [hd'] at c3
  have Hd := Lib.hid hd'
  have Hap := Lib.hid (show s.sync = if s.left = 1 then (s.spend, 18) else ({ s.spend with synced := s.log.length }, 0) by unfold DS.sync; rw [if_neg hd])
  have hlog : s.spend.log = s.log := by unfold DS.spend; split <;> rfl
  have hsnap : s.spend.snap = s.snap := by unfold DS.spend; split <;> rfl
  have Hlog := Lib.hid hlog
  have Hsnap := Lib.hid hsnap
  obtain ⟨S1, hS1⟩ : ∃ S1, S1 = s.sync := ⟨_, rfl⟩
  rw [← hS1]
  have HS1 := Lib.hid hS1
  clear hS1 hd hd' hlog hsnap
  go_enter Try.func70, Try.ntmps70
  go_wp2_with fail
  refine (spend_dk w g s la sa lc sc hB Hd.out k4 k6).mono ?_
  rintro e w2 ⟨rfl, hB2, hx2⟩
  have hl2 := hl.ext hx2 (fun _ _ h => .inl h)
  have hs2 := hs.ext hx2 (fun _ _ h => .inl h)
  have d4 := hB2.cell 4 _ rfl
  rw [Hlog.out] at d4
  have f5 := hB2.fr 5
  have c5 := hB2.cell 5 _ rfl
  clear hB hl hs c3
  by_cases h1 : s.left = 1
  · have hb1 : decide (s.left ≠ 1) = false := decF (by simpa using h1)
    have Hr := Lib.hid (show S1 = (s.spend, 18) by rw [HS1.out, Hap.out, if_pos h1])
    rw [hb1]
    clear h1 hb1
    go_wp2_with fail
    go_ret
    rw [Hr.out]
    exact ⟨rfl, ⟨la, lc, sa, sc, hB2, by rw [Hlog.out]; exact hl2, by rw [Hsnap.out]; exact hs2⟩, hx2⟩
  · have hb1 : decide (s.left ≠ 1) = true := decT h1
    have Hr := Lib.hid (show S1 = ({ s.spend with synced := s.log.length }, 0) by rw [HS1.out, Hap.out, if_neg h1])
    rw [hb1]
    clear h1 hb1
    have hBe := hB2.set 5 (.int .i64 s.log.length) (by simp [dcells])
    have hxs := Ext.at w2 g 5 (.int .i64 s.log.length)
    have hle := hl2.ext hxs (fun _ _ h => .inl h)
    have hse := hs2.ext hxs (fun _ _ h => .inl h)
    go_wp2_with fail
    go_ret
    rw [Hr.out]
    exact ⟨rfl, ⟨la, lc, sa, sc, hBe, by rw [Hlog.out]; exact hle, by rw [Hsnap.out]; exact hse⟩, hx2.comp hxs⟩
end Go.Proofs.Ytpljcnjkdjblmaa
