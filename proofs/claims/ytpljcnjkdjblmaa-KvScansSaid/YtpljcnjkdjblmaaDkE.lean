/- Walks of the package disk: Swap, Stop, Log, Snap, Dead, Ops, New. -/
import Derived.Test.YtpljcnjkdjblmaaDkD
namespace Go.Proofs.Ytpljcnjkdjblmaa
open Go.RowKit Go.Esc

set_option maxHeartbeats 1000000 in
theorem swap_any (w : World) (g : Nat) (s : DS) (N : Nat → Prop) (h : Dk w g s N) (hN : ∀ k, N k → k < w.heap.size) (hok : s.ok) (ba : Option Addr) (bc : Nat) (b : List UInt8) (hbd : Rd w ba (bs b)) (hbg : b ≠ [] → ∀ ad, ba = some ad → ad.block ≠ g) (hbl : b.length ≤ 1099511627776) :
    Calls Try.prog 71 #[.pointer (some ⟨g, 0, none⟩), .slice ba b.length bc] w (DkEnd w g N (s.swap b).1 (s.swap b).2) := by
  obtain ⟨la, lc, sa, sc, hB, hl, hs⟩ := h
  obtain ⟨k1, k2, k3, k4, k5, k6⟩ := hok
  have hg := hB.lt (by simp [dcells])
  have c3 := hB.cell 3 _ rfl
  have c7 := hB.cell 7 _ rfl
  by_cases hd : s.dead = true
  · have hap : s.swap b = (s, 18) := by unfold DS.swap; rw [if_pos hd]
    rw [hap]
    rw [hd] at c3
    clear hap hd
    go_enter Try.func71, Try.ntmps71
    go_wp2_with fail
    go_ret
    exact ⟨rfl, ⟨la, lc, sa, sc, hB, hl, hs⟩, Ext.refl _ _⟩
  have hd' : s.dead = false := by simpa using hd
  rw [hd'] at c3
  have Hd := Lib.hid hd'
  by_cases hm : s.room < b.length
  · have hap : s.swap b = (s, 17) := by unfold DS.swap; rw [if_neg hd, if_pos hm]
    rw [hap]
    have d1 : decide (s.room < b.length) = true := decT hm
    clear hap hd hd'
    go_enter Try.func71, Try.ntmps71
    go_wp2_with fail
    go_ret
    exact ⟨rfl, ⟨la, lc, sa, sc, hB, hl, hs⟩, Ext.refl _ _⟩
  have d1 : decide (s.room < b.length) = false := decF hm
  have Hap := Lib.hid (show s.swap b = (if s.left ≠ 1 ∨ s.odd = 0 then { s.spend with snap := b, log := [], synced := 0 } else s.spend, if s.left = 1 then 18 else 0) by
    unfold DS.swap; rw [if_neg hd, if_neg hm])
  have hlog : s.spend.log = s.log := by unfold DS.spend; split <;> rfl
  have hsnap : s.spend.snap = s.snap := by unfold DS.spend; split <;> rfl
  have hodd : s.spend.odd = s.odd := by unfold DS.spend; split <;> rfl
  have Hlog := Lib.hid hlog
  have Hsnap := Lib.hid hsnap
  have Hodd := Lib.hid hodd
  obtain ⟨S1, hS1⟩ : ∃ S1, S1 = s.swap b := ⟨_, rfl⟩
  rw [← hS1]
  have HS1 := Lib.hid hS1
  clear hS1 hd hd' hlog hsnap hodd hm
  go_enter Try.func71, Try.ntmps71
  go_wp2_with fail
  refine (spend_dk w g s la sa lc sc hB Hd.out k4 k6).mono ?_
  rintro e w2 ⟨rfl, hB2, hx2⟩
  have hl2 := hl.ext hx2 (fun _ _ h => .inl h)
  have hs2 := hs.ext hx2 (fun _ _ h => .inl h)
  have e1 := hB2.cell 1 _ rfl
  rw [Hodd.out] at e1
  have hsz2 := hx2.size
  have hbd2 : Rd w2 ba (bs b) := by
    by_cases he : b = []
    · rw [he]; exact Rd.nil _ _
    · exact hbd.ext hx2 (fun ad ha h => hbg he ad ha h)
  clear hB hl hs c3 c7
  by_cases hgo : s.left ≠ 1 ∨ s.odd = 0
  rotate_left
  · have h1 : s.left = 1 := Classical.byContradiction fun h => hgo (.inl h)
    have h0 : s.odd ≠ 0 := fun h => hgo (.inr h)
    have hb1 : decide (s.left ≠ 1) = false := decF (by simpa using h1)
    have hb0 : ((s.odd : Int) == 0) = false := by rw [beq_eq_false_iff_ne]; omega
    have Hr := Lib.hid (show S1 = (s.spend, 18) by rw [HS1.out, Hap.out, if_neg hgo, if_pos h1])
    rw [hb1]
    clear h1 h0 hgo hb1
    go_wp2_with fail
    go_ret
    rw [Hr.out]
    exact ⟨rfl, ⟨la, lc, sa, sc, hB2, by rw [Hlog.out]; exact hl2, by rw [Hsnap.out]; exact hs2⟩, hx2⟩
  have key : ∀ (w3 : World) (a' : Option Addr) (c' : Nat), Own w3 w2.heap.size a' 1 b.length c' (bs b) → Ext no w2 w3 →
      Dk (((w3.setCell ⟨g, 6, none⟩ (.slice a' b.length c')).setCell ⟨g, 4, none⟩ (.slice none 0 0)).setCell ⟨g, 5, none⟩ (.int .i64 0)) g { s.spend with snap := b, log := [], synced := 0 } N ∧
      Ext (just g) w (((w3.setCell ⟨g, 6, none⟩ (.slice a' b.length c')).setCell ⟨g, 4, none⟩ (.slice none 0 0)).setCell ⟨g, 5, none⟩ (.int .i64 0)) ∧ w3.cell? ⟨g, 4, none⟩ = some (.slice la s.spend.log.length lc) ∧ w3.frozen? ⟨g, 4, none⟩ = false ∧ w3.frozen? ⟨g, 5, none⟩ = false ∧ w3.cell? ⟨g, 5, none⟩ = some (.int .i64 s.spend.synced) ∧
      w3.cell? ⟨g, 6, none⟩ = some (.slice sa s.spend.snap.length sc) ∧ w3.frozen? ⟨g, 6, none⟩ = false := by
    intro w3 a' c' ho hx
    have hB3 := hB2.ext (by simp [dcells]) hx (fun h => h)
    have hxs := ((Ext.at w3 g 6 (.slice a' b.length c')).comp (Ext.at _ g 4 (.slice none 0 0))).comp (Ext.at _ g 5 (.int .i64 0))
    have hB4 := ((hB3.set 6 (.slice a' b.length c') (by simp [dcells])).set 4 (.slice none 0 0) (by simp [dcells])).set 5 (.int .i64 0) (by simp [dcells])
    refine ⟨⟨none, 0, a', c', ?_, Sl.nil _ _ _, (Sl.own ho (by omega) (fun k hk => by have := hN k hk; omega)).ext hxs (fun _ _ h => .inl h)⟩, (hx2.comp (hx.mono (fun _ _ h => h.elim))).comp hxs, hB3.cell 4 _ rfl, hB3.fr 4, hB3.fr 5, hB3.cell 5 _ rfl, hB3.cell 6 _ rfl, hB3.fr 6⟩
    exact hB4
  have Key := Lib.hid key
  clear key hl2 hs2 hB2
  by_cases h1 : s.left = 1
  · have h0 : s.odd = 0 := by rcases hgo with h | h; exact absurd h1 h; exact h
    have hb1 : decide (s.left ≠ 1) = false := decF (by simpa using h1)
    have hb0 : ((s.odd : Int) == 0) = true := by rw [beq_iff_eq]; omega
    have Hr := Lib.hid (show S1 = ({ s.spend with snap := b, log := [], synced := 0 }, 18) by rw [HS1.out, Hap.out, if_pos hgo, if_pos h1])
    rw [hb1]
    clear h1 h0 hgo hb1
    go_wp2_with fail
    refine (own_any w2 ba bc b hbd2 (by omega)).mono ?_
    rintro e w3 ⟨a', c', rfl, ho, hx⟩
    obtain ⟨q1, q2, q3, q4, q5, q6, q7, q8⟩ := Key.out w3 a' c' ho hx
    go_wp2_with fail
    go_ret
    rw [Hr.out]
    exact ⟨rfl, q1, q2⟩
  · have hb1 : decide (s.left ≠ 1) = true := decT h1
    have Hr := Lib.hid (show S1 = ({ s.spend with snap := b, log := [], synced := 0 }, 0) by rw [HS1.out, Hap.out, if_pos hgo, if_neg h1])
    rw [hb1]
    clear h1 hgo hb1
    go_wp2_with fail
    refine (own_any w2 ba bc b hbd2 (by omega)).mono ?_
    rintro e w3 ⟨a', c', rfl, ho, hx⟩
    obtain ⟨q1, q2, q3, q4, q5, q6, q7, q8⟩ := Key.out w3 a' c' ho hx
    go_wp2_with fail
    go_ret
    rw [Hr.out]
    exact ⟨rfl, q1, q2⟩

theorem log_any' (w : World) (g : Nat) (s : DS) (N : Nat → Prop) (h : Dk w g s N) (hok : s.ok) :
    Calls Try.prog 20 #[.pointer (some ⟨g, 0, none⟩)] w fun e w' => ∃ a c, e = .returned (.slice a s.log.length c) ∧ Own w' w.heap.size a 1 s.log.length c (bs s.log) ∧ Ext no w w' := by
  obtain ⟨la, lc, sa, sc, hB, hl, hs⟩ := h
  obtain ⟨k1, k2, k3, k4, k5, k6⟩ := hok
  have c4 := hB.cell 4 _ rfl
  have hlr := hl.1
  go_enter Try.func20, Try.ntmps20
  go_wp2_with fail
  refine (own_any w la lc s.log hlr (by omega)).mono ?_
  rintro e w3 ⟨a', c', rfl, ho, hx⟩
  go_wp2_with fail
  go_ret
  exact ⟨a', c', rfl, ho, hx⟩

theorem snap_any (w : World) (g : Nat) (s : DS) (N : Nat → Prop) (h : Dk w g s N) (hok : s.ok) :
    Calls Try.prog 21 #[.pointer (some ⟨g, 0, none⟩)] w fun e w' => ∃ a c, e = .returned (.slice a s.snap.length c) ∧ Own w' w.heap.size a 1 s.snap.length c (bs s.snap) ∧ Ext no w w' := by
  obtain ⟨la, lc, sa, sc, hB, hl, hs⟩ := h
  obtain ⟨k1, k2, k3, k4, k5, k6⟩ := hok
  have c6 := hB.cell 6 _ rfl
  have hsr := hs.1
  go_enter Try.func21, Try.ntmps21
  go_wp2_with fail
  refine (own_any w sa sc s.snap hsr (by omega)).mono ?_
  rintro e w3 ⟨a', c', rfl, ho, hx⟩
  go_wp2_with fail
  go_ret
  exact ⟨a', c', rfl, ho, hx⟩

theorem dead_any (w : World) (g : Nat) (s : DS) (N : Nat → Prop) (h : Dk w g s N) :
    Calls Try.prog 29 #[.pointer (some ⟨g, 0, none⟩)] w fun e w' => e = .returned (.bool s.dead) ∧ w = w' := by
  obtain ⟨la, lc, sa, sc, hB, hl, hs⟩ := h
  have c3 := hB.cell 3 _ rfl
  go_enter Try.func29, Try.ntmps29
  go_wp2_with fail
  go_ret
  exact ⟨rfl, rfl⟩
set_option maxHeartbeats 1000000 in
theorem stop_any (w : World) (g : Nat) (s : DS) (N : Nat → Prop) (h : Dk w g s N) (n : Int) (hn : I64ok n) :
    Calls Try.prog 28 #[.pointer (some ⟨g, 0, none⟩), .int .i64 n] w fun e w' => e = .returned (.tuple #[]) ∧ Dk w' g (s.stop n) N ∧ Ext (just g) w w' := by
  obtain ⟨hn1, hn2⟩ := hn
  obtain ⟨la, lc, sa, sc, hB, hl, hs⟩ := h
  have c0 := hB.cell 0 _ rfl
  have c1 := hB.cell 1 _ rfl
  have f0 := hB.fr 0
  have f1 := hB.fr 1
  have hxs := (Ext.at w g 0 (.int .i64 n.toNat)).comp (Ext.at _ g 1 (.int .i64 (n.toNat % 2 : Nat)))
  have hB4 := (hB.set 0 (.int .i64 n.toNat) (by simp [dcells])).set 1 (.int .i64 (n.toNat % 2 : Nat)) (by simp [dcells])
  have hDk : Dk ((w.setCell ⟨g, 0, none⟩ (.int .i64 n.toNat)).setCell ⟨g, 1, none⟩ (.int .i64 (n.toNat % 2 : Nat))) g (s.stop n) N := ⟨la, lc, sa, sc, hB4, hl.ext hxs (fun _ _ h => .inl h), hs.ext hxs (fun _ _ h => .inl h)⟩
  have H := Lib.hid (And.intro hDk hxs)
  clear hDk hxs hB4
  by_cases hneg : n < 0
  · have H2 : Hid (Dk ((w.setCell ⟨g, 0, none⟩ (.int .i64 0)).setCell ⟨g, 1, none⟩ (.int .i64 0)) g (s.stop n) N ∧ Ext (just g) w ((w.setCell ⟨g, 0, none⟩ (.int .i64 0)).setCell ⟨g, 1, none⟩ (.int .i64 0))) := Lib.hid (by
      have h0 : n.toNat = 0 := by omega
      have := H.out
      rw [h0] at this
      exact this)
    clear H
    go_enter Try.func28, Try.ntmps28
    go_wp2_with fail
    go_end0
    exact ⟨rfl, H2.out⟩
  · have hpos : 0 ≤ n := by omega
    have H2 : Hid (Dk ((w.setCell ⟨g, 0, none⟩ (.int .i64 n)).setCell ⟨g, 1, none⟩ (.int .i64 (n % 2))) g (s.stop n) N ∧ Ext (just g) w ((w.setCell ⟨g, 0, none⟩ (.int .i64 n)).setCell ⟨g, 1, none⟩ (.int .i64 (n % 2)))) := Lib.hid (by
      have h0 : (n.toNat : Int) = n := by omega
      have h2 : ((n.toNat % 2 : Nat) : Int) = n % 2 := by omega
      have := H.out
      rw [h0, h2] at this
      exact this)
    clear H
    go_enter Try.func28, Try.ntmps28
    go_wp2_with fail
    go_end0
    exact ⟨rfl, H2.out⟩

set_option maxHeartbeats 1000000 in
theorem new_bad (w : World) (room : Int) (hr : room < 1 ∨ 16777216 < room) :
    Calls Try.prog 12 #[.int .i64 room] w fun e w' => e = .returned (.tuple #[.pointer none, .int .i64 1]) ∧ w = w' := by
  rcases hr with hr | hr
  · have d1 : decide (room < 1) = true := decT hr
    go_enter Try.func12, Try.ntmps12
    go_wp2_with fail
    go_ret2
    exact ⟨rfl, rfl⟩
  · have d1 : decide (room < 1) = false := decF (by omega)
    have d2 : decide (16777216 < room) = true := decT hr
    go_enter Try.func12, Try.ntmps12
    go_wp2_with fail
    go_ret2
    exact ⟨rfl, rfl⟩

set_option maxHeartbeats 1000000 in
theorem newdisk_any (w : World) (room : Nat) (hr1 : 1 ≤ room) (hr2 : room ≤ 16777216) (N : Nat → Prop) :
    Calls Try.prog 12 #[.int .i64 room] w fun e w' => ∃ g, e = .returned (.tuple #[.pointer (some ⟨g, 0, none⟩), .int .i64 0]) ∧ Dk w' g (DS.new room) N ∧ w.heap.size ≤ g ∧ Ext no w w' := by
  have d1 : decide ((room : Int) < 1) = false := decF (by omega)
  have d2 : decide (16777216 < (room : Int)) = false := decF (by omega)
  go_enter Try.func12, Try.ntmps12
  go_wp2_with fail
  go_ret2
  refine ⟨_, rfl, ⟨none, 0, none, 0, ?_, Sl.nil _ _ _, Sl.nil _ _ _⟩, Nat.le_refl _, Ext.alloc no _ _⟩
  exact Blk.lit w _ _
end Go.Proofs.Ytpljcnjkdjblmaa
