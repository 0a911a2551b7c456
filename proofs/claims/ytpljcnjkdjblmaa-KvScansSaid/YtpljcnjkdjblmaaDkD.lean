/- Walks of the package disk: Cut, Swap. -/
import Derived.Test.YtpljcnjkdjblmaaDkC
namespace Go.Proofs.Ytpljcnjkdjblmaa
open Go.RowKit Go.Esc

theorem own_at (w : World) (a : Option Addr) (m c : Nat) (l : List UInt8) (hm : m = l.length) (hrd : Rd w a (bs l)) (hl : l.length ≤ 70368744177664) :
    Calls Try.prog 40 #[.slice a m c] w fun e w' => ∃ a' c', e = .returned (.slice a' m c') ∧ Own w' w.heap.size a' 1 m c' (bs l) ∧ Ext no w w' := by
  subst hm; exact own_any w a c l hrd hl

set_option maxHeartbeats 1000000 in
theorem cut_any (w : World) (g : Nat) (s : DS) (N : Nat → Prop) (h : Dk w g s N) (hN : ∀ k, N k → k < w.heap.size) (hok : s.ok) (n : Int) (hn : I64ok n) :
    Calls Try.prog 45 #[.pointer (some ⟨g, 0, none⟩), .int .i64 n] w (DkEnd w g N (s.cut n).1 (s.cut n).2) := by
  obtain ⟨hn1, hn2⟩ := hn
  obtain ⟨la, lc, sa, sc, hB, hl, hs⟩ := h
  obtain ⟨k1, k2, k3, k4, k5, k6⟩ := hok
  have hg := hB.lt (by simp [dcells])
  have c3 := hB.cell 3 _ rfl
  have c4 := hB.cell 4 _ rfl
  by_cases hd : s.dead = true
  · have hap : s.cut n = (s, 18) := by unfold DS.cut; rw [if_pos hd]
    rw [hap]
    rw [hd] at c3
    clear hap hd
    go_enter Try.func45, Try.ntmps45
    go_wp2_with fail
    go_ret
    exact ⟨rfl, ⟨la, lc, sa, sc, hB, hl, hs⟩, Ext.refl _ _⟩
  have hd' : s.dead = false := by simpa using hd
  rw [hd'] at c3
  have Hd := Lib.hid hd'
  by_cases hm : n < 0
  · have hap : s.cut n = (s, 1) := by unfold DS.cut; rw [if_neg hd, if_pos (.inl hm)]
    rw [hap]
    have d1 : decide (n < 0) = true := decT hm
    clear hap hd hd'
    go_enter Try.func45, Try.ntmps45
    go_wp2_with fail
    go_ret
    exact ⟨rfl, ⟨la, lc, sa, sc, hB, hl, hs⟩, Ext.refl _ _⟩
  have d1 : decide (n < 0) = false := decF hm
  by_cases hm2 : (s.log.length : Int) < n
  · have hap : s.cut n = (s, 1) := by unfold DS.cut; rw [if_neg hd, if_pos (.inr hm2)]
    rw [hap]
    have d2 : decide ((s.log.length : Int) < n) = true := decT hm2
    clear hap hd hd'
    go_enter Try.func45, Try.ntmps45
    go_wp2_with fail
    go_ret
    exact ⟨rfl, ⟨la, lc, sa, sc, hB, hl, hs⟩, Ext.refl _ _⟩
  have d2 : decide ((s.log.length : Int) < n) = false := decF hm2
  obtain ⟨m, rfl⟩ : ∃ m : Nat, n = m := ⟨n.toNat, by omega⟩
  have hml : m ≤ s.log.length := by omega
  have Hap := Lib.hid (show s.cut m = (if s.left ≠ 1 ∨ s.odd = 0 then { s.spend with log := s.log.take m, synced := m } else s.spend, if s.left = 1 then 18 else 0) by
    unfold DS.cut; rw [if_neg hd, if_neg (by omega), Int.toNat_natCast])
  have hlog : s.spend.log = s.log := by unfold DS.spend; split <;> rfl
  have hsnap : s.spend.snap = s.snap := by unfold DS.spend; split <;> rfl
  have hodd : s.spend.odd = s.odd := by unfold DS.spend; split <;> rfl
  have Hlog := Lib.hid hlog
  have Hsnap := Lib.hid hsnap
  have Hodd := Lib.hid hodd
  obtain ⟨S1, hS1⟩ : ∃ S1, S1 = s.cut m := ⟨_, rfl⟩
  rw [← hS1]
  have HS1 := Lib.hid hS1
  clear hS1 hd hd' hlog hsnap hodd hm hm2
  go_enter Try.func45, Try.ntmps45
  go_wp2_with fail
  refine (spend_dk w g s la sa lc sc hB Hd.out k4 k6).mono ?_
  rintro e w2 ⟨rfl, hB2, hx2⟩
  have hl2 := hl.ext hx2 (fun _ _ h => .inl h)
  have hs2 := hs.ext hx2 (fun _ _ h => .inl h)
  have e4 := hB2.cell 4 _ rfl
  rw [Hlog.out] at e4
  have e1 := hB2.cell 1 _ rfl
  rw [Hodd.out] at e1
  have hsz2 := hx2.size
  clear hB hl hs c3 c4
  by_cases hgo : s.left ≠ 1 ∨ s.odd = 0
  rotate_left
  · have h1 : s.left = 1 := Classical.byContradiction fun h => hgo (.inl h)
    have h0 : s.odd ≠ 0 := fun h => hgo (.inr h)
    have hb1 : decide (s.left ≠ 1) = false := decF (by simpa using h1)
    have hb0 : ((s.odd : Int) == 0) = false := by rw [beq_eq_false_iff_ne]; omega
    have Hr := Lib.hid (show S1 = (s.spend, 18) by rw [HS1.out, Hap.out, if_neg hgo, if_pos h1])
    rw [hb1]
    clear h1 h0 hgo hb1
    go_wp2_with fail
    go_ret
    rw [Hr.out]
    exact ⟨rfl, ⟨la, lc, sa, sc, hB2, by rw [Hlog.out]; exact hl2, by rw [Hsnap.out]; exact hs2⟩, hx2⟩
  have hlc := hl2.2.1
  have cutm : ∀ w, (Instr.sliceAt 37 (.slice la s.log.length lc) none (some (.int .i64 (m : Int))) none).run Try.prog w = .ok (.slice la m lc) w := fun w => run_cut_h TBytes w la s.log.length lc .i64 m (by omega)
  have hlm := (hl2.take m).1
  have Hml := Lib.hid (show m = (s.log.take m).length by rw [List.length_take]; omega)
  have key : ∀ (w3 : World) (a' : Option Addr) (c' : Nat), Own w3 w2.heap.size a' 1 m c' (bs (s.log.take m)) → Ext no w2 w3 →
      Dk ((w3.setCell ⟨g, 4, none⟩ (.slice a' m c')).setCell ⟨g, 5, none⟩ (.int .i64 m)) g { s.spend with log := s.log.take m, synced := m } N ∧
      Ext (just g) w ((w3.setCell ⟨g, 4, none⟩ (.slice a' m c')).setCell ⟨g, 5, none⟩ (.int .i64 m)) ∧ w3.cell? ⟨g, 4, none⟩ = some (.slice la s.log.length lc) ∧ w3.frozen? ⟨g, 4, none⟩ = false ∧ w3.frozen? ⟨g, 5, none⟩ = false ∧ w3.cell? ⟨g, 5, none⟩ = some (.int .i64 s.spend.synced) := by
    intro w3 a' c' ho hx
    have hB3 := hB2.ext (by simp [dcells]) hx (fun h => h)
    have hxs := (Ext.at w3 g 4 (.slice a' m c')).comp (Ext.at _ g 5 (.int .i64 m))
    have hB4 := (hB3.set 4 (.slice a' m c') (by simp [dcells])).set 5 (.int .i64 m) (by simp [dcells])
    refine ⟨⟨a', c', sa, sc, ?_, (Sl.own ho (by omega) (fun k hk => by have := hN k hk; omega)).ext hxs (fun _ _ h => .inl h), ?_⟩, (hx2.comp (hx.mono (fun _ _ h => h.elim))).comp hxs, hx.keeps e4 (fun h => h), hB3.fr 4, hB3.fr 5, hB3.cell 5 _ rfl⟩
    · unfold dcells at hB4 ⊢
      simp only [← Hml.out]
      exact hB4
    · simp only [Hsnap.out]
      exact (hs2.ext hx (fun _ _ h => h.elim)).ext hxs (fun _ _ h => .inl h)
  have Key := Lib.hid key
  clear key hl2 hs2 hB2
  by_cases h1 : s.left = 1
  · have h0 : s.odd = 0 := by rcases hgo with h | h; exact absurd h1 h; exact h
    have hb1 : decide (s.left ≠ 1) = false := decF (by simpa using h1)
    have hb0 : ((s.odd : Int) == 0) = true := by rw [beq_iff_eq]; omega
    have Hr := Lib.hid (show S1 = ({ s.spend with log := s.log.take m, synced := m }, 18) by rw [HS1.out, Hap.out, if_pos hgo, if_pos h1])
    rw [hb1]
    clear h1 h0 hgo hb1
    go_wp2_with fail
    refine (own_at w2 la m lc (s.log.take m) Hml.out hlm (by rw [← Hml.out]; omega)).mono ?_
    rintro e w3 ⟨a', c', rfl, ho, hx⟩
    obtain ⟨q1, q2, q3, q4, q5, q6⟩ := Key.out w3 a' c' ho hx
    go_wp2_with fail
    go_ret
    rw [Hr.out]
    exact ⟨rfl, q1, q2⟩
  · have hb1 : decide (s.left ≠ 1) = true := decT h1
    have Hr := Lib.hid (show S1 = ({ s.spend with log := s.log.take m, synced := m }, 0) by rw [HS1.out, Hap.out, if_pos hgo, if_neg h1])
    rw [hb1]
    clear h1 hgo hb1
    go_wp2_with fail
    refine (own_at w2 la m lc (s.log.take m) Hml.out hlm (by rw [← Hml.out]; omega)).mono ?_
    rintro e w3 ⟨a', c', rfl, ho, hx⟩
    obtain ⟨q1, q2, q3, q4, q5, q6⟩ := Key.out w3 a' c' ho hx
    go_wp2_with fail
    go_ret
    rw [Hr.out]
    exact ⟨rfl, q1, q2⟩
end Go.Proofs.Ytpljcnjkdjblmaa
