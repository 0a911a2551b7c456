/- Walks of the reference's disk: Sync, Swap, Cut, Stop. -/
import Derived.Test.YtbmkmbankflbpaaRkA
import Derived.Test.YtbmkmbankflbpaaDkM
import Derived.Test.YtbmkmbankflbpaaStr
namespace Go.Esc
theorem DS.goes_only {s : DS} (hd : s.dead = false) : s.goes.ends = (s.spend, if s.left = 1 then 18 else 0) := by
  unfold DS.ends DS.goes DS.spend
  by_cases h : s.left = 1 <;> simp [h, hd]
theorem DS.goes_all {s : DS} (hd : s.dead = false) (l p : List UInt8) (y : Nat) : ({ s.goes with log := l, snap := p, synced := y } : DS).ends = ({ s.spend with log := l, snap := p, synced := y }, if s.left = 1 then 18 else 0) := by
  unfold DS.ends DS.goes DS.spend
  by_cases h : s.left = 1 <;> simp [h, hd]
end Go.Esc
namespace Go.Proofs.Ytbmkmbankflbpaa
open Go.RowKit Go.Esc
set_option linter.unusedVariables false

set_option maxHeartbeats 1000000 in
theorem refsync_any (w : World) (g : Nat) (s : DS) (N : Nat → Prop) (h : Rk w g s N) (hok : s.ok) :
    Calls Try.prog 44 #[.pointer (some ⟨g, 0, none⟩)] w (RkEnd w g N s.sync.1 s.sync.2) := by
  have hR := h
  obtain ⟨ev, la, lc, sa, sc, h0, hB, hl, hs⟩ := h
  obtain ⟨k1, k2, k3, k4, k5, k6⟩ := hok
  have c6 := hB.cell 6 _ rfl
  by_cases hd : s.dead = true
  · have hap : s.sync = (s, 18) := by unfold DS.sync; rw [if_pos hd]
    rw [hap]
    rw [hd] at c6
    clear hap hd
    go_enter Try.func44, Try.ntmps44
    go_wp2_with fail
    go_ret
    exact ⟨rfl, hR, Ext.refl _ _⟩
  have hd' : s.dead = false := by simpa using hd
  rw [hd'] at c6
  clear hB hl hs h0 ev la lc sa sc
  by_cases h1 : s.left = 1
  · have Hap := Lib.hid (show s.goes.ends = s.sync by rw [DS.goes_only hd']; unfold DS.sync; rw [if_neg hd, if_pos h1, if_pos h1])
    have hb : decide (s.left = 1) = true := decT h1
    have Hd := Lib.hid hd'
    clear hd hd' h1
    generalize s.sync = S1 at *
    go_enter Try.func44, Try.ntmps44
    go_wp2_with fail
    refine (goes_rk w g s N hR Hd.out k4).mono ?_
    rintro e w2 ⟨rfl, hR2, hx2⟩
    rw [hb]
    go_wp2_with fail
    refine (ends_rk w2 g _ N hR2 (by simp [DS.goes]; omega)).mono ?_
    rintro e w5 ⟨rfl, hR5, hx5⟩
    rw [Hap.out] at hR5 ⊢
    go_wp2_with fail
    go_ret
    exact ⟨rfl, hR5, hx2.comp hx5⟩
  · have Hap := Lib.hid (show ({ s.goes with synced := s.log.length } : DS).ends = s.sync by
      have := DS.goes_all hd' s.log s.snap s.log.length
      unfold DS.sync; rw [if_neg hd, if_neg h1]; rw [if_neg h1] at this
      refine this.trans ?_
      obtain ⟨e1, e2, e3, e4, e5⟩ := s.spend_log
      simp only [Prod.mk.injEq, and_true]
      rw [← e1, ← e2])
    have hb : decide (s.left = 1) = false := decF h1
    have Hd := Lib.hid hd'
    clear hd hd' h1
    generalize s.sync = S1 at *
    go_enter Try.func44, Try.ntmps44
    go_wp2_with fail
    refine (goes_rk w g s N hR Hd.out k4).mono ?_
    rintro e w2 ⟨rfl, ⟨ev, la, lc, sa, sc, h0, hB2, hl2, hs2⟩, hx2⟩
    rw [hb]
    have c1 : w2.cell? ⟨g, 1, none⟩ = some (.slice la s.log.length lc) := hB2.cell 1 _ rfl
    have c2 := hB2.cell 2 _ rfl
    have f2 := hB2.fr 2
    have hxs := Ext.at w2 g 2 (.int .i64 s.log.length)
    have hRe : Rk (w2.setCell ⟨g, 2, none⟩ (.int .i64 s.log.length)) g { s.goes with synced := s.log.length } N :=
      ⟨ev, la, lc, sa, sc, h0, hB2.set 2 (.int .i64 s.log.length) (by simp [rcells]), hl2.ext hxs (fun _ _ h => .inl h), hs2.ext hxs (fun _ _ h => .inl h)⟩
    clear hB2 hl2 hs2
    go_wp2_with fail
    refine (ends_rk _ g _ N hRe (by simp [DS.goes]; omega)).mono ?_
    rintro e w5 ⟨rfl, hR5, hx5⟩
    rw [Hap.out] at hR5 ⊢
    go_wp2_with fail
    go_ret
    exact ⟨rfl, hR5, (hx2.comp hxs).comp hx5⟩

set_option maxHeartbeats 2000000 in
theorem refswap_any (w : World) (g : Nat) (s : DS) (N : Nat → Prop) (h : Rk w g s N) (hN : ∀ k, N k → k < w.heap.size) (hok : s.ok) (ba : Option Addr) (bc : Nat) (b : List UInt8) (hbd : Rd w ba (bs b)) (hbg : b ≠ [] → ∀ ad, ba = some ad → ad.block ≠ g) (hbl : b.length ≤ 1099511627776) :
    Calls Try.prog 45 #[.pointer (some ⟨g, 0, none⟩), .slice ba b.length bc] w (RkEnd w g N (s.swap b).1 (s.swap b).2) := by
  obtain ⟨ev, la, lc, sa, sc, h0, hB, hl, hs⟩ := h
  obtain ⟨k1, k2, k3, k4, k5, k6⟩ := hok
  have hg := hB.lt (by simp [rcells])
  have c6 := hB.cell 6 _ rfl
  have c0 := hB.cell 0 _ rfl
  by_cases hd : s.dead = true
  · have hap : s.swap b = (s, 18) := by unfold DS.swap; rw [if_pos hd]
    rw [hap]
    rw [hd] at c6
    clear hap hd
    go_enter Try.func45, Try.ntmps45
    go_wp2_with fail
    go_ret
    exact ⟨rfl, ⟨ev, la, lc, sa, sc, h0, hB, hl, hs⟩, Ext.refl _ _⟩
  have hd' : s.dead = false := by simpa using hd
  rw [hd'] at c6
  by_cases hf : s.room < b.length
  · have hap : s.swap b = (s, 17) := by unfold DS.swap; rw [if_neg hd, if_pos hf]
    rw [hap]
    clear hap hd hd'
    have d1 : decide (s.room < b.length) = true := decT hf
    go_enter Try.func45, Try.ntmps45
    go_wp2_with fail
    go_ret
    exact ⟨rfl, ⟨ev, la, lc, sa, sc, h0, hB, hl, hs⟩, Ext.refl _ _⟩
  have d1 : decide (s.room < b.length) = false := decF hf
  by_cases ht : s.left ≠ 1 ∨ s.odd = 0
  · have Hap := Lib.hid (show ({ s.goes with log := [], snap := b, synced := 0 } : DS).ends = s.swap b by rw [DS.goes_all hd']; unfold DS.swap; rw [if_neg hd, if_neg hf, if_pos ht])
    have hcase : decide (s.left = 1) = false ∨ (decide (s.left = 1) = true ∧ ev = true) := by
      by_cases h1 : s.left = 1
      · rcases ht with ht | ht
        · exact absurd h1 ht
        · exact .inr ⟨decT h1, by rw [h0 (by omega)]; exact decT ht⟩
      · exact .inl (decF h1)
    have Hd := Lib.hid hd'
    have H0 := Lib.hid h0
    clear hd hd' ht h0
    generalize s.swap b = S1 at *
    rcases hcase with hb | ⟨hb, he⟩
    all_goals
      go_enter Try.func45, Try.ntmps45
      go_wp2_with fail
      refine (goes_any w g s ev la sa lc sc hB Hd.out k4).mono ?_
      rintro e w2 ⟨rfl, hB2, hx2⟩
      rw [hb]
      have c5 : w2.cell? ⟨g, 5, none⟩ = some (.bool ev) := hB2.cell 5 _ rfl
      try rw [he] at c5
      have hbd2 : Rd w2 ba (bs b) := by
        by_cases he : b = []
        · rw [he]; exact Rd.nil _ _
        · exact hbd.ext hx2 (fun ad ha h => hbg he ad ha h)
      have hsz2 := hx2.size
      have hg2 : g < w2.heap.size := by omega
      have hxa := Ext.alloc no w2 (.cells #[] 5)
      go_wp2_with (at_builtin; refine wpList_append TBytes rfl rfl rfl (emptied w2 5) rfl (hbd2.ext hxa (fun _ _ h => h)) (by simp) (bs_one _) (by unfold maxLen; omega) (by omega) (by simp) ?_)
      intro a3 c3 w3 hA
      obtain ⟨hown3, hx3⟩ := copied hA
      clear hA hxa
      have hB3 := hB2.ext (by simp [rcells]) hx3 (fun h => h)
      have q1 := hB3.cell 1 _ rfl
      have q2 := hB3.cell 2 _ rfl
      have q3 := hB3.cell 3 _ rfl
      have f1 := hB3.fr 1
      have f2 := hB3.fr 2
      have f3 := hB3.fr 3
      have hBe := ((hB3.set 3 (.slice a3 b.length c3) (by simp [rcells])).set 1 (.slice none 0 0) (by simp [rcells])).set 2 (.int .i64 0) (by simp [rcells])
      have hxs := ((Ext.at w3 g 3 (.slice a3 b.length c3)).comp (Ext.at _ g 1 (.slice none 0 0))).comp (Ext.at _ g 2 (.int .i64 0))
      have hRe : Rk (((w3.setCell ⟨g, 3, none⟩ (.slice a3 b.length c3)).setCell ⟨g, 1, none⟩ (.slice none 0 0)).setCell ⟨g, 2, none⟩ (.int .i64 0)) g { s.goes with log := [], snap := b, synced := 0 } N :=
        ⟨ev, none, 0, a3, c3, fun h => H0.out (by simp only [DS.goes] at h; omega), hBe, Sl.nil _ _ _, (Sl.own (N := N) hown3 hg2 (fun k hk => by have := hN k hk; omega)).ext hxs (fun _ _ h => .inl h)⟩
      have hxe := (hx2.comp (hx3.mono (fun _ _ h => h.elim))).comp hxs
      clear hB2 hbd2 hB3 hBe hown3 hxs
      go_wp2_with fail
      refine (ends_rk _ g _ N hRe (by simp [DS.goes]; omega)).mono ?_
      rintro e w5 ⟨rfl, hR5, hx5⟩
      rw [Hap.out] at hR5 ⊢
      go_wp2_with fail
      go_ret
      exact ⟨rfl, hR5, hxe.comp hx5⟩
  · have h1 : s.left = 1 := by omega
    have Hap := Lib.hid (show s.goes.ends = s.swap b by rw [DS.goes_only hd']; unfold DS.swap; rw [if_neg hd, if_neg hf, if_neg ht])
    have hb : decide (s.left = 1) = true := decT h1
    have he : ev = false := by rw [h0 (by omega)]; exact decF (by omega)
    have Hd := Lib.hid hd'
    have H0 := Lib.hid h0
    clear hd hd' ht h0 h1
    generalize s.swap b = S1 at *
    go_enter Try.func45, Try.ntmps45
    go_wp2_with fail
    refine (goes_any w g s ev la sa lc sc hB Hd.out k4).mono ?_
    rintro e w2 ⟨rfl, hB2, hx2⟩
    rw [hb]
    have c5 : w2.cell? ⟨g, 5, none⟩ = some (.bool ev) := hB2.cell 5 _ rfl
    rw [he] at c5
    have hR2 : Rk w2 g s.goes N := ⟨ev, la, lc, sa, sc, fun h => H0.out (by simp only [DS.goes] at h; omega), hB2, hl.ext hx2 (fun _ _ h => .inl h), hs.ext hx2 (fun _ _ h => .inl h)⟩
    go_wp2_with fail
    refine (ends_rk _ g _ N hR2 (by simp [DS.goes]; omega)).mono ?_
    rintro e w5 ⟨rfl, hR5, hx5⟩
    rw [Hap.out] at hR5 ⊢
    go_wp2_with fail
    go_ret
    exact ⟨rfl, hR5, hx2.comp hx5⟩

set_option maxHeartbeats 2000000 in
theorem refcut_any (w : World) (g : Nat) (s : DS) (N : Nat → Prop) (h : Rk w g s N) (hN : ∀ k, N k → k < w.heap.size) (hok : s.ok) (n : Int) (hn : I64ok n) :
    Calls Try.prog 42 #[.pointer (some ⟨g, 0, none⟩), .int .i64 n] w (RkEnd w g N (s.cut n).1 (s.cut n).2) := by
  obtain ⟨ev, la, lc, sa, sc, h0, hB, hl, hs⟩ := h
  obtain ⟨k1, k2, k3, k4, k5, k6⟩ := hok
  have hg := hB.lt (by simp [rcells])
  have c6 := hB.cell 6 _ rfl
  have c1 := hB.cell 1 _ rfl
  by_cases hd : s.dead = true
  · have hap : s.cut n = (s, 18) := by unfold DS.cut; rw [if_pos hd]
    rw [hap]
    rw [hd] at c6
    clear hap hd
    go_enter Try.func42, Try.ntmps42
    go_wp2_with fail
    go_ret
    exact ⟨rfl, ⟨ev, la, lc, sa, sc, h0, hB, hl, hs⟩, Ext.refl _ _⟩
  have hd' : s.dead = false := by simpa using hd
  rw [hd'] at c6
  by_cases hneg : n < 0
  · have hap : s.cut n = (s, 1) := by unfold DS.cut; rw [if_neg hd, if_pos (.inl hneg)]
    rw [hap]
    clear hap hd hd'
    have d1 : decide (n < 0) = true := decT hneg
    go_enter Try.func42, Try.ntmps42
    go_wp2_with fail
    go_ret
    exact ⟨rfl, ⟨ev, la, lc, sa, sc, h0, hB, hl, hs⟩, Ext.refl _ _⟩
  by_cases hf : (s.log.length : Int) < n
  · have hap : s.cut n = (s, 1) := by unfold DS.cut; rw [if_neg hd, if_pos (.inr hf)]
    rw [hap]
    clear hap hd hd'
    have d1 : decide (n < 0) = false := decF hneg
    have d2 : decide ((s.log.length : Int) < n) = true := decT hf
    go_enter Try.func42, Try.ntmps42
    go_wp2_with fail
    go_ret
    exact ⟨rfl, ⟨ev, la, lc, sa, sc, h0, hB, hl, hs⟩, Ext.refl _ _⟩
  have d1 : decide (n < 0) = false := decF hneg
  have d2 : decide ((s.log.length : Int) < n) = false := decF hf
  obtain ⟨m, rfl⟩ : ∃ m : Nat, n = (m : Int) := ⟨n.toNat, by omega⟩
  have d3 : decide (s.log.length < m) = false := decF (by omega)
  have hm : m ≤ s.log.length := by omega
  by_cases ht : s.left ≠ 1 ∨ s.odd = 0
  · have Hap := Lib.hid (show ({ s.goes with log := s.log.take m, synced := m } : DS).ends = s.cut (m : Int) by
      have := DS.goes_all hd' (s.log.take m) s.snap m
      refine this.trans ?_
      unfold DS.cut; rw [if_neg hd, if_neg (show ¬ ((m : Int) < 0 ∨ (s.log.length : Int) < (m : Int)) by omega), if_pos ht]
      obtain ⟨e1, e2, e3, e4, e5⟩ := s.spend_log
      simp only [Int.toNat_natCast, Prod.mk.injEq, and_true]
      rw [← e2])
    have hcase : decide (s.left = 1) = false ∨ (decide (s.left = 1) = true ∧ ev = true) := by
      by_cases h1 : s.left = 1
      · rcases ht with ht | ht
        · exact absurd h1 ht
        · exact .inr ⟨decT h1, by rw [h0 (by omega)]; exact decT ht⟩
      · exact .inl (decF h1)
    have Hd := Lib.hid hd'
    have H0 := Lib.hid h0
    clear hd hd' ht h0
    generalize s.cut (m : Int) = S1 at *
    have Hml := Lib.hid (show m = (s.log.take m).length by rw [List.length_take]; omega)
    rcases hcase with hb | ⟨hb, he⟩
    all_goals
      go_enter Try.func42, Try.ntmps42
      go_wp2_with fail
      refine (goes_any w g s ev la sa lc sc hB Hd.out k4).mono ?_
      rintro e w2 ⟨rfl, hB2, hx2⟩
      rw [hb]
      have c5 : w2.cell? ⟨g, 5, none⟩ = some (.bool ev) := hB2.cell 5 _ rfl
      try rw [he] at c5
      have hl2 := hl.ext hx2 (fun _ _ h => .inl h)
      have hs2 := hs.ext hx2 (fun _ _ h => .inl h)
      have hsz2 := hx2.size
      have hg2 : g < w2.heap.size := by omega
      have c1' : w2.cell? ⟨g, 1, none⟩ = some (.slice la s.log.length lc) := hB2.cell 1 _ rfl
      have hxa := Ext.alloc no w2 (.cells #[] 5)
      have e1 := hxa.keeps c1' (fun h => h)
      have hll := hl.2.1
      have cutm : ∀ w, (Instr.sliceAt 22 (.slice la s.log.length lc) none (some (.int .i64 (m : Int))) none).run Try.prog w = .ok (.slice la m lc) w := fun w => run_cut_h TBytes w la s.log.length lc .i64 m (by omega)
      have hrl : Rd (w2.alloc (.cells #[] 5)) la (bs (s.log.take m)) := by rw [← bs_take]; exact (hl2.1.take m).ext hxa (fun _ _ h => h)
      go_wp2_with (at_builtin; refine wpList_append TBytes rfl rfl rfl (emptied w2 5) rfl hrl (by rw [bs_length, ← Hml.out]; simp) (bs_one _) (by unfold maxLen; omega) (by omega) (by simp) ?_)
      intro a3 c3 w3 hA
      obtain ⟨hown3, hx3⟩ := copied hA
      clear hA hxa e1 hrl
      have hB3 := hB2.ext (by simp [rcells]) hx3 (fun h => h)
      have q1 := hB3.cell 1 _ rfl
      have q2 := hB3.cell 2 _ rfl
      have f1 := hB3.fr 1
      have f2 := hB3.fr 2
      have hBe := (hB3.set 1 (.slice a3 m c3) (by simp [rcells])).set 2 (.int .i64 m) (by simp [rcells])
      have hxs := (Ext.at w3 g 1 (.slice a3 m c3)).comp (Ext.at _ g 2 (.int .i64 m))
      have hown3' : Own w3 w2.heap.size a3 1 (s.log.take m).length c3 (bs (s.log.take m)) := by rw [← Hml.out]; exact hown3
      have hRe : Rk ((w3.setCell ⟨g, 1, none⟩ (.slice a3 m c3)).setCell ⟨g, 2, none⟩ (.int .i64 m)) g { s.goes with log := s.log.take m, synced := m } N := by
        refine ⟨ev, a3, c3, sa, sc, fun h => H0.out (by simp only [DS.goes] at h; omega), ?_, (Sl.own (N := N) hown3' hg2 (fun k hk => by have := hN k hk; omega)).ext hxs (fun _ _ h => .inl h), (hs2.ext hx3 (fun _ _ h => h.elim)).ext hxs (fun _ _ h => .inl h)⟩
        unfold rcells at hBe ⊢
        simp only [← Hml.out]
        exact hBe
      have hxe := (hx2.comp (hx3.mono (fun _ _ h => h.elim))).comp hxs
      clear hB2 hl2 hs2 hB3 hBe hown3 hown3' hxs
      go_wp2_with fail
      refine (ends_rk _ g _ N hRe (by simp [DS.goes]; omega)).mono ?_
      rintro e w5 ⟨rfl, hR5, hx5⟩
      rw [Hap.out] at hR5 ⊢
      go_wp2_with fail
      go_ret
      exact ⟨rfl, hR5, hxe.comp hx5⟩
  · have h1 : s.left = 1 := by omega
    have Hap := Lib.hid (show s.goes.ends = s.cut (m : Int) by rw [DS.goes_only hd']; unfold DS.cut; rw [if_neg hd, if_neg (show ¬ ((m : Int) < 0 ∨ (s.log.length : Int) < (m : Int)) by omega), if_neg ht])
    have hb : decide (s.left = 1) = true := decT h1
    have he : ev = false := by rw [h0 (by omega)]; exact decF (by omega)
    have Hd := Lib.hid hd'
    have H0 := Lib.hid h0
    clear hd hd' ht h0 h1
    generalize s.cut (m : Int) = S1 at *
    go_enter Try.func42, Try.ntmps42
    go_wp2_with fail
    refine (goes_any w g s ev la sa lc sc hB Hd.out k4).mono ?_
    rintro e w2 ⟨rfl, hB2, hx2⟩
    rw [hb]
    have c5 : w2.cell? ⟨g, 5, none⟩ = some (.bool ev) := hB2.cell 5 _ rfl
    rw [he] at c5
    have hR2 : Rk w2 g s.goes N := ⟨ev, la, lc, sa, sc, fun h => H0.out (by simp only [DS.goes] at h; omega), hB2, hl.ext hx2 (fun _ _ h => .inl h), hs.ext hx2 (fun _ _ h => .inl h)⟩
    go_wp2_with fail
    refine (ends_rk _ g _ N hR2 (by simp [DS.goes]; omega)).mono ?_
    rintro e w5 ⟨rfl, hR5, hx5⟩
    rw [Hap.out] at hR5 ⊢
    go_wp2_with fail
    go_ret
    exact ⟨rfl, hR5, hx2.comp hx5⟩

set_option maxHeartbeats 1000000 in
theorem refstop_any (w : World) (g : Nat) (s : DS) (N : Nat → Prop) (h : Rk w g s N) (n : Int) (hn : I64ok n) :
    Calls Try.prog 27 #[.pointer (some ⟨g, 0, none⟩), .int .i64 n] w fun e w' => e = .returned (.tuple #[]) ∧ Rk w' g (s.stop n) N ∧ Ext (just g) w w' := by
  obtain ⟨hn1, hn2⟩ := hn
  obtain ⟨ev, la, lc, sa, sc, h0, hB, hl, hs⟩ := h
  have c4 := hB.cell 4 _ rfl
  have c5 := hB.cell 5 _ rfl
  have f4 := hB.fr 4
  have f5 := hB.fr 5
  have hxs := (Ext.at w g 4 (.int .i64 n.toNat)).comp (Ext.at _ g 5 (.bool (n.tmod 2 == 0)))
  have hB4 := (hB.set 4 (.int .i64 n.toNat) (by simp [rcells])).set 5 (.bool (n.tmod 2 == 0)) (by simp [rcells])
  have hev : 0 < (s.stop n).left → (n.tmod 2 == 0) = decide ((s.stop n).odd = 0) := fun h => by
    have h1 : 0 < n.toNat := h
    show (n.tmod 2 == 0) = decide (n.toNat % 2 = 0)
    rw [Int.tmod_eq_emod_of_nonneg (by omega)]
    by_cases h2 : n % 2 = 0
    · rw [decT (show n.toNat % 2 = 0 by omega), beq_iff_eq]; exact h2
    · rw [decF (show ¬ n.toNat % 2 = 0 by omega), beq_eq_false_iff_ne]; exact h2
  have hDk : Rk ((w.setCell ⟨g, 4, none⟩ (.int .i64 n.toNat)).setCell ⟨g, 5, none⟩ (.bool (n.tmod 2 == 0))) g (s.stop n) N := ⟨_, la, lc, sa, sc, hev, hB4, hl.ext hxs (fun _ _ h => .inl h), hs.ext hxs (fun _ _ h => .inl h)⟩
  have H := Lib.hid (And.intro hDk hxs)
  clear hDk hxs hB4 hev
  by_cases hneg : n < 0
  · have H2 : Hid (Rk ((w.setCell ⟨g, 4, none⟩ (.int .i64 0)).setCell ⟨g, 5, none⟩ (.bool (n.tmod 2 == 0))) g (s.stop n) N ∧ Ext (just g) w ((w.setCell ⟨g, 4, none⟩ (.int .i64 0)).setCell ⟨g, 5, none⟩ (.bool (n.tmod 2 == 0)))) := Lib.hid (by
      have h0 : n.toNat = 0 := by omega
      have := H.out
      rw [h0] at this
      exact this)
    clear H
    go_enter Try.func27, Try.ntmps27
    go_wp2_with fail
    go_end0
    exact ⟨rfl, H2.out⟩
  · have H2 : Hid (Rk ((w.setCell ⟨g, 4, none⟩ (.int .i64 n)).setCell ⟨g, 5, none⟩ (.bool (n % 2 == 0))) g (s.stop n) N ∧ Ext (just g) w ((w.setCell ⟨g, 4, none⟩ (.int .i64 n)).setCell ⟨g, 5, none⟩ (.bool (n % 2 == 0)))) := Lib.hid (by
      have h0 : (n.toNat : Int) = n := by omega
      have := H.out
      rw [h0, Int.tmod_eq_emod_of_nonneg (by omega)] at this
      exact this)
    clear H
    go_enter Try.func27, Try.ntmps27
    go_wp2_with fail
    go_end0
    exact ⟨rfl, H2.out⟩
end Go.Proofs.Ytbmkmbankflbpaa
