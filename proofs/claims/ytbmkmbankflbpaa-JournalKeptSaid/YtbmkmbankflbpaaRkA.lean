/- Walks of the reference's disk: what it is in memory; goes, end, New, Append. -/
import Derived.Test.YtbmkmbankflbpaaDkF
import Derived.Test.YtbmkmbankflbpaaDkO
namespace Go.Esc
open Go.RowKit
variable {w w' : World}

def rcells (s : DS) (ev : Bool) (la : Option Addr) (lc : Nat) (sa : Option Addr) (sc : Nat) : List Value :=
  [.int .i64 s.room, .slice la s.log.length lc, .int .i64 s.synced, .slice sa s.snap.length sc, .int .i64 s.left, .bool ev, .bool s.dead, .int .i64 s.done]
/-- A reference's disk in block g. -/
def Rk (w : World) (g : Nat) (s : DS) (N : Nat → Prop) : Prop :=
  ∃ ev la lc sa sc, (0 < s.left → ev = decide (s.odd = 0)) ∧ Blk w g (rcells s ev la lc sa sc) ∧ Sl w g N la lc s.log ∧ Sl w g N sa sc s.snap
theorem Rk.lt {g : Nat} {s : DS} {N : Nat → Prop} (h : Rk w g s N) : g < w.heap.size := by
  obtain ⟨_, _, _, _, _, _, h1, _⟩ := h
  exact h1.lt (by simp [rcells])
theorem Rk.ext {S N : Nat → Prop} {g : Nat} {s : DS} (h : Rk w g s N) (hx : Ext S w w') (hg : ¬ S g) (hs : ∀ k, k < w.heap.size → S k → N k) : Rk w' g s N := by
  obtain ⟨ev, la, lc, sa, sc, h0, h1, h2, h3⟩ := h
  exact ⟨ev, la, lc, sa, sc, h0, h1.ext (by simp [rcells]) hx hg, h2.ext hx (fun k hk h => .inr (hs k hk h)), h3.ext hx (fun k hk h => .inr (hs k hk h))⟩
theorem Rk.no {N : Nat → Prop} {g : Nat} {s : DS} (h : Rk w g s N) (hx : Ext no w w') : Rk w' g s N := h.ext hx (fun h => h) (fun _ _ h => h.elim)
theorem Rk.fewer {N N' : Nat → Prop} {g : Nat} {s : DS} (h : Rk w g s N) (hN : ∀ k, k < w.heap.size → N' k → N k) : Rk w g s N' := by
  obtain ⟨ev, la, lc, sa, sc, h0, h1, h2, h3⟩ := h
  exact ⟨ev, la, lc, sa, sc, h0, h1, h2.fewer hN, h3.fewer hN⟩

def DS.goes (s : DS) : DS := { s with left := s.left - 1, dead := decide (s.left = 1) }
def DS.ends (s : DS) : DS × Nat := if s.dead = true then (s, 18) else ({ s with done := s.done + 1 }, 0)
theorem DS.goes_ends {s : DS} (hd : s.dead = false) (l : List UInt8) : ({ s.goes with log := l } : DS).ends = ({ s.spend with log := l }, if s.left = 1 then 18 else 0) := by
  unfold DS.ends DS.goes DS.spend
  by_cases h : s.left = 1 <;> simp [h, hd]
theorem DS.ends_keeps (s : DS) : s.ends.1.log = s.log ∧ s.ends.1.snap = s.snap ∧ s.ends.1.left = s.left ∧ s.ends.1.odd = s.odd := by
  unfold DS.ends; split <;> simp
end Go.Esc
namespace Go.Proofs.Ytbmkmbankflbpaa
open Go.RowKit Go.Esc
set_option linter.unusedVariables false

/-- What a call on the reference's disk leaves. -/
def RkEnd (w : World) (g : Nat) (N : Nat → Prop) (s : DS) (k : Nat) (e : Ending) (w' : World) : Prop := e = .returned (.int .i64 k) ∧ Rk w' g s N ∧ Ext (just g) w w'

def GoesEnd (w : World) (g left : Nat) (r0 r1 r2 r3 r5 r7 : Value) (e : Ending) (w' : World) : Prop := e = .returned (.bool (decide (left = 1))) ∧
  Blk w' g [r0, r1, r2, r3, .int .i64 (left - 1 : Nat), r5, .bool (decide (left = 1)), r7] ∧ Ext (just g) w w'

set_option maxHeartbeats 400000 in
theorem goes_any0 (w : World) (g left : Nat) (r0 r1 r2 r3 r5 r7 : Value) (hB : Blk w g [r0, r1, r2, r3, .int .i64 left, r5, .bool false, r7]) (hl : left ≤ 9223372036854775807) :
    Calls Try.prog 46 #[.pointer (some ⟨g, 0, none⟩)] w (GoesEnd w g left r0 r1 r2 r3 r5 r7) := by
  have c4 := hB.cell 4 _ rfl
  have c6 := hB.cell 6 _ rfl
  have f4 := hB.fr 4
  have f6 := hB.fr 6
  by_cases h0 : left = 0
  · subst h0
    go_enter Try.func46, Try.ntmps46
    go_wp2_with fail
    go_ret
    exact ⟨rfl, hB, Ext.refl _ _⟩
  by_cases h1 : left = 1
  · subst h1
    go_enter Try.func46, Try.ntmps46
    go_wp2_with fail
    go_ret
    refine ⟨rfl, ?_, (Ext.at _ _ _ _).comp (Ext.at _ _ _ _)⟩
    have := (hB.set 4 (.int .i64 0) (by simp)).set 6 (.bool true) (by simp)
    simpa using this
  have hb0 : ((left : Int) == 0) = false := by rw [beq_eq_false_iff_ne]; omega
  have hb : ((left : Int) - 1 == 0) = false := by rw [beq_eq_false_iff_ne]; omega
  have hl2 : 2 ≤ left := by omega
  have Hn := Lib.hid (show ((left : Int) - 1) = ((left - 1 : Nat) : Int) by omega)
  go_enter Try.func46, Try.ntmps46
  go_wp2_with fail
  go_ret
  refine ⟨?_, ?_, (Ext.at _ _ _ _).comp (Ext.at _ _ _ _)⟩
  · rw [decide_eq_false h1]; rfl
  · have := (hB.set 4 (.int .i64 ((left : Int) - 1)) (by simp)).set 6 (.bool false) (by simp)
    rw [decide_eq_false h1, ← Hn.out]
    simpa using this

theorem goes_any (w : World) (g : Nat) (s : DS) (ev : Bool) (la sa : Option Addr) (lc sc : Nat) (hB : Blk w g (rcells s ev la lc sa sc)) (hd : s.dead = false) (hl : s.left ≤ 9223372036854775807) :
    Calls Try.prog 46 #[.pointer (some ⟨g, 0, none⟩)] w fun e w' => e = .returned (.bool (decide (s.left = 1))) ∧ Blk w' g (rcells s.goes ev la lc sa sc) ∧ Ext (just g) w w' := by
  unfold rcells at hB
  rw [hd] at hB
  exact goes_any0 w g s.left _ _ _ _ _ _ hB hl

set_option maxHeartbeats 400000 in
theorem ends_any (w : World) (g : Nat) (s : DS) (ev : Bool) (la sa : Option Addr) (lc sc : Nat) (hB : Blk w g (rcells s ev la lc sa sc)) (hn : s.done ≤ 4611686018427387904) :
    Calls Try.prog 47 #[.pointer (some ⟨g, 0, none⟩)] w fun e w' => e = .returned (.int .i64 (s.ends.2 : Nat)) ∧ Blk w' g (rcells s.ends.1 ev la lc sa sc) ∧ Ext (just g) w w' := by
  have c6 := hB.cell 6 _ rfl
  have c7 := hB.cell 7 _ rfl
  have f7 := hB.fr 7
  by_cases hd : s.dead = true
  · have he : s.ends = (s, 18) := by unfold DS.ends; rw [if_pos hd]
    rw [he]
    rw [hd] at c6
    clear he hd
    go_enter Try.func47, Try.ntmps47
    go_wp2_with fail
    go_ret
    exact ⟨rfl, hB, Ext.refl _ _⟩
  · have he : s.ends = ({ s with done := s.done + 1 }, 0) := by unfold DS.ends; rw [if_neg hd]
    rw [he]
    rw [show s.dead = false by simpa using hd] at c6
    clear he hd
    go_enter Try.func47, Try.ntmps47
    go_wp2_with fail
    go_ret
    refine ⟨rfl, ?_, Ext.at _ _ _ _⟩
    have := hB.set 7 (.int .i64 ((s.done : Int) + 1)) (by simp [rcells])
    simpa [rcells] using this

theorem goes_rk (w : World) (g : Nat) (s : DS) (N : Nat → Prop) (h : Rk w g s N) (hd : s.dead = false) (hl : s.left ≤ 9223372036854775807) :
    Calls Try.prog 46 #[.pointer (some ⟨g, 0, none⟩)] w fun e w' => e = .returned (.bool (decide (s.left = 1))) ∧ Rk w' g s.goes N ∧ Ext (just g) w w' := by
  obtain ⟨ev, la, lc, sa, sc, h0, h1, h2, h3⟩ := h
  refine (goes_any w g s ev la sa lc sc h1 hd hl).mono ?_
  rintro e w' ⟨rfl, hB, hx⟩
  exact ⟨rfl, ⟨ev, la, lc, sa, sc, fun h => h0 (by simp only [DS.goes] at h; omega), hB, h2.ext hx (fun _ _ h => .inl h), h3.ext hx (fun _ _ h => .inl h)⟩, hx⟩
theorem ends_rk (w : World) (g : Nat) (s : DS) (N : Nat → Prop) (h : Rk w g s N) (hn : s.done ≤ 4611686018427387904) :
    Calls Try.prog 47 #[.pointer (some ⟨g, 0, none⟩)] w (RkEnd w g N s.ends.1 s.ends.2) := by
  obtain ⟨ev, la, lc, sa, sc, h0, h1, h2, h3⟩ := h
  refine (ends_any w g s ev la sa lc sc h1 hn).mono ?_
  rintro e w' ⟨rfl, hB, hx⟩
  obtain ⟨e1, e2, e3, e4⟩ := s.ends_keeps
  exact ⟨rfl, ⟨ev, la, lc, sa, sc, by rw [e3, e4]; exact h0, hB, by rw [e1]; exact h2.ext hx (fun _ _ h => .inl h), by rw [e2]; exact h3.ext hx (fun _ _ h => .inl h)⟩, hx⟩

set_option maxHeartbeats 1000000 in
theorem refnew_bad (w : World) (room : Int) (hr : room < 1 ∨ 16777216 < room) :
    Calls Try.prog 22 #[.int .i64 room] w fun e w' => e = .returned (.tuple #[.pointer none, .int .i64 1]) ∧ w = w' := by
  rcases hr with hr | hr
  · have d1 : decide (room < 1) = true := decT hr
    go_enter Try.func22, Try.ntmps22
    go_wp2_with fail
    go_ret2
    exact ⟨rfl, rfl⟩
  · have d1 : decide (room < 1) = false := decF (by omega)
    have d2 : decide (16777216 < room) = true := decT hr
    go_enter Try.func22, Try.ntmps22
    go_wp2_with fail
    go_ret2
    exact ⟨rfl, rfl⟩

set_option maxHeartbeats 1000000 in
theorem refnew_any (w : World) (room : Nat) (hr1 : 1 ≤ room) (hr2 : room ≤ 16777216) (N : Nat → Prop) :
    Calls Try.prog 22 #[.int .i64 room] w fun e w' => ∃ g, e = .returned (.tuple #[.pointer (some ⟨g, 0, none⟩), .int .i64 0]) ∧ Rk w' g (DS.new room) N ∧ w.heap.size ≤ g ∧ Ext no w w' := by
  have d1 : decide ((room : Int) < 1) = false := decF (by omega)
  have d2 : decide (16777216 < (room : Int)) = false := decF (by omega)
  go_enter Try.func22, Try.ntmps22
  go_wp2_with fail
  go_ret2
  refine ⟨_, rfl, ⟨false, none, 0, none, 0, fun h => absurd h (by simp [DS.new]), ?_, Sl.nil _ _ _, Sl.nil _ _ _⟩, Nat.le_refl _, Ext.alloc no _ _⟩
  exact Blk.lit w _ _

set_option maxHeartbeats 2000000 in
theorem refappend_any (w : World) (g : Nat) (s : DS) (N : Nat → Prop) (h : Rk w g s N) (hN : ∀ k, N k → k < w.heap.size) (hok : s.ok) (ba : Option Addr) (bc : Nat) (b : List UInt8) (hbd : Rd w ba (bs b)) (hbg : b ≠ [] → ∀ ad, ba = some ad → ad.block ≠ g) (hbl : b.length ≤ 1099511627776) :
    Calls Try.prog 30 #[.pointer (some ⟨g, 0, none⟩), .slice ba b.length bc] w (RkEnd w g N (s.append b).1 (s.append b).2) := by
  have hR := h
  obtain ⟨ev, la, lc, sa, sc, h0, hB, hl, hs⟩ := h
  obtain ⟨k1, k2, k3, k4, k5, k6⟩ := hok
  have hg := hB.lt (by simp [rcells])
  have c6 := hB.cell 6 _ rfl
  have c1 := hB.cell 1 _ rfl
  have c3 := hB.cell 3 _ rfl
  have c0 := hB.cell 0 _ rfl
  by_cases hd : s.dead = true
  · have hap : s.append b = (s, 18) := by unfold DS.append; rw [if_pos hd]
    rw [hap]
    rw [hd] at c6
    clear hap hd
    go_enter Try.func30, Try.ntmps30
    go_wp2_with fail
    go_ret
    exact ⟨rfl, ⟨ev, la, lc, sa, sc, h0, hB, hl, hs⟩, Ext.refl _ _⟩
  have hd' : s.dead = false := by simpa using hd
  rw [hd'] at c6
  by_cases hf : s.room < s.log.length + s.snap.length + b.length
  · have hap : s.append b = (s, 17) := by unfold DS.append; rw [if_neg hd, if_pos hf]
    rw [hap]
    clear hap hd hd'
    have d1 : decide ((s.room : Int) < (s.log.length : Int) + s.snap.length + b.length) = true := decT (by omega)
    go_enter Try.func30, Try.ntmps30
    go_upto_region 3 with fail
    go_quiet (fail)
    go_wp2_with fail
    go_ret
    exact ⟨rfl, ⟨ev, la, lc, sa, sc, h0, hB.drewN _, hl.ext (Ext.drewN no _ _) (fun _ _ h => h.elim), hs.ext (Ext.drewN no _ _) (fun _ _ h => h.elim)⟩, Ext.drewN _ _ _⟩
  obtain ⟨S1, hS1⟩ : ∃ S1, S1 = s.append b := ⟨_, rfl⟩
  have Hap := Lib.hid (show ({ s.goes with log := s.log ++ b } : DS).ends = S1 by rw [hS1, DS.append, if_neg hd, if_neg hf, DS.goes_ends hd' _])
  rw [← hS1]
  have Hd := Lib.hid hd'
  clear hS1 hd hd'
  have d1 : decide ((s.room : Int) < (s.log.length : Int) + s.snap.length + b.length) = false := decF (by omega)
  go_enter Try.func30, Try.ntmps30
  go_upto_region 3 with fail
  go_quiet (fail)
  have hR1 := hR.no (Ext.drewN no w nq)
  have hx1 := Ext.drewN (just g) w nq
  have hbd1 := hbd.drewN nq
  have hsz1 := hx1.size
  clear hB hl hs hbd c6 c1 c3 c0 hR h0
  generalize w.drewN nq = w1 at *
  go_wp2_with fail
  refine (goes_rk w1 g s N hR1 Hd.out k4).mono ?_
  rintro e w2 ⟨rfl, ⟨ev2, la2, lc2, sa2, sc2, h0, hB2, hl2, hs2⟩, hx2⟩
  have hbd2 : Rd w2 ba (bs b) := by
    by_cases he : b = []
    · rw [he]; exact Rd.nil _ _
    · exact hbd1.ext hx2 (fun ad ha h => hbg he ad ha h)
  have hx02 := hx1.comp hx2
  have c1 : w2.cell? ⟨g, 1, none⟩ = some (.slice la2 s.log.length lc2) := hB2.cell 1 _ rfl
  have hsz2 := hx02.size
  have hg2 : g < w2.heap.size := by omega
  clear hR1 hbd1 hx1 hx2
  have hxa := Ext.alloc no w2 (.cells #[] 5)
  have e1 := hxa.keeps c1 (fun h => h)
  go_wp2_with (at_builtin; refine wpList_append TBytes rfl rfl rfl (emptied w2 5) rfl (hl2.1.ext hxa (fun _ _ h => h)) (by simp [DS.goes]) (bs_one _) (by unfold maxLen; omega) (by omega) (by simp) ?_)
  intro a3 c3 w3 hA
  obtain ⟨hown3, hx3⟩ := copied hA
  clear hA e1 hxa
  go_wp2_with (at_builtin; refine wpList_append TBytes rfl rfl rfl hown3 rfl (hbd2.ext hx3 (fun _ _ h => h)) (by simp) (bs_one _) (by unfold maxLen; omega) (by omega) hx3.size ?_)
  intro a4 c4 w4 hA
  obtain ⟨hown4, hx4⟩ := appended hown3 hx3 hA
  clear hA hown3 hx3
  have hB4 := hB2.ext (by simp [rcells]) hx4 (fun h => h)
  have e1 := hB4.cell 1 _ rfl
  have f1 := hB4.fr 1
  have hxs := Ext.at w4 g 1 (.slice a4 (s.log.length + b.length) c4)
  have hxe := (hx02.comp (hx4.mono (fun _ _ h => h.elim))).comp hxs
  have hRe : Rk (w4.setCell ⟨g, 1, none⟩ (.slice a4 (s.log.length + b.length) c4)) g { s.goes with log := s.log ++ b } N := by
    have hBe := hB4.set 1 (.slice a4 (s.log.length + b.length) c4) (by simp [rcells])
    refine ⟨ev2, a4, c4, sa2, sc2, h0, ?_, (Sl.own (N := N) hown4 hg2 (fun k hk => by have := hN k hk; omega)).ext hxs (fun _ _ h => .inl h), (hs2.ext hx4 (fun _ _ h => h.elim)).ext hxs (fun _ _ h => .inl h)⟩
    unfold rcells at hBe ⊢
    simp only [List.length_append]
    exact hBe
  clear hB2 hl2 hs2 hbd2 hx02 hB4 hown4
  go_wp2_with fail
  refine (ends_rk _ g _ N hRe (by simp [DS.goes]; omega)).mono ?_
  rintro e w5 ⟨rfl, hR5, hx5⟩
  rw [Hap.out] at hR5 ⊢
  go_wp2_with fail
  go_ret
  exact ⟨rfl, hR5, hxe.comp hx5⟩
end Go.Proofs.Ytbmkmbankflbpaa
