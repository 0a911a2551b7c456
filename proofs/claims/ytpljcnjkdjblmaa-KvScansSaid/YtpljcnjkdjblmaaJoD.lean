/- The walk of journal.Open. -/
import Derived.Test.YtpljcnjkdjblmaaKD
import Derived.Test.YtpljcnjkdjblmaaKC
namespace Go.Proofs.Ytpljcnjkdjblmaa
open Go.RowKit Go.Esc
set_option linter.unusedVariables false
set_option linter.unusedSimpArgs false

/-- What Open leaves. -/
def OpenEnd (w : World) (g : Nat) (N : Nat → Prop) (s s' : DS) (k : Nat) (p : List UInt8) (L : List (List UInt8)) (e : Ending) (w' : World) : Prop :=
  ∃ J sa sc la lc, e = .returned (.tuple #[J, .slice sa p.length sc, .slice la L.length lc, .int .i64 k]) ∧ (Rd w' sa (bs p) ∧ ∀ ad, sa = some ad → w.heap.size ≤ ad.block) ∧ ListsN w' w.heap.size la L ∧ Ext (just g) w w' ∧
    ((k ≠ 0 ∧ J = .pointer none ∧ Dk w' g s' N) ∨ (k = 0 ∧ ∃ j, J = .pointer (some ⟨j, 0, none⟩) ∧ w.heap.size ≤ j ∧ j < w'.heap.size ∧ Blk w' j (jcells g L.length) ∧ Dk w' g s' (fun i => N i ∨ i = j)))

theorem wp_calm {P : Program} {c : Code} {Q : Exit → Act → World → Prop} {a : Act} {w : World} (h : c.wp P (fun e a w => (∀ ch, e ≠ .panic ch) ∧ Q e a w) a w) : c.wp P Q a w := Code.wp_mono (fun _ _ _ h => h.2) h
theorem nilLists (w : World) (B : Nat) : ListsN w B none [] := ⟨[], rfl, Rd.nil _ _, by simp, (fun _ h => by cases h), by simp⟩

/-- Four variables in blocks of their own. -/
structure Bx (w : World) (b2 b3 b4 b5 : Nat) (v2 v3 v4 v5 : Value) : Prop where
  h2 : Blk w b2 [v2]
  h3 : Blk w b3 [v3]
  h4 : Blk w b4 [v4]
  h5 : Blk w b5 [v5]
/-- .. they are four, none below B. -/
structure Four (B b2 b3 b4 b5 : Nat) : Prop where
  lo : B ≤ b2
  n23 : b2 < b3
  n34 : b3 < b4
  n45 : b4 < b5
theorem Bx.ext {S : Nat → Prop} {w w' : World} {b2 b3 b4 b5 : Nat} {v2 v3 v4 v5 : Value} (h : Bx w b2 b3 b4 b5 v2 v3 v4 v5) (hx : Ext S w w') {B : Nat} (q : Four B b2 b3 b4 b5) (hS : ∀ k, B ≤ k → ¬ S k) : Bx w' b2 b3 b4 b5 v2 v3 v4 v5 := by
  obtain ⟨q1, q2, q3, q4⟩ := q
  exact ⟨h.h2.ext (by simp) hx (hS _ (by omega)), h.h3.ext (by simp) hx (hS _ (by omega)), h.h4.ext (by simp) hx (hS _ (by omega)), h.h5.ext (by simp) hx (hS _ (by omega))⟩
theorem Bx.set2 {w : World} {b2 b3 b4 b5 : Nat} {v2 v3 v4 v5 : Value} (h : Bx w b2 b3 b4 b5 v2 v3 v4 v5) {B : Nat} (q : Four B b2 b3 b4 b5) (v : Value) : Bx (w.setCell ⟨b2, 0, none⟩ v) b2 b3 b4 b5 v v3 v4 v5 := by
  obtain ⟨q1, q2, q3, q4⟩ := q
  exact ⟨h.h2.set 0 v (by simp), h.h3.ext (by simp) (Ext.at w b2 0 v) (by simp only [Esc.just]; omega), h.h4.ext (by simp) (Ext.at w b2 0 v) (by simp only [Esc.just]; omega), h.h5.ext (by simp) (Ext.at w b2 0 v) (by simp only [Esc.just]; omega)⟩
theorem Bx.set3 {w : World} {b2 b3 b4 b5 : Nat} {v2 v3 v4 v5 : Value} (h : Bx w b2 b3 b4 b5 v2 v3 v4 v5) {B : Nat} (q : Four B b2 b3 b4 b5) (v : Value) : Bx (w.setCell ⟨b3, 0, none⟩ v) b2 b3 b4 b5 v2 v v4 v5 := by
  obtain ⟨q1, q2, q3, q4⟩ := q
  exact ⟨h.h2.ext (by simp) (Ext.at w b3 0 v) (by simp only [Esc.just]; omega), h.h3.set 0 v (by simp), h.h4.ext (by simp) (Ext.at w b3 0 v) (by simp only [Esc.just]; omega), h.h5.ext (by simp) (Ext.at w b3 0 v) (by simp only [Esc.just]; omega)⟩
theorem Bx.set4 {w : World} {b2 b3 b4 b5 : Nat} {v2 v3 v4 v5 : Value} (h : Bx w b2 b3 b4 b5 v2 v3 v4 v5) {B : Nat} (q : Four B b2 b3 b4 b5) (v : Value) : Bx (w.setCell ⟨b4, 0, none⟩ v) b2 b3 b4 b5 v2 v3 v v5 := by
  obtain ⟨q1, q2, q3, q4⟩ := q
  exact ⟨h.h2.ext (by simp) (Ext.at w b4 0 v) (by simp only [Esc.just]; omega), h.h3.ext (by simp) (Ext.at w b4 0 v) (by simp only [Esc.just]; omega), h.h4.set 0 v (by simp), h.h5.ext (by simp) (Ext.at w b4 0 v) (by simp only [Esc.just]; omega)⟩
theorem Bx.set5 {w : World} {b2 b3 b4 b5 : Nat} {v2 v3 v4 v5 : Value} (h : Bx w b2 b3 b4 b5 v2 v3 v4 v5) {B : Nat} (q : Four B b2 b3 b4 b5) (v : Value) : Bx (w.setCell ⟨b5, 0, none⟩ v) b2 b3 b4 b5 v2 v3 v4 v := by
  obtain ⟨q1, q2, q3, q4⟩ := q
  exact ⟨h.h2.ext (by simp) (Ext.at w b5 0 v) (by simp only [Esc.just]; omega), h.h3.ext (by simp) (Ext.at w b5 0 v) (by simp only [Esc.just]; omega), h.h4.ext (by simp) (Ext.at w b5 0 v) (by simp only [Esc.just]; omega), h.h5.set 0 v (by simp)⟩

def NB (N : Nat → Prop) (b2 b3 b4 b5 : Nat) : Nat → Prop := fun k => N k ∨ k = b2 ∨ k = b3 ∨ k = b4 ∨ k = b5
/-- Some of the four are written. -/
def some4 (b2 b3 b4 b5 : Nat) : Nat → Prop := fun k => k = b2 ∨ k = b3 ∨ k = b4 ∨ k = b5
theorem at2 (w : World) (b2 b3 b4 b5 : Nat) (v : Value) : Ext (some4 b2 b3 b4 b5) w (w.setCell ⟨b2, 0, none⟩ v) := Ext.setCell _ _ _ (.inl rfl)
theorem at3 (w : World) (b2 b3 b4 b5 : Nat) (v : Value) : Ext (some4 b2 b3 b4 b5) w (w.setCell ⟨b3, 0, none⟩ v) := Ext.setCell _ _ _ (.inr (.inl rfl))
theorem at4 (w : World) (b2 b3 b4 b5 : Nat) (v : Value) : Ext (some4 b2 b3 b4 b5) w (w.setCell ⟨b4, 0, none⟩ v) := Ext.setCell _ _ _ (.inr (.inr (.inl rfl)))
theorem at5 (w : World) (b2 b3 b4 b5 : Nat) (v : Value) : Ext (some4 b2 b3 b4 b5) w (w.setCell ⟨b5, 0, none⟩ v) := Ext.setCell _ _ _ (.inr (.inr (.inr rfl)))
theorem on4 {S : Nat → Prop} {w0 w w' : World} {b2 b3 b4 b5 : Nat} (q : Four w0.heap.size b2 b3 b4 b5) (h : Ext S w0 w) (hx : Ext (some4 b2 b3 b4 b5) w w') : Ext S w0 w' := by
  obtain ⟨q1, q2, q3, q4⟩ := q
  exact h.trans hx (fun i hi h => by rcases h with h | h | h | h <;> omega)
theorem dk4 {w w' : World} {g : Nat} {s : DS} {N : Nat → Prop} {b2 b3 b4 b5 : Nat} (q : Four (g + 1) b2 b3 b4 b5) (h : Dk w g s N) (hN : ∀ k, some4 b2 b3 b4 b5 k → N k) (hx : Ext (some4 b2 b3 b4 b5) w w') : Dk w' g s N := by
  obtain ⟨q1, q2, q3, q4⟩ := q
  exact h.ext hx (by unfold some4; omega) (fun k _ hk => hN k hk)
theorem rd4' {w w' : World} {b2 b3 b4 b5 : Nat} {a : Option Addr} {cs : List Value} {B : Nat} (q : Four B b2 b3 b4 b5) (h : Rd w a cs) (hf : ∀ ad, a = some ad → b5 < ad.block) (hx : Ext (some4 b2 b3 b4 b5) w w') : Rd w' a cs := by
  obtain ⟨q1, q2, q3, q4⟩ := q
  exact h.ext hx (fun ad ha hs => by have := hf ad ha; rcases hs with h | h | h | h <;> omega)
theorem ln4 {w w' : World} {b2 b3 b4 b5 : Nat} {a : Option Addr} {L : List (List UInt8)} {B : Nat} (q : Four B b2 b3 b4 b5) (h : ListsN w (b5 + 1) a L) (hx : Ext (some4 b2 b3 b4 b5) w w') : ListsN w' (b5 + 1) a L := by
  obtain ⟨q1, q2, q3, q4⟩ := q
  exact h.ext hx (fun k hk => by rcases hk with h | h | h | h <;> omega)

set_option maxRecDepth 100000 in
set_option maxHeartbeats 8000000 in
theorem open_any (w : World) (g : Nat) (s : DS) (N : Nat → Prop) (h : Dk w g s N) (hN : ∀ k, N k → k < w.heap.size) (hok : s.ok) :
    Calls Try.prog 31 #[.pointer (some ⟨g, 0, none⟩)] w (OpenEnd w g N s s.opens.1 s.opens.2.1 s.opens.2.2.1 s.opens.2.2.2) := by
  have mk := jmkFunc
  have hgw := h.lt
  have Hop := Lib.hid (show s.opens = _ from rfl)
  have hlog : s.log.length ≤ 16777216 := by have := hok.fits; have := hok.room; omega
  have hsnl : s.snap.length ≤ 16777216 := by have := hok.fits; have := hok.room; omega
  go_enter_defers Try.func31, Try.ntmps31
  go_upto_region 1 with fail
  obtain ⟨b5, e5⟩ : ∃ b, b = w.heap.size + 1 + 1 + 1 := ⟨_, rfl⟩
  obtain ⟨b4, e4⟩ : ∃ b, b = w.heap.size + 1 + 1 := ⟨_, rfl⟩
  obtain ⟨b3, e3⟩ : ∃ b, b = w.heap.size + 1 := ⟨_, rfl⟩
  obtain ⟨b2, e2⟩ : ∃ b, b = w.heap.size := ⟨_, rfl⟩
  rw [← e5, ← e4, ← e3, ← e2]
  have q : Four w.heap.size b2 b3 b4 b5 := ⟨by omega, by omega, by omega, by omega⟩
  have qg : Four (g + 1) b2 b3 b4 b5 := ⟨by omega, by omega, by omega, by omega⟩
  have p2 := Blk.at w #[.pointer none] 74 b2 (by first | omega | (simp; omega))
  have p3 := Blk.at (w.alloc (.cells #[.pointer none] 74)) #[.slice none 0 0] 37 b3 (by first | omega | (simp; omega))
  have p2 := p2.ext (by simp) (Ext.alloc no (w.alloc (.cells #[.pointer none] 74)) (.cells #[.slice none 0 0] 37)) (fun h => h)
  have p4 := Blk.at ((w.alloc (.cells #[.pointer none] 74)).alloc (.cells #[.slice none 0 0] 37)) #[.slice none 0 0] 75 b4 (by first | omega | (simp; omega))
  have p2 := p2.ext (by simp) (Ext.alloc no ((w.alloc (.cells #[.pointer none] 74)).alloc (.cells #[.slice none 0 0] 37)) (.cells #[.slice none 0 0] 75)) (fun h => h)
  have p3 := p3.ext (by simp) (Ext.alloc no ((w.alloc (.cells #[.pointer none] 74)).alloc (.cells #[.slice none 0 0] 37)) (.cells #[.slice none 0 0] 75)) (fun h => h)
  have p5 := Blk.at (((w.alloc (.cells #[.pointer none] 74)).alloc (.cells #[.slice none 0 0] 37)).alloc (.cells #[.slice none 0 0] 75)) #[.int .i64 0] 25 b5 (by first | omega | (simp; omega))
  have p2 := p2.ext (by simp) (Ext.alloc no (((w.alloc (.cells #[.pointer none] 74)).alloc (.cells #[.slice none 0 0] 37)).alloc (.cells #[.slice none 0 0] 75)) (.cells #[.int .i64 0] 25)) (fun h => h)
  have p3 := p3.ext (by simp) (Ext.alloc no (((w.alloc (.cells #[.pointer none] 74)).alloc (.cells #[.slice none 0 0] 37)).alloc (.cells #[.slice none 0 0] 75)) (.cells #[.int .i64 0] 25)) (fun h => h)
  have p4 := p4.ext (by simp) (Ext.alloc no (((w.alloc (.cells #[.pointer none] 74)).alloc (.cells #[.slice none 0 0] 37)).alloc (.cells #[.slice none 0 0] 75)) (.cells #[.int .i64 0] 25)) (fun h => h)
  have hx0 : Ext no w ((((w.alloc (.cells #[.pointer none] 74)).alloc (.cells #[.slice none 0 0] 37)).alloc (.cells #[.slice none 0 0] 75)).alloc (.cells #[.int .i64 0] 25)) := (((Ext.alloc no _ _).comp (Ext.alloc no _ _)).comp (Ext.alloc no _ _)).comp (Ext.alloc no _ _)
  have hb : Bx ((((w.alloc (.cells #[.pointer none] 74)).alloc (.cells #[.slice none 0 0] 37)).alloc (.cells #[.slice none 0 0] 75)).alloc (.cells #[.int .i64 0] 25)) b2 b3 b4 b5 (.pointer none) (.slice none 0 0) (.slice none 0 0) (.int .i64 0) := ⟨p2, p3, p4, p5⟩
  have hlt : b5 < ((((w.alloc (.cells #[.pointer none] 74)).alloc (.cells #[.slice none 0 0] 37)).alloc (.cells #[.slice none 0 0] 75)).alloc (.cells #[.int .i64 0] 25)).heap.size := by simp; omega
  clear p2 p3 p4 p5
  generalize ((((w.alloc (.cells #[.pointer none] 74)).alloc (.cells #[.slice none 0 0] 37)).alloc (.cells #[.slice none 0 0] 75)).alloc (.cells #[.int .i64 0] 25)) = v0 at *
  have hD := (h.fewer (N' := NB N b2 b3 b4 b5) (fun k hk hh => by rcases hh with hh | hh | hh | hh | hh; exact hh; all_goals omega)).no hx0
  have hN' : ∀ k, NB N b2 b3 b4 b5 k → k < v0.heap.size := fun k hk => by have := hx0.size; rcases hk with hk | hk | hk | hk | hk; (have := hN k hk; omega); all_goals omega
  have h4N : ∀ k, some4 b2 b3 b4 b5 k → NB N b2 b3 b4 b5 k := fun k hk => .inr hk
  have hx := hx0.mono (S' := just g) (fun _ _ h => h.elim)
  have n23 : b2 ≠ b3 := by omega
  have n24 : b2 ≠ b4 := by omega
  have n25 : b2 ≠ b5 := by omega
  have n34 : b3 ≠ b4 := by omega
  have n35 : b3 ≠ b5 := by omega
  have n45 : b4 ≠ b5 := by omega
  have n32 := n23.symm
  have n42 := n24.symm
  have n52 := n25.symm
  have n43 := n34.symm
  have n53 := n35.symm
  have n54 := n45.symm
  clear e2 e3 e4 e5 hx0
  go_wp2_with fail
  refine (dead_any v0 g s _ hD).mono ?_
  rintro e w1 ⟨rfl, rfl⟩
  by_cases hd : s.dead = true
  · have Ho := Lib.hid (show s.opens = (s, 18, [], []) by unfold DS.opens; rw [if_pos hd])
    rw [hd]
    have c2 := hb.h2.cell 0 _ rfl
    have c3 := hb.h3.cell 0 _ rfl
    have c4 := hb.h4.cell 0 _ rfl
    have c5 := hb.h5.cell 0 _ rfl
    have f2 := hb.h2.fr 0
    have f3 := hb.h3.fr 0
    have f4 := hb.h4.fr 0
    have f5 := hb.h5.fr 0
    go_wp2_with fail
    clear c2 c3 c4 c5 f2 f3 f4 f5
    have hx4 : Ext (some4 b2 b3 b4 b5) v0 ((((v0.setCell ⟨b2, 0, none⟩ (.pointer none)).setCell ⟨b3, 0, none⟩ (.slice none 0 0)).setCell ⟨b4, 0, none⟩ (.slice none 0 0)).setCell ⟨b5, 0, none⟩ (.int .i64 18)) := (((((Ext.refl (some4 b2 b3 b4 b5) v0).comp (at2 v0 b2 b3 b4 b5 (.pointer none))).comp (at3 (v0.setCell ⟨b2, 0, none⟩ (.pointer none)) b2 b3 b4 b5 (.slice none 0 0))).comp (at4 ((v0.setCell ⟨b2, 0, none⟩ (.pointer none)).setCell ⟨b3, 0, none⟩ (.slice none 0 0)) b2 b3 b4 b5 (.slice none 0 0))).comp (at5 (((v0.setCell ⟨b2, 0, none⟩ (.pointer none)).setCell ⟨b3, 0, none⟩ (.slice none 0 0)).setCell ⟨b4, 0, none⟩ (.slice none 0 0)) b2 b3 b4 b5 (.int .i64 18)))
    have hb4 := ((((hb.set2 q (.pointer none)).set3 q (.slice none 0 0)).set4 q (.slice none 0 0)).set5 q (.int .i64 18))
    refine ⟨_, results_cell4 rfl _ _ rfl rfl rfl rfl (ld_j _ _ _ hb4.h2) (ld_b _ _ _ hb4.h3) (ld_l _ _ _ hb4.h4) (ld_e _ _ _ hb4.h5), ?_⟩
    rw [Ho.out]
    exact ⟨_, none, 0, none, 0, rfl, ⟨Rd.nil _ _, fun _ h => by cases h⟩, nilLists _ _, on4 q hx hx4, .inl ⟨by simp, rfl, (dk4 qg hD h4N hx4).fewer (fun k _ hk => .inl hk)⟩⟩
  rw [Bool.not_eq_true] at hd
  rw [hd]
  go_wp2_with fail
  refine (snap_any v0 g s _ hD hok).mono ?_
  rintro e w1 ⟨a1, c1, rfl, hown1, hx1⟩
  replace hb := hb.ext hx1 q (fun _ _ h => h)
  replace hD := hD.no hx1
  replace hN' : ∀ k, NB N b2 b3 b4 b5 k → k < w1.heap.size := fun k hk => Nat.lt_of_lt_of_le (hN' k hk) hx1.size
  replace hx := hx.comp (hx1.mono (fun _ _ h => h.elim))
  by_cases hs : s.snap = []
  · have d0 : decide (0 < s.snap.length) = false := decF (by rw [hs]; simp)
    have Hp := Lib.hid (show s.opens = if (frScan s.log).2 < s.log.length then (if (s.cut (frScan s.log).2).2 ≠ 0 then ((s.cut (frScan s.log).2).1, (s.cut (frScan s.log).2).2, [], []) else ((s.cut (frScan s.log).2).1, 0, [], (frScan s.log).1)) else (s, 0, [], (frScan s.log).1) by unfold DS.opens; rw [if_neg (by rw [hd]; simp), if_neg (by rw [hs]; simp), hs]; simp only [if_true])
    have hsa : Rd w1 none (bs []) := Rd.nil _ _
    have hsf : ∀ ad, (none : Option Addr) = some ad → b5 < ad.block := fun _ h => by cases h
    have hlt2 : b5 < w1.heap.size := Nat.lt_of_lt_of_le hlt hx1.size
    clear hown1 hx1
    go_wp2_with fail
    refine (log_any' w1 g s _ hD hok).mono ?_
    rintro e w3 ⟨a3, c3, rfl, hown3, hx3⟩
    go_wp2_with fail
    refine (fscan_new w3 a3 c3 s.log hown3.rd (by omega) hown3.nc hown3.cm).mono ?_
    rintro e w4 ⟨a4, cc4, rfl, hla, hx4⟩
    have hsc := frScan_le s.log.length s.log (Nat.le_refl _)
    have hx34 := hx3.comp hx4
    replace hb := hb.ext hx34 q (fun _ _ h => h)
    replace hD := hD.no hx34
    replace hN' : ∀ k, NB N b2 b3 b4 b5 k → k < w4.heap.size := fun k hk => Nat.lt_of_lt_of_le (hN' k hk) hx34.size
    have hlt4 : b5 < w3.heap.size := Nat.lt_of_lt_of_le hlt2 hx3.size
    replace hla := hla.mono (show b5 + 1 ≤ w3.heap.size by omega)
    replace hsa := hsa.ext hx34 (fun _ _ h => h)
    replace hx := hx.comp (hx34.mono (fun _ _ h => h.elim))
    clear hown3 hx3 hx4 hx34
    have c2 := hb.h2.cell 0 _ rfl
    have c3 := hb.h3.cell 0 _ rfl
    have c4 := hb.h4.cell 0 _ rfl
    have c5 := hb.h5.cell 0 _ rfl
    have f2 := hb.h2.fr 0
    have f3 := hb.h3.fr 0
    have f4 := hb.h4.fr 0
    have f5 := hb.h5.fr 0
    go_upto_region 11 with fail
    clear c2 c3 c4 c5 f2 f3 f4 f5
    have hx5 : Ext (some4 b2 b3 b4 b5) w4 (w4.setCell ⟨b4, 0, none⟩ (.slice a4 (frScan s.log).1.length cc4)) := ((Ext.refl (some4 b2 b3 b4 b5) w4).comp (at4 w4 b2 b3 b4 b5 (.slice a4 (frScan s.log).1.length cc4)))
    replace hb := (hb.set4 q (.slice a4 (frScan s.log).1.length cc4))
    replace hD := dk4 qg hD h4N hx5
    replace hN' : ∀ k, NB N b2 b3 b4 b5 k → k < ((w4.setCell ⟨b4, 0, none⟩ (.slice a4 (frScan s.log).1.length cc4))).heap.size := fun k hk => Nat.lt_of_lt_of_le (hN' k hk) hx5.size
    replace hsa := rd4' q hsa hsf hx5
    replace hla := ln4 q hla hx5
    replace hx := on4 q hx hx5
    clear hx5
    generalize (w4.setCell ⟨b4, 0, none⟩ (.slice a4 (frScan s.log).1.length cc4)) = w5 at *
    by_cases hcut : (frScan s.log).2 < s.log.length
    · have d1 : decide (((frScan s.log).2 : Int) < s.log.length) = true := decT (by omega)
      go_wp2_with fail
      refine (cut_any w5 g s _ hD hN' hok ((frScan s.log).2 : Int) ⟨by omega, by omega⟩).mono ?_
      rintro e w6 ⟨rfl, hD6, hx6⟩
      obtain ⟨s2, kc, hr⟩ : ∃ s2 kc, s.cut ((frScan s.log).2 : Int) = (s2, kc) := ⟨_, _, rfl⟩
      rw [hr] at hD6 ⊢
      simp only at hD6 ⊢
      have HoC := Lib.hid (show s.opens = if kc ≠ 0 then (s2, kc, [], []) else (s2, 0, [], (frScan s.log).1) by rw [Hp.out, if_pos hcut, hr])
      clear hr d1
      replace hb := hb.ext hx6 qg (fun k hk => by simp only [Esc.just]; omega)
      replace hN' : ∀ k, NB N b2 b3 b4 b5 k → k < w6.heap.size := fun k hk => Nat.lt_of_lt_of_le (hN' k hk) hx6.size
      replace hsa := hsa.ext hx6 (fun ad ha hh => by have := hsf ad ha; have := qg.lo; have := qg.n23; have := qg.n34; have := qg.n45; simp only [Esc.just] at hh; omega)
      replace hla := hla.ext hx6 (fun k hh => by have := qg.lo; have := qg.n23; have := qg.n34; have := qg.n45; simp only [Esc.just] at hh; omega)
      replace hx := hx.comp hx6
      clear hD hx6
      have c2 := hb.h2.cell 0 _ rfl
      have c3 := hb.h3.cell 0 _ rfl
      have c4 := hb.h4.cell 0 _ rfl
      have c5 := hb.h5.cell 0 _ rfl
      have f2 := hb.h2.fr 0
      have f3 := hb.h3.fr 0
      have f4 := hb.h4.fr 0
      have f5 := hb.h5.fr 0
      go_upto_region 14 with fail
      clear c2 c3 c4 c5 f2 f3 f4 f5
      have hx7 : Ext (some4 b2 b3 b4 b5) w6 (w6.setCell ⟨b5, 0, none⟩ (.int .i64 kc)) := ((Ext.refl (some4 b2 b3 b4 b5) w6).comp (at5 w6 b2 b3 b4 b5 (.int .i64 kc)))
      replace hb := (hb.set5 q (.int .i64 kc))
      have hD := dk4 qg hD6 h4N hx7
      replace hsa := rd4' q hsa hsf hx7
      replace hla := ln4 q hla hx7
      replace hx := on4 q hx hx7
      clear hD6 hx7 hN'
      generalize (w6.setCell ⟨b5, 0, none⟩ (.int .i64 kc)) = w7 at *
      have c2 := hb.h2.cell 0 _ rfl
      have c3 := hb.h3.cell 0 _ rfl
      have c4 := hb.h4.cell 0 _ rfl
      have c5 := hb.h5.cell 0 _ rfl
      have f2 := hb.h2.fr 0
      have f3 := hb.h3.fr 0
      have f4 := hb.h4.fr 0
      have f5 := hb.h5.fr 0
      refine wp_calm ?_
      refine wp_region_F [1, 5, 6, 7] (looks [(1, fun z => World.cell? z ⟨b4, 0, none⟩ = some (.slice a4 (frScan s.log).1.length cc4)), (5, fun z => World.cell? z ⟨b3, 0, none⟩ = some (.slice none ([] : List UInt8).length 0)), (6, fun z => World.cell? z ⟨b4, 0, none⟩ = some (.slice a4 (frScan s.log).1.length cc4)), (7, fun z => World.cell? z ⟨b5, 0, none⟩ = some (.int .i64 kc))]) (by kernel_rfl) ?_
      have hT0 : ∀ k, looks [(1, fun z => World.cell? z ⟨b4, 0, none⟩ = some (.slice a4 (frScan s.log).1.length cc4)), (5, fun z => World.cell? z ⟨b3, 0, none⟩ = some (.slice none ([] : List UInt8).length 0)), (6, fun z => World.cell? z ⟨b4, 0, none⟩ = some (.slice a4 (frScan s.log).1.length cc4)), (7, fun z => World.cell? z ⟨b5, 0, none⟩ = some (.int .i64 kc))] k (w7.drew) := looks_all ⟨c4, c3, c4, c5, trivial⟩
      refine wpF_take 0 (v := ?_) rfl (by kernel_rfl) (by kernel_rfl) (by kernel_rfl) (fun c _ _ h => absurd rfl (h.1 c)) hT0 (by rfl) ?_ ?_
      rotate_left
      · (intro wq; go_simp; try with_reducible rfl)
      simp only [Act.put, List.setIfInBounds_toArray, List.set_cons_zero, List.set_cons_succ]
      refine wpF_look 1 (v := .slice a4 (frScan s.log).1.length cc4) rfl rfl (by kernel_rfl) (by kernel_rfl) (by kernel_rfl) (by kernel_rfl) (fun c _ _ h => absurd rfl (h.1 c)) hT0 (by rfl) (fun w hS => by have hS : World.cell? w ⟨b4, 0, none⟩ = some (.slice a4 (frScan s.log).1.length cc4) := hS; go_simp) ?_
      simp only [Act.put, List.setIfInBounds_toArray, List.set_cons_zero, List.set_cons_succ]
      refine wpF_take 2 (v := ?_) rfl (by kernel_rfl) (by kernel_rfl) (by kernel_rfl) (fun c _ _ h => absurd rfl (h.1 c)) hT0 (by rfl) ?_ ?_
      rotate_left
      · (intro wq; go_simp; try with_reducible rfl)
      simp only [Act.put, List.setIfInBounds_toArray, List.set_cons_zero, List.set_cons_succ]
      refine wpF_take 3 (v := ?_) rfl (by kernel_rfl) (by kernel_rfl) (by kernel_rfl) (fun c _ _ h => absurd rfl (h.1 c)) hT0 (by rfl) ?_ ?_
      rotate_left
      · (intro wq; go_simp; try with_reducible rfl)
      simp only [Act.put, List.setIfInBounds_toArray, List.set_cons_zero, List.set_cons_succ]
      refine wpF_look 5 (v := .slice none ([] : List UInt8).length 0) rfl rfl (by kernel_rfl) (by kernel_rfl) (by kernel_rfl) (by kernel_rfl) (fun c _ _ h => absurd rfl (h.1 c)) hT0 (by rfl) (fun w hS => by have hS : World.cell? w ⟨b3, 0, none⟩ = some (.slice none ([] : List UInt8).length 0) := hS; go_simp) ?_
      simp only [Act.put, List.setIfInBounds_toArray, List.set_cons_zero, List.set_cons_succ]
      refine wpF_look 6 (v := .slice a4 (frScan s.log).1.length cc4) rfl rfl (by kernel_rfl) (by kernel_rfl) (by kernel_rfl) (by kernel_rfl) (fun c _ _ h => absurd rfl (h.1 c)) hT0 (by rfl) (fun w hS => by have hS : World.cell? w ⟨b4, 0, none⟩ = some (.slice a4 (frScan s.log).1.length cc4) := hS; go_simp) ?_
      simp only [Act.put, List.setIfInBounds_toArray, List.set_cons_zero, List.set_cons_succ]
      refine wpF_look 7 (v := .int .i64 kc) rfl rfl (by kernel_rfl) (by kernel_rfl) (by kernel_rfl) (by kernel_rfl) (fun c _ _ h => absurd rfl (h.1 c)) hT0 (by rfl) (fun w hS => by have hS : World.cell? w ⟨b5, 0, none⟩ = some (.int .i64 kc) := hS; go_simp) ?_
      simp only [Act.put, List.setIfInBounds_toArray, List.set_cons_zero, List.set_cons_succ]
      refine wpF_exec 4 rfl (by kernel_rfl) (by rfl) ?_
      intro K hK
      go_simp
      have zj : Blk ((w7.alloc (.cells #[.pointer (some ⟨g, 0, none⟩), .int .i64 (frScan s.log).1.length] 103)).drew) w7.heap.size (jcells g (frScan s.log).1.length) := (Blk.lit w7 _ _).drew
      have hxj : Ext no w7 ((w7.alloc (.cells #[.pointer (some ⟨g, 0, none⟩), .int .i64 (frScan s.log).1.length] 103)).drew) := (Ext.alloc no w7 (.cells #[.pointer (some ⟨g, 0, none⟩), .int .i64 (frScan s.log).1.length] 103)).comp (Ext.drew no _)
      have hbj := hb.ext hxj q (fun _ _ h => h)
      have hDj := (hD.fewer (N' := fun i => NB N b2 b3 b4 b5 i ∨ i = w7.heap.size) (fun k hk hh => by rcases hh with hh | hh; exact hh; omega)).no hxj
      have hsaj := hsa.ext hxj (fun _ _ h => h)
      have hlaj := hla.ext hxj (fun _ h => h.elim)
      have hxJ := hx.comp (hxj.mono (fun _ _ h => h.elim))
      have hjl : w7.heap.size < ((w7.alloc (.cells #[.pointer (some ⟨g, 0, none⟩), .int .i64 (frScan s.log).1.length] 103)).drew).heap.size := zj.lt (by simp [jcells])
      have hjb : b5 < w7.heap.size := hb.h5.lt (by simp)
      have hjw : w.heap.size ≤ w7.heap.size := hx.size
      have hT1 : ∀ k, looks [(1, fun z => World.cell? z ⟨b4, 0, none⟩ = some (.slice a4 (frScan s.log).1.length cc4)), (5, fun z => World.cell? z ⟨b3, 0, none⟩ = some (.slice none ([] : List UInt8).length 0)), (6, fun z => World.cell? z ⟨b4, 0, none⟩ = some (.slice a4 (frScan s.log).1.length cc4)), (7, fun z => World.cell? z ⟨b5, 0, none⟩ = some (.int .i64 kc))] k ((w7.alloc (.cells #[.pointer (some ⟨g, 0, none⟩), .int .i64 (frScan s.log).1.length] 103)).drew) := looks_all ⟨hbj.h4.cell 0 _ rfl, hbj.h3.cell 0 _ rfl, hbj.h4.cell 0 _ rfl, hbj.h5.cell 0 _ rfl, trivial⟩
      refine hK _ _ (looks [(1, fun z => World.cell? z ⟨b4, 0, none⟩ = some (.slice a4 (frScan s.log).1.length cc4)), (5, fun z => World.cell? z ⟨b3, 0, none⟩ = some (.slice none ([] : List UInt8).length 0)), (6, fun z => World.cell? z ⟨b4, 0, none⟩ = some (.slice a4 (frScan s.log).1.length cc4)), (7, fun z => World.cell? z ⟨b5, 0, none⟩ = some (.int .i64 kc))]) ⟨.inr (.inl (by kernel_rfl)), .inr (.inr (fun x h => h)), .inr (.inr (fun x h => h)), .inr (.inr (fun x h => h)), trivial⟩ hT1 ?_
      clear hK K
      try simp only [Act.put, List.setIfInBounds_toArray, List.set_cons_zero, List.set_cons_succ]
      clear hb hD hx hsa hla hxj
      obtain ⟨jj, hjj⟩ : ∃ j, j = w7.heap.size := ⟨_, rfl⟩
      rw [← hjj] at zj hDj hjl hjb hjw ⊢
      clear hjj
      generalize (w7.alloc (.cells #[.pointer (some ⟨g, 0, none⟩), .int .i64 (frScan s.log).1.length] 103)).drew = vj at *
      have c2 := hbj.h2.cell 0 _ rfl
      have c3 := hbj.h3.cell 0 _ rfl
      have c4 := hbj.h4.cell 0 _ rfl
      have c5 := hbj.h5.cell 0 _ rfl
      have f2 := hbj.h2.fr 0
      have f3 := hbj.h3.fr 0
      have f4 := hbj.h4.fr 0
      have f5 := hbj.h5.fr 0
      refine wpF_exec 8 rfl (by kernel_rfl) (by rfl) ?_
      intro K hK
      go_simp
      have hT2 : ∀ k, looks [(1, fun z => World.cell? z ⟨b4, 0, none⟩ = some (.slice a4 (frScan s.log).1.length cc4)), (5, fun z => World.cell? z ⟨b3, 0, none⟩ = some (.slice none ([] : List UInt8).length 0)), (6, fun z => World.cell? z ⟨b4, 0, none⟩ = some (.slice a4 (frScan s.log).1.length cc4)), (7, fun z => World.cell? z ⟨b5, 0, none⟩ = some (.int .i64 kc))] k ((vj.setCell ⟨b2, 0, none⟩ (.pointer (some ⟨jj, 0, none⟩)))) := looks_all ⟨((hbj.set2 q (.pointer (some ⟨jj, 0, none⟩)))).h4.cell 0 _ rfl, ((hbj.set2 q (.pointer (some ⟨jj, 0, none⟩)))).h3.cell 0 _ rfl, ((hbj.set2 q (.pointer (some ⟨jj, 0, none⟩)))).h4.cell 0 _ rfl, ((hbj.set2 q (.pointer (some ⟨jj, 0, none⟩)))).h5.cell 0 _ rfl, trivial⟩
      refine hK _ _ (looks [(1, fun z => World.cell? z ⟨b4, 0, none⟩ = some (.slice a4 (frScan s.log).1.length cc4)), (5, fun z => World.cell? z ⟨b3, 0, none⟩ = some (.slice none ([] : List UInt8).length 0)), (6, fun z => World.cell? z ⟨b4, 0, none⟩ = some (.slice a4 (frScan s.log).1.length cc4)), (7, fun z => World.cell? z ⟨b5, 0, none⟩ = some (.int .i64 kc))]) ⟨.inr (.inl (by kernel_rfl)), .inr (.inr (fun x h => h)), .inr (.inr (fun x h => h)), .inr (.inr (fun x h => h)), trivial⟩ hT2 ?_
      clear hK K
      try simp only [Act.put, List.setIfInBounds_toArray, List.set_cons_zero, List.set_cons_succ]
      refine wpF_exec 9 rfl (by kernel_rfl) (by rfl) ?_
      intro K hK
      go_simp
      have hT3 : ∀ k, looks [(1, fun z => World.cell? z ⟨b4, 0, none⟩ = some (.slice a4 (frScan s.log).1.length cc4)), (5, fun z => World.cell? z ⟨b3, 0, none⟩ = some (.slice none ([] : List UInt8).length 0)), (6, fun z => World.cell? z ⟨b4, 0, none⟩ = some (.slice a4 (frScan s.log).1.length cc4)), (7, fun z => World.cell? z ⟨b5, 0, none⟩ = some (.int .i64 kc))] k (((vj.setCell ⟨b2, 0, none⟩ (.pointer (some ⟨jj, 0, none⟩))).setCell ⟨b3, 0, none⟩ (.slice none ([] : List UInt8).length 0))) := looks_all ⟨(((hbj.set2 q (.pointer (some ⟨jj, 0, none⟩))).set3 q (.slice none ([] : List UInt8).length 0))).h4.cell 0 _ rfl, (((hbj.set2 q (.pointer (some ⟨jj, 0, none⟩))).set3 q (.slice none ([] : List UInt8).length 0))).h3.cell 0 _ rfl, (((hbj.set2 q (.pointer (some ⟨jj, 0, none⟩))).set3 q (.slice none ([] : List UInt8).length 0))).h4.cell 0 _ rfl, (((hbj.set2 q (.pointer (some ⟨jj, 0, none⟩))).set3 q (.slice none ([] : List UInt8).length 0))).h5.cell 0 _ rfl, trivial⟩
      refine hK _ _ (looks [(1, fun z => World.cell? z ⟨b4, 0, none⟩ = some (.slice a4 (frScan s.log).1.length cc4)), (5, fun z => World.cell? z ⟨b3, 0, none⟩ = some (.slice none ([] : List UInt8).length 0)), (6, fun z => World.cell? z ⟨b4, 0, none⟩ = some (.slice a4 (frScan s.log).1.length cc4)), (7, fun z => World.cell? z ⟨b5, 0, none⟩ = some (.int .i64 kc))]) ⟨.inr (.inl (by kernel_rfl)), .inr (.inl (by kernel_rfl)), .inr (.inr (fun x h => h)), .inr (.inr (fun x h => h)), trivial⟩ hT3 ?_
      clear hK K
      try simp only [Act.put, List.setIfInBounds_toArray, List.set_cons_zero, List.set_cons_succ]
      refine wpF_exec 10 rfl (by kernel_rfl) (by rfl) ?_
      intro K hK
      go_simp
      have hT4 : ∀ k, looks [(1, fun z => World.cell? z ⟨b4, 0, none⟩ = some (.slice a4 (frScan s.log).1.length cc4)), (5, fun z => World.cell? z ⟨b3, 0, none⟩ = some (.slice none ([] : List UInt8).length 0)), (6, fun z => World.cell? z ⟨b4, 0, none⟩ = some (.slice a4 (frScan s.log).1.length cc4)), (7, fun z => World.cell? z ⟨b5, 0, none⟩ = some (.int .i64 kc))] k ((((vj.setCell ⟨b2, 0, none⟩ (.pointer (some ⟨jj, 0, none⟩))).setCell ⟨b3, 0, none⟩ (.slice none ([] : List UInt8).length 0)).setCell ⟨b4, 0, none⟩ (.slice a4 (frScan s.log).1.length cc4))) := looks_all ⟨((((hbj.set2 q (.pointer (some ⟨jj, 0, none⟩))).set3 q (.slice none ([] : List UInt8).length 0)).set4 q (.slice a4 (frScan s.log).1.length cc4))).h4.cell 0 _ rfl, ((((hbj.set2 q (.pointer (some ⟨jj, 0, none⟩))).set3 q (.slice none ([] : List UInt8).length 0)).set4 q (.slice a4 (frScan s.log).1.length cc4))).h3.cell 0 _ rfl, ((((hbj.set2 q (.pointer (some ⟨jj, 0, none⟩))).set3 q (.slice none ([] : List UInt8).length 0)).set4 q (.slice a4 (frScan s.log).1.length cc4))).h4.cell 0 _ rfl, ((((hbj.set2 q (.pointer (some ⟨jj, 0, none⟩))).set3 q (.slice none ([] : List UInt8).length 0)).set4 q (.slice a4 (frScan s.log).1.length cc4))).h5.cell 0 _ rfl, trivial⟩
      refine hK _ _ (looks [(1, fun z => World.cell? z ⟨b4, 0, none⟩ = some (.slice a4 (frScan s.log).1.length cc4)), (5, fun z => World.cell? z ⟨b3, 0, none⟩ = some (.slice none ([] : List UInt8).length 0)), (6, fun z => World.cell? z ⟨b4, 0, none⟩ = some (.slice a4 (frScan s.log).1.length cc4)), (7, fun z => World.cell? z ⟨b5, 0, none⟩ = some (.int .i64 kc))]) ⟨.inr (.inl (by kernel_rfl)), .inr (.inl (by kernel_rfl)), .inr (.inl (by kernel_rfl)), .inr (.inr (fun x h => h)), trivial⟩ hT4 ?_
      clear hK K
      try simp only [Act.put, List.setIfInBounds_toArray, List.set_cons_zero, List.set_cons_succ]
      refine wpF_exec 11 rfl (by kernel_rfl) (by rfl) ?_
      intro K hK
      go_simp
      have hT5 : ∀ k, looks [(1, fun z => World.cell? z ⟨b4, 0, none⟩ = some (.slice a4 (frScan s.log).1.length cc4)), (5, fun z => World.cell? z ⟨b3, 0, none⟩ = some (.slice none ([] : List UInt8).length 0)), (6, fun z => World.cell? z ⟨b4, 0, none⟩ = some (.slice a4 (frScan s.log).1.length cc4)), (7, fun z => World.cell? z ⟨b5, 0, none⟩ = some (.int .i64 kc))] k (((((vj.setCell ⟨b2, 0, none⟩ (.pointer (some ⟨jj, 0, none⟩))).setCell ⟨b3, 0, none⟩ (.slice none ([] : List UInt8).length 0)).setCell ⟨b4, 0, none⟩ (.slice a4 (frScan s.log).1.length cc4)).setCell ⟨b5, 0, none⟩ (.int .i64 kc))) := looks_all ⟨(((((hbj.set2 q (.pointer (some ⟨jj, 0, none⟩))).set3 q (.slice none ([] : List UInt8).length 0)).set4 q (.slice a4 (frScan s.log).1.length cc4)).set5 q (.int .i64 kc))).h4.cell 0 _ rfl, (((((hbj.set2 q (.pointer (some ⟨jj, 0, none⟩))).set3 q (.slice none ([] : List UInt8).length 0)).set4 q (.slice a4 (frScan s.log).1.length cc4)).set5 q (.int .i64 kc))).h3.cell 0 _ rfl, (((((hbj.set2 q (.pointer (some ⟨jj, 0, none⟩))).set3 q (.slice none ([] : List UInt8).length 0)).set4 q (.slice a4 (frScan s.log).1.length cc4)).set5 q (.int .i64 kc))).h4.cell 0 _ rfl, (((((hbj.set2 q (.pointer (some ⟨jj, 0, none⟩))).set3 q (.slice none ([] : List UInt8).length 0)).set4 q (.slice a4 (frScan s.log).1.length cc4)).set5 q (.int .i64 kc))).h5.cell 0 _ rfl, trivial⟩
      refine hK _ _ (looks [(1, fun z => World.cell? z ⟨b4, 0, none⟩ = some (.slice a4 (frScan s.log).1.length cc4)), (5, fun z => World.cell? z ⟨b3, 0, none⟩ = some (.slice none ([] : List UInt8).length 0)), (6, fun z => World.cell? z ⟨b4, 0, none⟩ = some (.slice a4 (frScan s.log).1.length cc4)), (7, fun z => World.cell? z ⟨b5, 0, none⟩ = some (.int .i64 kc))]) ⟨.inr (.inl (by kernel_rfl)), .inr (.inl (by kernel_rfl)), .inr (.inl (by kernel_rfl)), .inr (.inl (by kernel_rfl)), trivial⟩ hT5 ?_
      clear hK K
      try simp only [Act.put, List.setIfInBounds_toArray, List.set_cons_zero, List.set_cons_succ]
      refine wpF_done (by kernel_rfl) ?_ _
      refine ⟨(fun _ h => by cases h), ?_⟩
      clear c2 c3 c4 c5 f2 f3 f4 f5
      have hx4 : Ext (some4 b2 b3 b4 b5) vj ((((vj.setCell ⟨b2, 0, none⟩ (.pointer (some ⟨jj, 0, none⟩))).setCell ⟨b3, 0, none⟩ (.slice none ([] : List UInt8).length 0)).setCell ⟨b4, 0, none⟩ (.slice a4 (frScan s.log).1.length cc4)).setCell ⟨b5, 0, none⟩ (.int .i64 kc)) := (((((Ext.refl (some4 b2 b3 b4 b5) vj).comp (at2 vj b2 b3 b4 b5 (.pointer (some ⟨jj, 0, none⟩)))).comp (at3 (vj.setCell ⟨b2, 0, none⟩ (.pointer (some ⟨jj, 0, none⟩))) b2 b3 b4 b5 (.slice none ([] : List UInt8).length 0))).comp (at4 ((vj.setCell ⟨b2, 0, none⟩ (.pointer (some ⟨jj, 0, none⟩))).setCell ⟨b3, 0, none⟩ (.slice none ([] : List UInt8).length 0)) b2 b3 b4 b5 (.slice a4 (frScan s.log).1.length cc4))).comp (at5 (((vj.setCell ⟨b2, 0, none⟩ (.pointer (some ⟨jj, 0, none⟩))).setCell ⟨b3, 0, none⟩ (.slice none ([] : List UInt8).length 0)).setCell ⟨b4, 0, none⟩ (.slice a4 (frScan s.log).1.length cc4)) b2 b3 b4 b5 (.int .i64 kc)))
      have hb4 := ((((hbj.set2 q (.pointer (some ⟨jj, 0, none⟩))).set3 q (.slice none ([] : List UInt8).length 0)).set4 q (.slice a4 (frScan s.log).1.length cc4)).set5 q (.int .i64 kc))
      have hx5 := on4 q hxJ hx4
      have hD4 := dk4 qg hDj (fun k hk => .inl (h4N k hk)) hx4
      have hs4 := rd4' q hsaj hsf hx4
      have hl4 := ln4 q hlaj hx4
      have hj4 := zj.ext (by simp [jcells]) hx4 (fun hh => by obtain ⟨q1, q2, q3, q4⟩ := q; rcases hh with h | h | h | h <;> omega)
      have hjs := hx4.size
      go_wp2_with fail
      generalize ((((vj.setCell ⟨b2, 0, none⟩ (.pointer (some ⟨jj, 0, none⟩))).setCell ⟨b3, 0, none⟩ (.slice none ([] : List UInt8).length 0)).setCell ⟨b4, 0, none⟩ (.slice a4 (frScan s.log).1.length cc4)).setCell ⟨b5, 0, none⟩ (.int .i64 kc)) = ve at *
      by_cases hk0 : kc = 0
      · subst hk0
        have Ho := Lib.hid (HoC.out.trans (if_neg (by simp)))
        refine leaves_cons (f := 42) (args := #[.pointer (some ⟨b5, 0, none⟩), .pointer (some ⟨b2, 0, none⟩), .pointer (some ⟨b3, 0, none⟩), .pointer (some ⟨b4, 0, none⟩)]) (by simp) (by simp [go_sem]) ?_
        refine (open1_ok ve b2 b3 b4 b5 hb4.h5).mono ?_
        rintro e u' w' ⟨rfl, rfl, rfl⟩
        refine ⟨_, results_cell4 rfl _ _ rfl rfl rfl rfl (ld_j _ _ _ hb4.h2) (ld_b _ _ _ hb4.h3) (ld_l _ _ _ hb4.h4) (ld_e _ _ _ hb4.h5), ?_⟩
        rw [Ho.out]
        exact ⟨_, none, 0, a4, cc4, rfl, ⟨hs4, fun ad ha => by have := hsf ad ha; obtain ⟨q1, q2, q3, q4⟩ := q; omega⟩, hl4.mono (by obtain ⟨q1, q2, q3, q4⟩ := q; omega), hx5, .inr ⟨rfl, jj, rfl, hjw, by omega, hj4, hD4.fewer (fun k _ hk => by rcases hk with hk | hk; exact .inl (.inl hk); exact .inr hk)⟩⟩
      · have Ho := Lib.hid (HoC.out.trans (if_pos hk0))
        refine leaves_cons (f := 42) (args := #[.pointer (some ⟨b5, 0, none⟩), .pointer (some ⟨b2, 0, none⟩), .pointer (some ⟨b3, 0, none⟩), .pointer (some ⟨b4, 0, none⟩)]) (by simp) (by simp [go_sem]) ?_
        refine (open1_err ve b2 b3 b4 b5 kc hk0 _ _ _ hb4.h5 hb4.h2 hb4.h3 hb4.h4 (by have := q.n23; omega) (by have := q.n23; have := q.n34; omega) (by have := q.n34; omega)).mono ?_
        rintro e u' w' ⟨rfl, rfl, rfl⟩
        have hx6 : Ext (some4 b2 b3 b4 b5) ve (((ve.setCell ⟨b2, 0, none⟩ (.pointer none)).setCell ⟨b3, 0, none⟩ (.slice none 0 0)).setCell ⟨b4, 0, none⟩ (.slice none 0 0)) := ((((Ext.refl (some4 b2 b3 b4 b5) ve).comp (at2 ve b2 b3 b4 b5 (.pointer none))).comp (at3 (ve.setCell ⟨b2, 0, none⟩ (.pointer none)) b2 b3 b4 b5 (.slice none 0 0))).comp (at4 ((ve.setCell ⟨b2, 0, none⟩ (.pointer none)).setCell ⟨b3, 0, none⟩ (.slice none 0 0)) b2 b3 b4 b5 (.slice none 0 0)))
        have hb6 := (((hb4.set2 q (.pointer none)).set3 q (.slice none 0 0)).set4 q (.slice none 0 0))
        refine ⟨_, results_cell4 rfl _ _ rfl rfl rfl rfl (ld_j _ _ _ hb6.h2) (ld_b _ _ _ hb6.h3) (ld_l _ _ _ hb6.h4) (ld_e _ _ _ hb6.h5), ?_⟩
        rw [Ho.out]
        exact ⟨_, none, 0, none, 0, rfl, ⟨Rd.nil _ _, fun _ h => by cases h⟩, nilLists _ _, on4 q hx5 hx6, .inl ⟨hk0, rfl, (dk4 qg hD4 (fun k hk => .inl (h4N k hk)) hx6).fewer (fun k _ hk => .inl (.inl hk))⟩⟩
    · have d1 : decide (((frScan s.log).2 : Int) < s.log.length) = false := decF (by omega)
      have Ho := Lib.hid (show s.opens = (s, 0, [], (frScan s.log).1) by rw [Hp.out, if_neg hcut])
      have c2 := hb.h2.cell 0 _ rfl
      have c3 := hb.h3.cell 0 _ rfl
      have c4 := hb.h4.cell 0 _ rfl
      have c5 := hb.h5.cell 0 _ rfl
      have f2 := hb.h2.fr 0
      have f3 := hb.h3.fr 0
      have f4 := hb.h4.fr 0
      have f5 := hb.h5.fr 0
      go_upto_region 14 with fail
      refine wp_calm ?_
      refine wp_region_F [1, 5, 6, 7] (looks [(1, fun z => World.cell? z ⟨b4, 0, none⟩ = some (.slice a4 (frScan s.log).1.length cc4)), (5, fun z => World.cell? z ⟨b3, 0, none⟩ = some (.slice none ([] : List UInt8).length 0)), (6, fun z => World.cell? z ⟨b4, 0, none⟩ = some (.slice a4 (frScan s.log).1.length cc4)), (7, fun z => World.cell? z ⟨b5, 0, none⟩ = some (.int .i64 0))]) (by kernel_rfl) ?_
      have hT0 : ∀ k, looks [(1, fun z => World.cell? z ⟨b4, 0, none⟩ = some (.slice a4 (frScan s.log).1.length cc4)), (5, fun z => World.cell? z ⟨b3, 0, none⟩ = some (.slice none ([] : List UInt8).length 0)), (6, fun z => World.cell? z ⟨b4, 0, none⟩ = some (.slice a4 (frScan s.log).1.length cc4)), (7, fun z => World.cell? z ⟨b5, 0, none⟩ = some (.int .i64 0))] k (w5.drew) := looks_all ⟨c4, c3, c4, c5, trivial⟩
      refine wpF_take 0 (v := ?_) rfl (by kernel_rfl) (by kernel_rfl) (by kernel_rfl) (fun c _ _ h => absurd rfl (h.1 c)) hT0 (by rfl) ?_ ?_
      rotate_left
      · (intro wq; go_simp; try with_reducible rfl)
      simp only [Act.put, List.setIfInBounds_toArray, List.set_cons_zero, List.set_cons_succ]
      refine wpF_look 1 (v := .slice a4 (frScan s.log).1.length cc4) rfl rfl (by kernel_rfl) (by kernel_rfl) (by kernel_rfl) (by kernel_rfl) (fun c _ _ h => absurd rfl (h.1 c)) hT0 (by rfl) (fun w hS => by have hS : World.cell? w ⟨b4, 0, none⟩ = some (.slice a4 (frScan s.log).1.length cc4) := hS; go_simp) ?_
      simp only [Act.put, List.setIfInBounds_toArray, List.set_cons_zero, List.set_cons_succ]
      refine wpF_take 2 (v := ?_) rfl (by kernel_rfl) (by kernel_rfl) (by kernel_rfl) (fun c _ _ h => absurd rfl (h.1 c)) hT0 (by rfl) ?_ ?_
      rotate_left
      · (intro wq; go_simp; try with_reducible rfl)
      simp only [Act.put, List.setIfInBounds_toArray, List.set_cons_zero, List.set_cons_succ]
      refine wpF_take 3 (v := ?_) rfl (by kernel_rfl) (by kernel_rfl) (by kernel_rfl) (fun c _ _ h => absurd rfl (h.1 c)) hT0 (by rfl) ?_ ?_
      rotate_left
      · (intro wq; go_simp; try with_reducible rfl)
      simp only [Act.put, List.setIfInBounds_toArray, List.set_cons_zero, List.set_cons_succ]
      refine wpF_look 5 (v := .slice none ([] : List UInt8).length 0) rfl rfl (by kernel_rfl) (by kernel_rfl) (by kernel_rfl) (by kernel_rfl) (fun c _ _ h => absurd rfl (h.1 c)) hT0 (by rfl) (fun w hS => by have hS : World.cell? w ⟨b3, 0, none⟩ = some (.slice none ([] : List UInt8).length 0) := hS; go_simp) ?_
      simp only [Act.put, List.setIfInBounds_toArray, List.set_cons_zero, List.set_cons_succ]
      refine wpF_look 6 (v := .slice a4 (frScan s.log).1.length cc4) rfl rfl (by kernel_rfl) (by kernel_rfl) (by kernel_rfl) (by kernel_rfl) (fun c _ _ h => absurd rfl (h.1 c)) hT0 (by rfl) (fun w hS => by have hS : World.cell? w ⟨b4, 0, none⟩ = some (.slice a4 (frScan s.log).1.length cc4) := hS; go_simp) ?_
      simp only [Act.put, List.setIfInBounds_toArray, List.set_cons_zero, List.set_cons_succ]
      refine wpF_look 7 (v := .int .i64 0) rfl rfl (by kernel_rfl) (by kernel_rfl) (by kernel_rfl) (by kernel_rfl) (fun c _ _ h => absurd rfl (h.1 c)) hT0 (by rfl) (fun w hS => by have hS : World.cell? w ⟨b5, 0, none⟩ = some (.int .i64 0) := hS; go_simp) ?_
      simp only [Act.put, List.setIfInBounds_toArray, List.set_cons_zero, List.set_cons_succ]
      refine wpF_exec 4 rfl (by kernel_rfl) (by rfl) ?_
      intro K hK
      go_simp
      have zj : Blk ((w5.alloc (.cells #[.pointer (some ⟨g, 0, none⟩), .int .i64 (frScan s.log).1.length] 103)).drew) w5.heap.size (jcells g (frScan s.log).1.length) := (Blk.lit w5 _ _).drew
      have hxj : Ext no w5 ((w5.alloc (.cells #[.pointer (some ⟨g, 0, none⟩), .int .i64 (frScan s.log).1.length] 103)).drew) := (Ext.alloc no w5 (.cells #[.pointer (some ⟨g, 0, none⟩), .int .i64 (frScan s.log).1.length] 103)).comp (Ext.drew no _)
      have hbj := hb.ext hxj q (fun _ _ h => h)
      have hDj := (hD.fewer (N' := fun i => NB N b2 b3 b4 b5 i ∨ i = w5.heap.size) (fun k hk hh => by rcases hh with hh | hh; exact hh; omega)).no hxj
      have hsaj := hsa.ext hxj (fun _ _ h => h)
      have hlaj := hla.ext hxj (fun _ h => h.elim)
      have hxJ := hx.comp (hxj.mono (fun _ _ h => h.elim))
      have hjl : w5.heap.size < ((w5.alloc (.cells #[.pointer (some ⟨g, 0, none⟩), .int .i64 (frScan s.log).1.length] 103)).drew).heap.size := zj.lt (by simp [jcells])
      have hjb : b5 < w5.heap.size := hb.h5.lt (by simp)
      have hjw : w.heap.size ≤ w5.heap.size := hx.size
      have hT1 : ∀ k, looks [(1, fun z => World.cell? z ⟨b4, 0, none⟩ = some (.slice a4 (frScan s.log).1.length cc4)), (5, fun z => World.cell? z ⟨b3, 0, none⟩ = some (.slice none ([] : List UInt8).length 0)), (6, fun z => World.cell? z ⟨b4, 0, none⟩ = some (.slice a4 (frScan s.log).1.length cc4)), (7, fun z => World.cell? z ⟨b5, 0, none⟩ = some (.int .i64 0))] k ((w5.alloc (.cells #[.pointer (some ⟨g, 0, none⟩), .int .i64 (frScan s.log).1.length] 103)).drew) := looks_all ⟨hbj.h4.cell 0 _ rfl, hbj.h3.cell 0 _ rfl, hbj.h4.cell 0 _ rfl, hbj.h5.cell 0 _ rfl, trivial⟩
      refine hK _ _ (looks [(1, fun z => World.cell? z ⟨b4, 0, none⟩ = some (.slice a4 (frScan s.log).1.length cc4)), (5, fun z => World.cell? z ⟨b3, 0, none⟩ = some (.slice none ([] : List UInt8).length 0)), (6, fun z => World.cell? z ⟨b4, 0, none⟩ = some (.slice a4 (frScan s.log).1.length cc4)), (7, fun z => World.cell? z ⟨b5, 0, none⟩ = some (.int .i64 0))]) ⟨.inr (.inl (by kernel_rfl)), .inr (.inr (fun x h => h)), .inr (.inr (fun x h => h)), .inr (.inr (fun x h => h)), trivial⟩ hT1 ?_
      clear hK K
      try simp only [Act.put, List.setIfInBounds_toArray, List.set_cons_zero, List.set_cons_succ]
      clear hb hD hx hsa hla hxj
      obtain ⟨jj, hjj⟩ : ∃ j, j = w5.heap.size := ⟨_, rfl⟩
      rw [← hjj] at zj hDj hjl hjb hjw ⊢
      clear hjj
      generalize (w5.alloc (.cells #[.pointer (some ⟨g, 0, none⟩), .int .i64 (frScan s.log).1.length] 103)).drew = vj at *
      have c2 := hbj.h2.cell 0 _ rfl
      have c3 := hbj.h3.cell 0 _ rfl
      have c4 := hbj.h4.cell 0 _ rfl
      have c5 := hbj.h5.cell 0 _ rfl
      have f2 := hbj.h2.fr 0
      have f3 := hbj.h3.fr 0
      have f4 := hbj.h4.fr 0
      have f5 := hbj.h5.fr 0
      refine wpF_exec 8 rfl (by kernel_rfl) (by rfl) ?_
      intro K hK
      go_simp
      have hT2 : ∀ k, looks [(1, fun z => World.cell? z ⟨b4, 0, none⟩ = some (.slice a4 (frScan s.log).1.length cc4)), (5, fun z => World.cell? z ⟨b3, 0, none⟩ = some (.slice none ([] : List UInt8).length 0)), (6, fun z => World.cell? z ⟨b4, 0, none⟩ = some (.slice a4 (frScan s.log).1.length cc4)), (7, fun z => World.cell? z ⟨b5, 0, none⟩ = some (.int .i64 0))] k ((vj.setCell ⟨b2, 0, none⟩ (.pointer (some ⟨jj, 0, none⟩)))) := looks_all ⟨((hbj.set2 q (.pointer (some ⟨jj, 0, none⟩)))).h4.cell 0 _ rfl, ((hbj.set2 q (.pointer (some ⟨jj, 0, none⟩)))).h3.cell 0 _ rfl, ((hbj.set2 q (.pointer (some ⟨jj, 0, none⟩)))).h4.cell 0 _ rfl, ((hbj.set2 q (.pointer (some ⟨jj, 0, none⟩)))).h5.cell 0 _ rfl, trivial⟩
      refine hK _ _ (looks [(1, fun z => World.cell? z ⟨b4, 0, none⟩ = some (.slice a4 (frScan s.log).1.length cc4)), (5, fun z => World.cell? z ⟨b3, 0, none⟩ = some (.slice none ([] : List UInt8).length 0)), (6, fun z => World.cell? z ⟨b4, 0, none⟩ = some (.slice a4 (frScan s.log).1.length cc4)), (7, fun z => World.cell? z ⟨b5, 0, none⟩ = some (.int .i64 0))]) ⟨.inr (.inl (by kernel_rfl)), .inr (.inr (fun x h => h)), .inr (.inr (fun x h => h)), .inr (.inr (fun x h => h)), trivial⟩ hT2 ?_
      clear hK K
      try simp only [Act.put, List.setIfInBounds_toArray, List.set_cons_zero, List.set_cons_succ]
      refine wpF_exec 9 rfl (by kernel_rfl) (by rfl) ?_
      intro K hK
      go_simp
      have hT3 : ∀ k, looks [(1, fun z => World.cell? z ⟨b4, 0, none⟩ = some (.slice a4 (frScan s.log).1.length cc4)), (5, fun z => World.cell? z ⟨b3, 0, none⟩ = some (.slice none ([] : List UInt8).length 0)), (6, fun z => World.cell? z ⟨b4, 0, none⟩ = some (.slice a4 (frScan s.log).1.length cc4)), (7, fun z => World.cell? z ⟨b5, 0, none⟩ = some (.int .i64 0))] k (((vj.setCell ⟨b2, 0, none⟩ (.pointer (some ⟨jj, 0, none⟩))).setCell ⟨b3, 0, none⟩ (.slice none ([] : List UInt8).length 0))) := looks_all ⟨(((hbj.set2 q (.pointer (some ⟨jj, 0, none⟩))).set3 q (.slice none ([] : List UInt8).length 0))).h4.cell 0 _ rfl, (((hbj.set2 q (.pointer (some ⟨jj, 0, none⟩))).set3 q (.slice none ([] : List UInt8).length 0))).h3.cell 0 _ rfl, (((hbj.set2 q (.pointer (some ⟨jj, 0, none⟩))).set3 q (.slice none ([] : List UInt8).length 0))).h4.cell 0 _ rfl, (((hbj.set2 q (.pointer (some ⟨jj, 0, none⟩))).set3 q (.slice none ([] : List UInt8).length 0))).h5.cell 0 _ rfl, trivial⟩
      refine hK _ _ (looks [(1, fun z => World.cell? z ⟨b4, 0, none⟩ = some (.slice a4 (frScan s.log).1.length cc4)), (5, fun z => World.cell? z ⟨b3, 0, none⟩ = some (.slice none ([] : List UInt8).length 0)), (6, fun z => World.cell? z ⟨b4, 0, none⟩ = some (.slice a4 (frScan s.log).1.length cc4)), (7, fun z => World.cell? z ⟨b5, 0, none⟩ = some (.int .i64 0))]) ⟨.inr (.inl (by kernel_rfl)), .inr (.inl (by kernel_rfl)), .inr (.inr (fun x h => h)), .inr (.inr (fun x h => h)), trivial⟩ hT3 ?_
      clear hK K
      try simp only [Act.put, List.setIfInBounds_toArray, List.set_cons_zero, List.set_cons_succ]
      refine wpF_exec 10 rfl (by kernel_rfl) (by rfl) ?_
      intro K hK
      go_simp
      have hT4 : ∀ k, looks [(1, fun z => World.cell? z ⟨b4, 0, none⟩ = some (.slice a4 (frScan s.log).1.length cc4)), (5, fun z => World.cell? z ⟨b3, 0, none⟩ = some (.slice none ([] : List UInt8).length 0)), (6, fun z => World.cell? z ⟨b4, 0, none⟩ = some (.slice a4 (frScan s.log).1.length cc4)), (7, fun z => World.cell? z ⟨b5, 0, none⟩ = some (.int .i64 0))] k ((((vj.setCell ⟨b2, 0, none⟩ (.pointer (some ⟨jj, 0, none⟩))).setCell ⟨b3, 0, none⟩ (.slice none ([] : List UInt8).length 0)).setCell ⟨b4, 0, none⟩ (.slice a4 (frScan s.log).1.length cc4))) := looks_all ⟨((((hbj.set2 q (.pointer (some ⟨jj, 0, none⟩))).set3 q (.slice none ([] : List UInt8).length 0)).set4 q (.slice a4 (frScan s.log).1.length cc4))).h4.cell 0 _ rfl, ((((hbj.set2 q (.pointer (some ⟨jj, 0, none⟩))).set3 q (.slice none ([] : List UInt8).length 0)).set4 q (.slice a4 (frScan s.log).1.length cc4))).h3.cell 0 _ rfl, ((((hbj.set2 q (.pointer (some ⟨jj, 0, none⟩))).set3 q (.slice none ([] : List UInt8).length 0)).set4 q (.slice a4 (frScan s.log).1.length cc4))).h4.cell 0 _ rfl, ((((hbj.set2 q (.pointer (some ⟨jj, 0, none⟩))).set3 q (.slice none ([] : List UInt8).length 0)).set4 q (.slice a4 (frScan s.log).1.length cc4))).h5.cell 0 _ rfl, trivial⟩
      refine hK _ _ (looks [(1, fun z => World.cell? z ⟨b4, 0, none⟩ = some (.slice a4 (frScan s.log).1.length cc4)), (5, fun z => World.cell? z ⟨b3, 0, none⟩ = some (.slice none ([] : List UInt8).length 0)), (6, fun z => World.cell? z ⟨b4, 0, none⟩ = some (.slice a4 (frScan s.log).1.length cc4)), (7, fun z => World.cell? z ⟨b5, 0, none⟩ = some (.int .i64 0))]) ⟨.inr (.inl (by kernel_rfl)), .inr (.inl (by kernel_rfl)), .inr (.inl (by kernel_rfl)), .inr (.inr (fun x h => h)), trivial⟩ hT4 ?_
      clear hK K
      try simp only [Act.put, List.setIfInBounds_toArray, List.set_cons_zero, List.set_cons_succ]
      refine wpF_exec 11 rfl (by kernel_rfl) (by rfl) ?_
      intro K hK
      go_simp
      have hT5 : ∀ k, looks [(1, fun z => World.cell? z ⟨b4, 0, none⟩ = some (.slice a4 (frScan s.log).1.length cc4)), (5, fun z => World.cell? z ⟨b3, 0, none⟩ = some (.slice none ([] : List UInt8).length 0)), (6, fun z => World.cell? z ⟨b4, 0, none⟩ = some (.slice a4 (frScan s.log).1.length cc4)), (7, fun z => World.cell? z ⟨b5, 0, none⟩ = some (.int .i64 0))] k (((((vj.setCell ⟨b2, 0, none⟩ (.pointer (some ⟨jj, 0, none⟩))).setCell ⟨b3, 0, none⟩ (.slice none ([] : List UInt8).length 0)).setCell ⟨b4, 0, none⟩ (.slice a4 (frScan s.log).1.length cc4)).setCell ⟨b5, 0, none⟩ (.int .i64 0))) := looks_all ⟨(((((hbj.set2 q (.pointer (some ⟨jj, 0, none⟩))).set3 q (.slice none ([] : List UInt8).length 0)).set4 q (.slice a4 (frScan s.log).1.length cc4)).set5 q (.int .i64 0))).h4.cell 0 _ rfl, (((((hbj.set2 q (.pointer (some ⟨jj, 0, none⟩))).set3 q (.slice none ([] : List UInt8).length 0)).set4 q (.slice a4 (frScan s.log).1.length cc4)).set5 q (.int .i64 0))).h3.cell 0 _ rfl, (((((hbj.set2 q (.pointer (some ⟨jj, 0, none⟩))).set3 q (.slice none ([] : List UInt8).length 0)).set4 q (.slice a4 (frScan s.log).1.length cc4)).set5 q (.int .i64 0))).h4.cell 0 _ rfl, (((((hbj.set2 q (.pointer (some ⟨jj, 0, none⟩))).set3 q (.slice none ([] : List UInt8).length 0)).set4 q (.slice a4 (frScan s.log).1.length cc4)).set5 q (.int .i64 0))).h5.cell 0 _ rfl, trivial⟩
      refine hK _ _ (looks [(1, fun z => World.cell? z ⟨b4, 0, none⟩ = some (.slice a4 (frScan s.log).1.length cc4)), (5, fun z => World.cell? z ⟨b3, 0, none⟩ = some (.slice none ([] : List UInt8).length 0)), (6, fun z => World.cell? z ⟨b4, 0, none⟩ = some (.slice a4 (frScan s.log).1.length cc4)), (7, fun z => World.cell? z ⟨b5, 0, none⟩ = some (.int .i64 0))]) ⟨.inr (.inl (by kernel_rfl)), .inr (.inl (by kernel_rfl)), .inr (.inl (by kernel_rfl)), .inr (.inl (by kernel_rfl)), trivial⟩ hT5 ?_
      clear hK K
      try simp only [Act.put, List.setIfInBounds_toArray, List.set_cons_zero, List.set_cons_succ]
      refine wpF_done (by kernel_rfl) ?_ _
      refine ⟨(fun _ h => by cases h), ?_⟩
      clear c2 c3 c4 c5 f2 f3 f4 f5
      have hx4 : Ext (some4 b2 b3 b4 b5) vj ((((vj.setCell ⟨b2, 0, none⟩ (.pointer (some ⟨jj, 0, none⟩))).setCell ⟨b3, 0, none⟩ (.slice none ([] : List UInt8).length 0)).setCell ⟨b4, 0, none⟩ (.slice a4 (frScan s.log).1.length cc4)).setCell ⟨b5, 0, none⟩ (.int .i64 0)) := (((((Ext.refl (some4 b2 b3 b4 b5) vj).comp (at2 vj b2 b3 b4 b5 (.pointer (some ⟨jj, 0, none⟩)))).comp (at3 (vj.setCell ⟨b2, 0, none⟩ (.pointer (some ⟨jj, 0, none⟩))) b2 b3 b4 b5 (.slice none ([] : List UInt8).length 0))).comp (at4 ((vj.setCell ⟨b2, 0, none⟩ (.pointer (some ⟨jj, 0, none⟩))).setCell ⟨b3, 0, none⟩ (.slice none ([] : List UInt8).length 0)) b2 b3 b4 b5 (.slice a4 (frScan s.log).1.length cc4))).comp (at5 (((vj.setCell ⟨b2, 0, none⟩ (.pointer (some ⟨jj, 0, none⟩))).setCell ⟨b3, 0, none⟩ (.slice none ([] : List UInt8).length 0)).setCell ⟨b4, 0, none⟩ (.slice a4 (frScan s.log).1.length cc4)) b2 b3 b4 b5 (.int .i64 0)))
      have hb4 := ((((hbj.set2 q (.pointer (some ⟨jj, 0, none⟩))).set3 q (.slice none ([] : List UInt8).length 0)).set4 q (.slice a4 (frScan s.log).1.length cc4)).set5 q (.int .i64 0))
      have hx5 := on4 q hxJ hx4
      have hD4 := dk4 qg hDj (fun k hk => .inl (h4N k hk)) hx4
      have hs4 := rd4' q hsaj hsf hx4
      have hl4 := ln4 q hlaj hx4
      have hj4 := zj.ext (by simp [jcells]) hx4 (fun hh => by obtain ⟨q1, q2, q3, q4⟩ := q; rcases hh with h | h | h | h <;> omega)
      have hjs := hx4.size
      go_wp2_with fail
      generalize ((((vj.setCell ⟨b2, 0, none⟩ (.pointer (some ⟨jj, 0, none⟩))).setCell ⟨b3, 0, none⟩ (.slice none ([] : List UInt8).length 0)).setCell ⟨b4, 0, none⟩ (.slice a4 (frScan s.log).1.length cc4)).setCell ⟨b5, 0, none⟩ (.int .i64 0)) = ve at *
      refine leaves_cons (f := 42) (args := #[.pointer (some ⟨b5, 0, none⟩), .pointer (some ⟨b2, 0, none⟩), .pointer (some ⟨b3, 0, none⟩), .pointer (some ⟨b4, 0, none⟩)]) (by simp) (by simp [go_sem]) ?_
      refine (open1_ok ve b2 b3 b4 b5 hb4.h5).mono ?_
      rintro e u' w' ⟨rfl, rfl, rfl⟩
      refine ⟨_, results_cell4 rfl _ _ rfl rfl rfl rfl (ld_j _ _ _ hb4.h2) (ld_b _ _ _ hb4.h3) (ld_l _ _ _ hb4.h4) (ld_e _ _ _ hb4.h5), ?_⟩
      rw [Ho.out]
      exact ⟨_, none, 0, a4, cc4, rfl, ⟨hs4, fun ad ha => by have := hsf ad ha; obtain ⟨q1, q2, q3, q4⟩ := q; omega⟩, hl4.mono (by obtain ⟨q1, q2, q3, q4⟩ := q; omega), hx5, .inr ⟨rfl, jj, rfl, hjw, by omega, hj4, hD4.fewer (fun k _ hk => by rcases hk with hk | hk; exact .inl (.inl hk); exact .inr hk)⟩⟩
  · have d0 : decide (0 < s.snap.length) = true := decT (by have := List.length_pos_iff.2 hs; omega)
    go_wp2_with fail
    refine (fone_new w1 a1 c1 s.snap hown1.rd (by omega) hown1.nc).mono ?_
    rintro e w2 ⟨a2, cc2, rfl, hsa, hfr2, hx2⟩
    obtain ⟨O, kk, hO⟩ : ∃ O kk, one s.snap = (O, kk) := ⟨_, _, rfl⟩
    rw [hO] at hsa ⊢
    simp only at hsa ⊢
    have HO := Lib.hid hO
    clear hO
    replace hb := hb.ext hx2 q (fun _ _ h => h)
    replace hD := hD.no hx2
    replace hN' : ∀ k, NB N b2 b3 b4 b5 k → k < w2.heap.size := fun k hk => Nat.lt_of_lt_of_le (hN' k hk) hx2.size
    replace hx := hx.comp (hx2.mono (fun _ _ h => h.elim))
    have hlt1 : b5 < w1.heap.size := Nat.lt_of_lt_of_le hlt hx1.size
    have hsf : ∀ ad, a2 = some ad → b5 < ad.block := fun ad ha => by have := hfr2 ad ha; omega
    have hlt2 : b5 < w2.heap.size := Nat.lt_of_lt_of_le hlt1 hx2.size
    clear hown1 hx1 hfr2 hx2
    have c2 := hb.h2.cell 0 _ rfl
    have c3 := hb.h3.cell 0 _ rfl
    have c4 := hb.h4.cell 0 _ rfl
    have c5 := hb.h5.cell 0 _ rfl
    have f2 := hb.h2.fr 0
    have f3 := hb.h3.fr 0
    have f4 := hb.h4.fr 0
    have f5 := hb.h5.fr 0
    go_upto_region 7 with fail
    clear c2 c3 c4 c5 f2 f3 f4 f5
    have hx5 : Ext (some4 b2 b3 b4 b5) w2 ((w2.setCell ⟨b3, 0, none⟩ (.slice a2 O.length cc2)).setCell ⟨b5, 0, none⟩ (.int .i64 kk)) := (((Ext.refl (some4 b2 b3 b4 b5) w2).comp (at3 w2 b2 b3 b4 b5 (.slice a2 O.length cc2))).comp (at5 (w2.setCell ⟨b3, 0, none⟩ (.slice a2 O.length cc2)) b2 b3 b4 b5 (.int .i64 kk)))
    replace hb := ((hb.set3 q (.slice a2 O.length cc2)).set5 q (.int .i64 kk))
    replace hD := dk4 qg hD h4N hx5
    replace hN' : ∀ k, NB N b2 b3 b4 b5 k → k < (((w2.setCell ⟨b3, 0, none⟩ (.slice a2 O.length cc2)).setCell ⟨b5, 0, none⟩ (.int .i64 kk))).heap.size := fun k hk => Nat.lt_of_lt_of_le (hN' k hk) hx5.size
    replace hsa := rd4' q hsa hsf hx5
    replace hx := on4 q hx hx5
    replace hlt2 := Nat.lt_of_lt_of_le hlt2 hx5.size
    clear hx5
    generalize ((w2.setCell ⟨b3, 0, none⟩ (.slice a2 O.length cc2)).setCell ⟨b5, 0, none⟩ (.int .i64 kk)) = wz at *
    by_cases hk : kk = 0
    · subst hk
      have c5 := hb.h5.cell 0 _ rfl
      have Hp := Lib.hid (show s.opens = if (frScan s.log).2 < s.log.length then (if (s.cut (frScan s.log).2).2 ≠ 0 then ((s.cut (frScan s.log).2).1, (s.cut (frScan s.log).2).2, [], []) else ((s.cut (frScan s.log).2).1, 0, O, (frScan s.log).1)) else (s, 0, O, (frScan s.log).1) by unfold DS.opens; rw [if_neg (by rw [hd]; simp), if_neg (by rw [HO.out]; simp), if_neg hs, HO.out])
      have dk0 : (((0 : Nat) : Int) != 0) = false := rfl
      go_wp2_with fail
      refine (log_any' wz g s _ hD hok).mono ?_
      rintro e w3 ⟨a3, c3, rfl, hown3, hx3⟩
      go_wp2_with fail
      refine (fscan_new w3 a3 c3 s.log hown3.rd (by omega) hown3.nc hown3.cm).mono ?_
      rintro e w4 ⟨a4, cc4, rfl, hla, hx4⟩
      have hsc := frScan_le s.log.length s.log (Nat.le_refl _)
      have hx34 := hx3.comp hx4
      replace hb := hb.ext hx34 q (fun _ _ h => h)
      replace hD := hD.no hx34
      replace hN' : ∀ k, NB N b2 b3 b4 b5 k → k < w4.heap.size := fun k hk => Nat.lt_of_lt_of_le (hN' k hk) hx34.size
      have hlt4 : b5 < w3.heap.size := Nat.lt_of_lt_of_le hlt2 hx3.size
      replace hla := hla.mono (show b5 + 1 ≤ w3.heap.size by omega)
      replace hsa := hsa.ext hx34 (fun _ _ h => h)
      replace hx := hx.comp (hx34.mono (fun _ _ h => h.elim))
      clear hown3 hx3 hx4 hx34
      have c2 := hb.h2.cell 0 _ rfl
      have c3 := hb.h3.cell 0 _ rfl
      have c4 := hb.h4.cell 0 _ rfl
      have c5 := hb.h5.cell 0 _ rfl
      have f2 := hb.h2.fr 0
      have f3 := hb.h3.fr 0
      have f4 := hb.h4.fr 0
      have f5 := hb.h5.fr 0
      go_upto_region 11 with fail
      clear c2 c3 c4 c5 f2 f3 f4 f5
      have hx5 : Ext (some4 b2 b3 b4 b5) w4 (w4.setCell ⟨b4, 0, none⟩ (.slice a4 (frScan s.log).1.length cc4)) := ((Ext.refl (some4 b2 b3 b4 b5) w4).comp (at4 w4 b2 b3 b4 b5 (.slice a4 (frScan s.log).1.length cc4)))
      replace hb := (hb.set4 q (.slice a4 (frScan s.log).1.length cc4))
      replace hD := dk4 qg hD h4N hx5
      replace hN' : ∀ k, NB N b2 b3 b4 b5 k → k < ((w4.setCell ⟨b4, 0, none⟩ (.slice a4 (frScan s.log).1.length cc4))).heap.size := fun k hk => Nat.lt_of_lt_of_le (hN' k hk) hx5.size
      replace hsa := rd4' q hsa hsf hx5
      replace hla := ln4 q hla hx5
      replace hx := on4 q hx hx5
      clear hx5
      generalize (w4.setCell ⟨b4, 0, none⟩ (.slice a4 (frScan s.log).1.length cc4)) = w5 at *
      by_cases hcut : (frScan s.log).2 < s.log.length
      · have d1 : decide (((frScan s.log).2 : Int) < s.log.length) = true := decT (by omega)
        go_wp2_with fail
        refine (cut_any w5 g s _ hD hN' hok ((frScan s.log).2 : Int) ⟨by omega, by omega⟩).mono ?_
        rintro e w6 ⟨rfl, hD6, hx6⟩
        obtain ⟨s2, kc, hr⟩ : ∃ s2 kc, s.cut ((frScan s.log).2 : Int) = (s2, kc) := ⟨_, _, rfl⟩
        rw [hr] at hD6 ⊢
        simp only at hD6 ⊢
        have HoC := Lib.hid (show s.opens = if kc ≠ 0 then (s2, kc, [], []) else (s2, 0, O, (frScan s.log).1) by rw [Hp.out, if_pos hcut, hr])
        clear hr d1
        replace hb := hb.ext hx6 qg (fun k hk => by simp only [Esc.just]; omega)
        replace hN' : ∀ k, NB N b2 b3 b4 b5 k → k < w6.heap.size := fun k hk => Nat.lt_of_lt_of_le (hN' k hk) hx6.size
        replace hsa := hsa.ext hx6 (fun ad ha hh => by have := hsf ad ha; have := qg.lo; have := qg.n23; have := qg.n34; have := qg.n45; simp only [Esc.just] at hh; omega)
        replace hla := hla.ext hx6 (fun k hh => by have := qg.lo; have := qg.n23; have := qg.n34; have := qg.n45; simp only [Esc.just] at hh; omega)
        replace hx := hx.comp hx6
        clear hD hx6
        have c2 := hb.h2.cell 0 _ rfl
        have c3 := hb.h3.cell 0 _ rfl
        have c4 := hb.h4.cell 0 _ rfl
        have c5 := hb.h5.cell 0 _ rfl
        have f2 := hb.h2.fr 0
        have f3 := hb.h3.fr 0
        have f4 := hb.h4.fr 0
        have f5 := hb.h5.fr 0
        go_upto_region 14 with fail
        clear c2 c3 c4 c5 f2 f3 f4 f5
        have hx7 : Ext (some4 b2 b3 b4 b5) w6 (w6.setCell ⟨b5, 0, none⟩ (.int .i64 kc)) := ((Ext.refl (some4 b2 b3 b4 b5) w6).comp (at5 w6 b2 b3 b4 b5 (.int .i64 kc)))
        replace hb := (hb.set5 q (.int .i64 kc))
        have hD := dk4 qg hD6 h4N hx7
        replace hsa := rd4' q hsa hsf hx7
        replace hla := ln4 q hla hx7
        replace hx := on4 q hx hx7
        clear hD6 hx7 hN'
        generalize (w6.setCell ⟨b5, 0, none⟩ (.int .i64 kc)) = w7 at *
        have c2 := hb.h2.cell 0 _ rfl
        have c3 := hb.h3.cell 0 _ rfl
        have c4 := hb.h4.cell 0 _ rfl
        have c5 := hb.h5.cell 0 _ rfl
        have f2 := hb.h2.fr 0
        have f3 := hb.h3.fr 0
        have f4 := hb.h4.fr 0
        have f5 := hb.h5.fr 0
        refine wp_calm ?_
        refine wp_region_F [1, 5, 6, 7] (looks [(1, fun z => World.cell? z ⟨b4, 0, none⟩ = some (.slice a4 (frScan s.log).1.length cc4)), (5, fun z => World.cell? z ⟨b3, 0, none⟩ = some (.slice a2 O.length cc2)), (6, fun z => World.cell? z ⟨b4, 0, none⟩ = some (.slice a4 (frScan s.log).1.length cc4)), (7, fun z => World.cell? z ⟨b5, 0, none⟩ = some (.int .i64 kc))]) (by kernel_rfl) ?_
        have hT0 : ∀ k, looks [(1, fun z => World.cell? z ⟨b4, 0, none⟩ = some (.slice a4 (frScan s.log).1.length cc4)), (5, fun z => World.cell? z ⟨b3, 0, none⟩ = some (.slice a2 O.length cc2)), (6, fun z => World.cell? z ⟨b4, 0, none⟩ = some (.slice a4 (frScan s.log).1.length cc4)), (7, fun z => World.cell? z ⟨b5, 0, none⟩ = some (.int .i64 kc))] k (w7.drew) := looks_all ⟨c4, c3, c4, c5, trivial⟩
        refine wpF_take 0 (v := ?_) rfl (by kernel_rfl) (by kernel_rfl) (by kernel_rfl) (fun c _ _ h => absurd rfl (h.1 c)) hT0 (by rfl) ?_ ?_
        rotate_left
        · (intro wq; go_simp; try with_reducible rfl)
        simp only [Act.put, List.setIfInBounds_toArray, List.set_cons_zero, List.set_cons_succ]
        refine wpF_look 1 (v := .slice a4 (frScan s.log).1.length cc4) rfl rfl (by kernel_rfl) (by kernel_rfl) (by kernel_rfl) (by kernel_rfl) (fun c _ _ h => absurd rfl (h.1 c)) hT0 (by rfl) (fun w hS => by have hS : World.cell? w ⟨b4, 0, none⟩ = some (.slice a4 (frScan s.log).1.length cc4) := hS; go_simp) ?_
        simp only [Act.put, List.setIfInBounds_toArray, List.set_cons_zero, List.set_cons_succ]
        refine wpF_take 2 (v := ?_) rfl (by kernel_rfl) (by kernel_rfl) (by kernel_rfl) (fun c _ _ h => absurd rfl (h.1 c)) hT0 (by rfl) ?_ ?_
        rotate_left
        · (intro wq; go_simp; try with_reducible rfl)
        simp only [Act.put, List.setIfInBounds_toArray, List.set_cons_zero, List.set_cons_succ]
        refine wpF_take 3 (v := ?_) rfl (by kernel_rfl) (by kernel_rfl) (by kernel_rfl) (fun c _ _ h => absurd rfl (h.1 c)) hT0 (by rfl) ?_ ?_
        rotate_left
        · (intro wq; go_simp; try with_reducible rfl)
        simp only [Act.put, List.setIfInBounds_toArray, List.set_cons_zero, List.set_cons_succ]
        refine wpF_look 5 (v := .slice a2 O.length cc2) rfl rfl (by kernel_rfl) (by kernel_rfl) (by kernel_rfl) (by kernel_rfl) (fun c _ _ h => absurd rfl (h.1 c)) hT0 (by rfl) (fun w hS => by have hS : World.cell? w ⟨b3, 0, none⟩ = some (.slice a2 O.length cc2) := hS; go_simp) ?_
        simp only [Act.put, List.setIfInBounds_toArray, List.set_cons_zero, List.set_cons_succ]
        refine wpF_look 6 (v := .slice a4 (frScan s.log).1.length cc4) rfl rfl (by kernel_rfl) (by kernel_rfl) (by kernel_rfl) (by kernel_rfl) (fun c _ _ h => absurd rfl (h.1 c)) hT0 (by rfl) (fun w hS => by have hS : World.cell? w ⟨b4, 0, none⟩ = some (.slice a4 (frScan s.log).1.length cc4) := hS; go_simp) ?_
        simp only [Act.put, List.setIfInBounds_toArray, List.set_cons_zero, List.set_cons_succ]
        refine wpF_look 7 (v := .int .i64 kc) rfl rfl (by kernel_rfl) (by kernel_rfl) (by kernel_rfl) (by kernel_rfl) (fun c _ _ h => absurd rfl (h.1 c)) hT0 (by rfl) (fun w hS => by have hS : World.cell? w ⟨b5, 0, none⟩ = some (.int .i64 kc) := hS; go_simp) ?_
        simp only [Act.put, List.setIfInBounds_toArray, List.set_cons_zero, List.set_cons_succ]
        refine wpF_exec 4 rfl (by kernel_rfl) (by rfl) ?_
        intro K hK
        go_simp
        have zj : Blk ((w7.alloc (.cells #[.pointer (some ⟨g, 0, none⟩), .int .i64 (frScan s.log).1.length] 103)).drew) w7.heap.size (jcells g (frScan s.log).1.length) := (Blk.lit w7 _ _).drew
        have hxj : Ext no w7 ((w7.alloc (.cells #[.pointer (some ⟨g, 0, none⟩), .int .i64 (frScan s.log).1.length] 103)).drew) := (Ext.alloc no w7 (.cells #[.pointer (some ⟨g, 0, none⟩), .int .i64 (frScan s.log).1.length] 103)).comp (Ext.drew no _)
        have hbj := hb.ext hxj q (fun _ _ h => h)
        have hDj := (hD.fewer (N' := fun i => NB N b2 b3 b4 b5 i ∨ i = w7.heap.size) (fun k hk hh => by rcases hh with hh | hh; exact hh; omega)).no hxj
        have hsaj := hsa.ext hxj (fun _ _ h => h)
        have hlaj := hla.ext hxj (fun _ h => h.elim)
        have hxJ := hx.comp (hxj.mono (fun _ _ h => h.elim))
        have hjl : w7.heap.size < ((w7.alloc (.cells #[.pointer (some ⟨g, 0, none⟩), .int .i64 (frScan s.log).1.length] 103)).drew).heap.size := zj.lt (by simp [jcells])
        have hjb : b5 < w7.heap.size := hb.h5.lt (by simp)
        have hjw : w.heap.size ≤ w7.heap.size := hx.size
        have hT1 : ∀ k, looks [(1, fun z => World.cell? z ⟨b4, 0, none⟩ = some (.slice a4 (frScan s.log).1.length cc4)), (5, fun z => World.cell? z ⟨b3, 0, none⟩ = some (.slice a2 O.length cc2)), (6, fun z => World.cell? z ⟨b4, 0, none⟩ = some (.slice a4 (frScan s.log).1.length cc4)), (7, fun z => World.cell? z ⟨b5, 0, none⟩ = some (.int .i64 kc))] k ((w7.alloc (.cells #[.pointer (some ⟨g, 0, none⟩), .int .i64 (frScan s.log).1.length] 103)).drew) := looks_all ⟨hbj.h4.cell 0 _ rfl, hbj.h3.cell 0 _ rfl, hbj.h4.cell 0 _ rfl, hbj.h5.cell 0 _ rfl, trivial⟩
        refine hK _ _ (looks [(1, fun z => World.cell? z ⟨b4, 0, none⟩ = some (.slice a4 (frScan s.log).1.length cc4)), (5, fun z => World.cell? z ⟨b3, 0, none⟩ = some (.slice a2 O.length cc2)), (6, fun z => World.cell? z ⟨b4, 0, none⟩ = some (.slice a4 (frScan s.log).1.length cc4)), (7, fun z => World.cell? z ⟨b5, 0, none⟩ = some (.int .i64 kc))]) ⟨.inr (.inl (by kernel_rfl)), .inr (.inr (fun x h => h)), .inr (.inr (fun x h => h)), .inr (.inr (fun x h => h)), trivial⟩ hT1 ?_
        clear hK K
        try simp only [Act.put, List.setIfInBounds_toArray, List.set_cons_zero, List.set_cons_succ]
        clear hb hD hx hsa hla hxj
        obtain ⟨jj, hjj⟩ : ∃ j, j = w7.heap.size := ⟨_, rfl⟩
        rw [← hjj] at zj hDj hjl hjb hjw ⊢
        clear hjj
        generalize (w7.alloc (.cells #[.pointer (some ⟨g, 0, none⟩), .int .i64 (frScan s.log).1.length] 103)).drew = vj at *
        have c2 := hbj.h2.cell 0 _ rfl
        have c3 := hbj.h3.cell 0 _ rfl
        have c4 := hbj.h4.cell 0 _ rfl
        have c5 := hbj.h5.cell 0 _ rfl
        have f2 := hbj.h2.fr 0
        have f3 := hbj.h3.fr 0
        have f4 := hbj.h4.fr 0
        have f5 := hbj.h5.fr 0
        refine wpF_exec 8 rfl (by kernel_rfl) (by rfl) ?_
        intro K hK
        go_simp
        have hT2 : ∀ k, looks [(1, fun z => World.cell? z ⟨b4, 0, none⟩ = some (.slice a4 (frScan s.log).1.length cc4)), (5, fun z => World.cell? z ⟨b3, 0, none⟩ = some (.slice a2 O.length cc2)), (6, fun z => World.cell? z ⟨b4, 0, none⟩ = some (.slice a4 (frScan s.log).1.length cc4)), (7, fun z => World.cell? z ⟨b5, 0, none⟩ = some (.int .i64 kc))] k ((vj.setCell ⟨b2, 0, none⟩ (.pointer (some ⟨jj, 0, none⟩)))) := looks_all ⟨((hbj.set2 q (.pointer (some ⟨jj, 0, none⟩)))).h4.cell 0 _ rfl, ((hbj.set2 q (.pointer (some ⟨jj, 0, none⟩)))).h3.cell 0 _ rfl, ((hbj.set2 q (.pointer (some ⟨jj, 0, none⟩)))).h4.cell 0 _ rfl, ((hbj.set2 q (.pointer (some ⟨jj, 0, none⟩)))).h5.cell 0 _ rfl, trivial⟩
        refine hK _ _ (looks [(1, fun z => World.cell? z ⟨b4, 0, none⟩ = some (.slice a4 (frScan s.log).1.length cc4)), (5, fun z => World.cell? z ⟨b3, 0, none⟩ = some (.slice a2 O.length cc2)), (6, fun z => World.cell? z ⟨b4, 0, none⟩ = some (.slice a4 (frScan s.log).1.length cc4)), (7, fun z => World.cell? z ⟨b5, 0, none⟩ = some (.int .i64 kc))]) ⟨.inr (.inl (by kernel_rfl)), .inr (.inr (fun x h => h)), .inr (.inr (fun x h => h)), .inr (.inr (fun x h => h)), trivial⟩ hT2 ?_
        clear hK K
        try simp only [Act.put, List.setIfInBounds_toArray, List.set_cons_zero, List.set_cons_succ]
        refine wpF_exec 9 rfl (by kernel_rfl) (by rfl) ?_
        intro K hK
        go_simp
        have hT3 : ∀ k, looks [(1, fun z => World.cell? z ⟨b4, 0, none⟩ = some (.slice a4 (frScan s.log).1.length cc4)), (5, fun z => World.cell? z ⟨b3, 0, none⟩ = some (.slice a2 O.length cc2)), (6, fun z => World.cell? z ⟨b4, 0, none⟩ = some (.slice a4 (frScan s.log).1.length cc4)), (7, fun z => World.cell? z ⟨b5, 0, none⟩ = some (.int .i64 kc))] k (((vj.setCell ⟨b2, 0, none⟩ (.pointer (some ⟨jj, 0, none⟩))).setCell ⟨b3, 0, none⟩ (.slice a2 O.length cc2))) := looks_all ⟨(((hbj.set2 q (.pointer (some ⟨jj, 0, none⟩))).set3 q (.slice a2 O.length cc2))).h4.cell 0 _ rfl, (((hbj.set2 q (.pointer (some ⟨jj, 0, none⟩))).set3 q (.slice a2 O.length cc2))).h3.cell 0 _ rfl, (((hbj.set2 q (.pointer (some ⟨jj, 0, none⟩))).set3 q (.slice a2 O.length cc2))).h4.cell 0 _ rfl, (((hbj.set2 q (.pointer (some ⟨jj, 0, none⟩))).set3 q (.slice a2 O.length cc2))).h5.cell 0 _ rfl, trivial⟩
        refine hK _ _ (looks [(1, fun z => World.cell? z ⟨b4, 0, none⟩ = some (.slice a4 (frScan s.log).1.length cc4)), (5, fun z => World.cell? z ⟨b3, 0, none⟩ = some (.slice a2 O.length cc2)), (6, fun z => World.cell? z ⟨b4, 0, none⟩ = some (.slice a4 (frScan s.log).1.length cc4)), (7, fun z => World.cell? z ⟨b5, 0, none⟩ = some (.int .i64 kc))]) ⟨.inr (.inl (by kernel_rfl)), .inr (.inl (by kernel_rfl)), .inr (.inr (fun x h => h)), .inr (.inr (fun x h => h)), trivial⟩ hT3 ?_
        clear hK K
        try simp only [Act.put, List.setIfInBounds_toArray, List.set_cons_zero, List.set_cons_succ]
        refine wpF_exec 10 rfl (by kernel_rfl) (by rfl) ?_
        intro K hK
        go_simp
        have hT4 : ∀ k, looks [(1, fun z => World.cell? z ⟨b4, 0, none⟩ = some (.slice a4 (frScan s.log).1.length cc4)), (5, fun z => World.cell? z ⟨b3, 0, none⟩ = some (.slice a2 O.length cc2)), (6, fun z => World.cell? z ⟨b4, 0, none⟩ = some (.slice a4 (frScan s.log).1.length cc4)), (7, fun z => World.cell? z ⟨b5, 0, none⟩ = some (.int .i64 kc))] k ((((vj.setCell ⟨b2, 0, none⟩ (.pointer (some ⟨jj, 0, none⟩))).setCell ⟨b3, 0, none⟩ (.slice a2 O.length cc2)).setCell ⟨b4, 0, none⟩ (.slice a4 (frScan s.log).1.length cc4))) := looks_all ⟨((((hbj.set2 q (.pointer (some ⟨jj, 0, none⟩))).set3 q (.slice a2 O.length cc2)).set4 q (.slice a4 (frScan s.log).1.length cc4))).h4.cell 0 _ rfl, ((((hbj.set2 q (.pointer (some ⟨jj, 0, none⟩))).set3 q (.slice a2 O.length cc2)).set4 q (.slice a4 (frScan s.log).1.length cc4))).h3.cell 0 _ rfl, ((((hbj.set2 q (.pointer (some ⟨jj, 0, none⟩))).set3 q (.slice a2 O.length cc2)).set4 q (.slice a4 (frScan s.log).1.length cc4))).h4.cell 0 _ rfl, ((((hbj.set2 q (.pointer (some ⟨jj, 0, none⟩))).set3 q (.slice a2 O.length cc2)).set4 q (.slice a4 (frScan s.log).1.length cc4))).h5.cell 0 _ rfl, trivial⟩
        refine hK _ _ (looks [(1, fun z => World.cell? z ⟨b4, 0, none⟩ = some (.slice a4 (frScan s.log).1.length cc4)), (5, fun z => World.cell? z ⟨b3, 0, none⟩ = some (.slice a2 O.length cc2)), (6, fun z => World.cell? z ⟨b4, 0, none⟩ = some (.slice a4 (frScan s.log).1.length cc4)), (7, fun z => World.cell? z ⟨b5, 0, none⟩ = some (.int .i64 kc))]) ⟨.inr (.inl (by kernel_rfl)), .inr (.inl (by kernel_rfl)), .inr (.inl (by kernel_rfl)), .inr (.inr (fun x h => h)), trivial⟩ hT4 ?_
        clear hK K
        try simp only [Act.put, List.setIfInBounds_toArray, List.set_cons_zero, List.set_cons_succ]
        refine wpF_exec 11 rfl (by kernel_rfl) (by rfl) ?_
        intro K hK
        go_simp
        have hT5 : ∀ k, looks [(1, fun z => World.cell? z ⟨b4, 0, none⟩ = some (.slice a4 (frScan s.log).1.length cc4)), (5, fun z => World.cell? z ⟨b3, 0, none⟩ = some (.slice a2 O.length cc2)), (6, fun z => World.cell? z ⟨b4, 0, none⟩ = some (.slice a4 (frScan s.log).1.length cc4)), (7, fun z => World.cell? z ⟨b5, 0, none⟩ = some (.int .i64 kc))] k (((((vj.setCell ⟨b2, 0, none⟩ (.pointer (some ⟨jj, 0, none⟩))).setCell ⟨b3, 0, none⟩ (.slice a2 O.length cc2)).setCell ⟨b4, 0, none⟩ (.slice a4 (frScan s.log).1.length cc4)).setCell ⟨b5, 0, none⟩ (.int .i64 kc))) := looks_all ⟨(((((hbj.set2 q (.pointer (some ⟨jj, 0, none⟩))).set3 q (.slice a2 O.length cc2)).set4 q (.slice a4 (frScan s.log).1.length cc4)).set5 q (.int .i64 kc))).h4.cell 0 _ rfl, (((((hbj.set2 q (.pointer (some ⟨jj, 0, none⟩))).set3 q (.slice a2 O.length cc2)).set4 q (.slice a4 (frScan s.log).1.length cc4)).set5 q (.int .i64 kc))).h3.cell 0 _ rfl, (((((hbj.set2 q (.pointer (some ⟨jj, 0, none⟩))).set3 q (.slice a2 O.length cc2)).set4 q (.slice a4 (frScan s.log).1.length cc4)).set5 q (.int .i64 kc))).h4.cell 0 _ rfl, (((((hbj.set2 q (.pointer (some ⟨jj, 0, none⟩))).set3 q (.slice a2 O.length cc2)).set4 q (.slice a4 (frScan s.log).1.length cc4)).set5 q (.int .i64 kc))).h5.cell 0 _ rfl, trivial⟩
        refine hK _ _ (looks [(1, fun z => World.cell? z ⟨b4, 0, none⟩ = some (.slice a4 (frScan s.log).1.length cc4)), (5, fun z => World.cell? z ⟨b3, 0, none⟩ = some (.slice a2 O.length cc2)), (6, fun z => World.cell? z ⟨b4, 0, none⟩ = some (.slice a4 (frScan s.log).1.length cc4)), (7, fun z => World.cell? z ⟨b5, 0, none⟩ = some (.int .i64 kc))]) ⟨.inr (.inl (by kernel_rfl)), .inr (.inl (by kernel_rfl)), .inr (.inl (by kernel_rfl)), .inr (.inl (by kernel_rfl)), trivial⟩ hT5 ?_
        clear hK K
        try simp only [Act.put, List.setIfInBounds_toArray, List.set_cons_zero, List.set_cons_succ]
        refine wpF_done (by kernel_rfl) ?_ _
        refine ⟨(fun _ h => by cases h), ?_⟩
        clear c2 c3 c4 c5 f2 f3 f4 f5
        have hx4 : Ext (some4 b2 b3 b4 b5) vj ((((vj.setCell ⟨b2, 0, none⟩ (.pointer (some ⟨jj, 0, none⟩))).setCell ⟨b3, 0, none⟩ (.slice a2 O.length cc2)).setCell ⟨b4, 0, none⟩ (.slice a4 (frScan s.log).1.length cc4)).setCell ⟨b5, 0, none⟩ (.int .i64 kc)) := (((((Ext.refl (some4 b2 b3 b4 b5) vj).comp (at2 vj b2 b3 b4 b5 (.pointer (some ⟨jj, 0, none⟩)))).comp (at3 (vj.setCell ⟨b2, 0, none⟩ (.pointer (some ⟨jj, 0, none⟩))) b2 b3 b4 b5 (.slice a2 O.length cc2))).comp (at4 ((vj.setCell ⟨b2, 0, none⟩ (.pointer (some ⟨jj, 0, none⟩))).setCell ⟨b3, 0, none⟩ (.slice a2 O.length cc2)) b2 b3 b4 b5 (.slice a4 (frScan s.log).1.length cc4))).comp (at5 (((vj.setCell ⟨b2, 0, none⟩ (.pointer (some ⟨jj, 0, none⟩))).setCell ⟨b3, 0, none⟩ (.slice a2 O.length cc2)).setCell ⟨b4, 0, none⟩ (.slice a4 (frScan s.log).1.length cc4)) b2 b3 b4 b5 (.int .i64 kc)))
        have hb4 := ((((hbj.set2 q (.pointer (some ⟨jj, 0, none⟩))).set3 q (.slice a2 O.length cc2)).set4 q (.slice a4 (frScan s.log).1.length cc4)).set5 q (.int .i64 kc))
        have hx5 := on4 q hxJ hx4
        have hD4 := dk4 qg hDj (fun k hk => .inl (h4N k hk)) hx4
        have hs4 := rd4' q hsaj hsf hx4
        have hl4 := ln4 q hlaj hx4
        have hj4 := zj.ext (by simp [jcells]) hx4 (fun hh => by obtain ⟨q1, q2, q3, q4⟩ := q; rcases hh with h | h | h | h <;> omega)
        have hjs := hx4.size
        go_wp2_with fail
        generalize ((((vj.setCell ⟨b2, 0, none⟩ (.pointer (some ⟨jj, 0, none⟩))).setCell ⟨b3, 0, none⟩ (.slice a2 O.length cc2)).setCell ⟨b4, 0, none⟩ (.slice a4 (frScan s.log).1.length cc4)).setCell ⟨b5, 0, none⟩ (.int .i64 kc)) = ve at *
        by_cases hk0 : kc = 0
        · subst hk0
          have Ho := Lib.hid (HoC.out.trans (if_neg (by simp)))
          refine leaves_cons (f := 42) (args := #[.pointer (some ⟨b5, 0, none⟩), .pointer (some ⟨b2, 0, none⟩), .pointer (some ⟨b3, 0, none⟩), .pointer (some ⟨b4, 0, none⟩)]) (by simp) (by simp [go_sem]) ?_
          refine (open1_ok ve b2 b3 b4 b5 hb4.h5).mono ?_
          rintro e u' w' ⟨rfl, rfl, rfl⟩
          refine ⟨_, results_cell4 rfl _ _ rfl rfl rfl rfl (ld_j _ _ _ hb4.h2) (ld_b _ _ _ hb4.h3) (ld_l _ _ _ hb4.h4) (ld_e _ _ _ hb4.h5), ?_⟩
          rw [Ho.out]
          exact ⟨_, a2, cc2, a4, cc4, rfl, ⟨hs4, fun ad ha => by have := hsf ad ha; obtain ⟨q1, q2, q3, q4⟩ := q; omega⟩, hl4.mono (by obtain ⟨q1, q2, q3, q4⟩ := q; omega), hx5, .inr ⟨rfl, jj, rfl, hjw, by omega, hj4, hD4.fewer (fun k _ hk => by rcases hk with hk | hk; exact .inl (.inl hk); exact .inr hk)⟩⟩
        · have Ho := Lib.hid (HoC.out.trans (if_pos hk0))
          refine leaves_cons (f := 42) (args := #[.pointer (some ⟨b5, 0, none⟩), .pointer (some ⟨b2, 0, none⟩), .pointer (some ⟨b3, 0, none⟩), .pointer (some ⟨b4, 0, none⟩)]) (by simp) (by simp [go_sem]) ?_
          refine (open1_err ve b2 b3 b4 b5 kc hk0 _ _ _ hb4.h5 hb4.h2 hb4.h3 hb4.h4 (by have := q.n23; omega) (by have := q.n23; have := q.n34; omega) (by have := q.n34; omega)).mono ?_
          rintro e u' w' ⟨rfl, rfl, rfl⟩
          have hx6 : Ext (some4 b2 b3 b4 b5) ve (((ve.setCell ⟨b2, 0, none⟩ (.pointer none)).setCell ⟨b3, 0, none⟩ (.slice none 0 0)).setCell ⟨b4, 0, none⟩ (.slice none 0 0)) := ((((Ext.refl (some4 b2 b3 b4 b5) ve).comp (at2 ve b2 b3 b4 b5 (.pointer none))).comp (at3 (ve.setCell ⟨b2, 0, none⟩ (.pointer none)) b2 b3 b4 b5 (.slice none 0 0))).comp (at4 ((ve.setCell ⟨b2, 0, none⟩ (.pointer none)).setCell ⟨b3, 0, none⟩ (.slice none 0 0)) b2 b3 b4 b5 (.slice none 0 0)))
          have hb6 := (((hb4.set2 q (.pointer none)).set3 q (.slice none 0 0)).set4 q (.slice none 0 0))
          refine ⟨_, results_cell4 rfl _ _ rfl rfl rfl rfl (ld_j _ _ _ hb6.h2) (ld_b _ _ _ hb6.h3) (ld_l _ _ _ hb6.h4) (ld_e _ _ _ hb6.h5), ?_⟩
          rw [Ho.out]
          exact ⟨_, none, 0, none, 0, rfl, ⟨Rd.nil _ _, fun _ h => by cases h⟩, nilLists _ _, on4 q hx5 hx6, .inl ⟨hk0, rfl, (dk4 qg hD4 (fun k hk => .inl (h4N k hk)) hx6).fewer (fun k _ hk => .inl (.inl hk))⟩⟩
      · have d1 : decide (((frScan s.log).2 : Int) < s.log.length) = false := decF (by omega)
        have Ho := Lib.hid (show s.opens = (s, 0, O, (frScan s.log).1) by rw [Hp.out, if_neg hcut])
        have c2 := hb.h2.cell 0 _ rfl
        have c3 := hb.h3.cell 0 _ rfl
        have c4 := hb.h4.cell 0 _ rfl
        have c5 := hb.h5.cell 0 _ rfl
        have f2 := hb.h2.fr 0
        have f3 := hb.h3.fr 0
        have f4 := hb.h4.fr 0
        have f5 := hb.h5.fr 0
        go_upto_region 14 with fail
        refine wp_calm ?_
        refine wp_region_F [1, 5, 6, 7] (looks [(1, fun z => World.cell? z ⟨b4, 0, none⟩ = some (.slice a4 (frScan s.log).1.length cc4)), (5, fun z => World.cell? z ⟨b3, 0, none⟩ = some (.slice a2 O.length cc2)), (6, fun z => World.cell? z ⟨b4, 0, none⟩ = some (.slice a4 (frScan s.log).1.length cc4)), (7, fun z => World.cell? z ⟨b5, 0, none⟩ = some (.int .i64 0))]) (by kernel_rfl) ?_
        have hT0 : ∀ k, looks [(1, fun z => World.cell? z ⟨b4, 0, none⟩ = some (.slice a4 (frScan s.log).1.length cc4)), (5, fun z => World.cell? z ⟨b3, 0, none⟩ = some (.slice a2 O.length cc2)), (6, fun z => World.cell? z ⟨b4, 0, none⟩ = some (.slice a4 (frScan s.log).1.length cc4)), (7, fun z => World.cell? z ⟨b5, 0, none⟩ = some (.int .i64 0))] k (w5.drew) := looks_all ⟨c4, c3, c4, c5, trivial⟩
        refine wpF_take 0 (v := ?_) rfl (by kernel_rfl) (by kernel_rfl) (by kernel_rfl) (fun c _ _ h => absurd rfl (h.1 c)) hT0 (by rfl) ?_ ?_
        rotate_left
        · (intro wq; go_simp; try with_reducible rfl)
        simp only [Act.put, List.setIfInBounds_toArray, List.set_cons_zero, List.set_cons_succ]
        refine wpF_look 1 (v := .slice a4 (frScan s.log).1.length cc4) rfl rfl (by kernel_rfl) (by kernel_rfl) (by kernel_rfl) (by kernel_rfl) (fun c _ _ h => absurd rfl (h.1 c)) hT0 (by rfl) (fun w hS => by have hS : World.cell? w ⟨b4, 0, none⟩ = some (.slice a4 (frScan s.log).1.length cc4) := hS; go_simp) ?_
        simp only [Act.put, List.setIfInBounds_toArray, List.set_cons_zero, List.set_cons_succ]
        refine wpF_take 2 (v := ?_) rfl (by kernel_rfl) (by kernel_rfl) (by kernel_rfl) (fun c _ _ h => absurd rfl (h.1 c)) hT0 (by rfl) ?_ ?_
        rotate_left
        · (intro wq; go_simp; try with_reducible rfl)
        simp only [Act.put, List.setIfInBounds_toArray, List.set_cons_zero, List.set_cons_succ]
        refine wpF_take 3 (v := ?_) rfl (by kernel_rfl) (by kernel_rfl) (by kernel_rfl) (fun c _ _ h => absurd rfl (h.1 c)) hT0 (by rfl) ?_ ?_
        rotate_left
        · (intro wq; go_simp; try with_reducible rfl)
        simp only [Act.put, List.setIfInBounds_toArray, List.set_cons_zero, List.set_cons_succ]
        refine wpF_look 5 (v := .slice a2 O.length cc2) rfl rfl (by kernel_rfl) (by kernel_rfl) (by kernel_rfl) (by kernel_rfl) (fun c _ _ h => absurd rfl (h.1 c)) hT0 (by rfl) (fun w hS => by have hS : World.cell? w ⟨b3, 0, none⟩ = some (.slice a2 O.length cc2) := hS; go_simp) ?_
        simp only [Act.put, List.setIfInBounds_toArray, List.set_cons_zero, List.set_cons_succ]
        refine wpF_look 6 (v := .slice a4 (frScan s.log).1.length cc4) rfl rfl (by kernel_rfl) (by kernel_rfl) (by kernel_rfl) (by kernel_rfl) (fun c _ _ h => absurd rfl (h.1 c)) hT0 (by rfl) (fun w hS => by have hS : World.cell? w ⟨b4, 0, none⟩ = some (.slice a4 (frScan s.log).1.length cc4) := hS; go_simp) ?_
        simp only [Act.put, List.setIfInBounds_toArray, List.set_cons_zero, List.set_cons_succ]
        refine wpF_look 7 (v := .int .i64 0) rfl rfl (by kernel_rfl) (by kernel_rfl) (by kernel_rfl) (by kernel_rfl) (fun c _ _ h => absurd rfl (h.1 c)) hT0 (by rfl) (fun w hS => by have hS : World.cell? w ⟨b5, 0, none⟩ = some (.int .i64 0) := hS; go_simp) ?_
        simp only [Act.put, List.setIfInBounds_toArray, List.set_cons_zero, List.set_cons_succ]
        refine wpF_exec 4 rfl (by kernel_rfl) (by rfl) ?_
        intro K hK
        go_simp
        have zj : Blk ((w5.alloc (.cells #[.pointer (some ⟨g, 0, none⟩), .int .i64 (frScan s.log).1.length] 103)).drew) w5.heap.size (jcells g (frScan s.log).1.length) := (Blk.lit w5 _ _).drew
        have hxj : Ext no w5 ((w5.alloc (.cells #[.pointer (some ⟨g, 0, none⟩), .int .i64 (frScan s.log).1.length] 103)).drew) := (Ext.alloc no w5 (.cells #[.pointer (some ⟨g, 0, none⟩), .int .i64 (frScan s.log).1.length] 103)).comp (Ext.drew no _)
        have hbj := hb.ext hxj q (fun _ _ h => h)
        have hDj := (hD.fewer (N' := fun i => NB N b2 b3 b4 b5 i ∨ i = w5.heap.size) (fun k hk hh => by rcases hh with hh | hh; exact hh; omega)).no hxj
        have hsaj := hsa.ext hxj (fun _ _ h => h)
        have hlaj := hla.ext hxj (fun _ h => h.elim)
        have hxJ := hx.comp (hxj.mono (fun _ _ h => h.elim))
        have hjl : w5.heap.size < ((w5.alloc (.cells #[.pointer (some ⟨g, 0, none⟩), .int .i64 (frScan s.log).1.length] 103)).drew).heap.size := zj.lt (by simp [jcells])
        have hjb : b5 < w5.heap.size := hb.h5.lt (by simp)
        have hjw : w.heap.size ≤ w5.heap.size := hx.size
        have hT1 : ∀ k, looks [(1, fun z => World.cell? z ⟨b4, 0, none⟩ = some (.slice a4 (frScan s.log).1.length cc4)), (5, fun z => World.cell? z ⟨b3, 0, none⟩ = some (.slice a2 O.length cc2)), (6, fun z => World.cell? z ⟨b4, 0, none⟩ = some (.slice a4 (frScan s.log).1.length cc4)), (7, fun z => World.cell? z ⟨b5, 0, none⟩ = some (.int .i64 0))] k ((w5.alloc (.cells #[.pointer (some ⟨g, 0, none⟩), .int .i64 (frScan s.log).1.length] 103)).drew) := looks_all ⟨hbj.h4.cell 0 _ rfl, hbj.h3.cell 0 _ rfl, hbj.h4.cell 0 _ rfl, hbj.h5.cell 0 _ rfl, trivial⟩
        refine hK _ _ (looks [(1, fun z => World.cell? z ⟨b4, 0, none⟩ = some (.slice a4 (frScan s.log).1.length cc4)), (5, fun z => World.cell? z ⟨b3, 0, none⟩ = some (.slice a2 O.length cc2)), (6, fun z => World.cell? z ⟨b4, 0, none⟩ = some (.slice a4 (frScan s.log).1.length cc4)), (7, fun z => World.cell? z ⟨b5, 0, none⟩ = some (.int .i64 0))]) ⟨.inr (.inl (by kernel_rfl)), .inr (.inr (fun x h => h)), .inr (.inr (fun x h => h)), .inr (.inr (fun x h => h)), trivial⟩ hT1 ?_
        clear hK K
        try simp only [Act.put, List.setIfInBounds_toArray, List.set_cons_zero, List.set_cons_succ]
        clear hb hD hx hsa hla hxj
        obtain ⟨jj, hjj⟩ : ∃ j, j = w5.heap.size := ⟨_, rfl⟩
        rw [← hjj] at zj hDj hjl hjb hjw ⊢
        clear hjj
        generalize (w5.alloc (.cells #[.pointer (some ⟨g, 0, none⟩), .int .i64 (frScan s.log).1.length] 103)).drew = vj at *
        have c2 := hbj.h2.cell 0 _ rfl
        have c3 := hbj.h3.cell 0 _ rfl
        have c4 := hbj.h4.cell 0 _ rfl
        have c5 := hbj.h5.cell 0 _ rfl
        have f2 := hbj.h2.fr 0
        have f3 := hbj.h3.fr 0
        have f4 := hbj.h4.fr 0
        have f5 := hbj.h5.fr 0
        refine wpF_exec 8 rfl (by kernel_rfl) (by rfl) ?_
        intro K hK
        go_simp
        have hT2 : ∀ k, looks [(1, fun z => World.cell? z ⟨b4, 0, none⟩ = some (.slice a4 (frScan s.log).1.length cc4)), (5, fun z => World.cell? z ⟨b3, 0, none⟩ = some (.slice a2 O.length cc2)), (6, fun z => World.cell? z ⟨b4, 0, none⟩ = some (.slice a4 (frScan s.log).1.length cc4)), (7, fun z => World.cell? z ⟨b5, 0, none⟩ = some (.int .i64 0))] k ((vj.setCell ⟨b2, 0, none⟩ (.pointer (some ⟨jj, 0, none⟩)))) := looks_all ⟨((hbj.set2 q (.pointer (some ⟨jj, 0, none⟩)))).h4.cell 0 _ rfl, ((hbj.set2 q (.pointer (some ⟨jj, 0, none⟩)))).h3.cell 0 _ rfl, ((hbj.set2 q (.pointer (some ⟨jj, 0, none⟩)))).h4.cell 0 _ rfl, ((hbj.set2 q (.pointer (some ⟨jj, 0, none⟩)))).h5.cell 0 _ rfl, trivial⟩
        refine hK _ _ (looks [(1, fun z => World.cell? z ⟨b4, 0, none⟩ = some (.slice a4 (frScan s.log).1.length cc4)), (5, fun z => World.cell? z ⟨b3, 0, none⟩ = some (.slice a2 O.length cc2)), (6, fun z => World.cell? z ⟨b4, 0, none⟩ = some (.slice a4 (frScan s.log).1.length cc4)), (7, fun z => World.cell? z ⟨b5, 0, none⟩ = some (.int .i64 0))]) ⟨.inr (.inl (by kernel_rfl)), .inr (.inr (fun x h => h)), .inr (.inr (fun x h => h)), .inr (.inr (fun x h => h)), trivial⟩ hT2 ?_
        clear hK K
        try simp only [Act.put, List.setIfInBounds_toArray, List.set_cons_zero, List.set_cons_succ]
        refine wpF_exec 9 rfl (by kernel_rfl) (by rfl) ?_
        intro K hK
        go_simp
        have hT3 : ∀ k, looks [(1, fun z => World.cell? z ⟨b4, 0, none⟩ = some (.slice a4 (frScan s.log).1.length cc4)), (5, fun z => World.cell? z ⟨b3, 0, none⟩ = some (.slice a2 O.length cc2)), (6, fun z => World.cell? z ⟨b4, 0, none⟩ = some (.slice a4 (frScan s.log).1.length cc4)), (7, fun z => World.cell? z ⟨b5, 0, none⟩ = some (.int .i64 0))] k (((vj.setCell ⟨b2, 0, none⟩ (.pointer (some ⟨jj, 0, none⟩))).setCell ⟨b3, 0, none⟩ (.slice a2 O.length cc2))) := looks_all ⟨(((hbj.set2 q (.pointer (some ⟨jj, 0, none⟩))).set3 q (.slice a2 O.length cc2))).h4.cell 0 _ rfl, (((hbj.set2 q (.pointer (some ⟨jj, 0, none⟩))).set3 q (.slice a2 O.length cc2))).h3.cell 0 _ rfl, (((hbj.set2 q (.pointer (some ⟨jj, 0, none⟩))).set3 q (.slice a2 O.length cc2))).h4.cell 0 _ rfl, (((hbj.set2 q (.pointer (some ⟨jj, 0, none⟩))).set3 q (.slice a2 O.length cc2))).h5.cell 0 _ rfl, trivial⟩
        refine hK _ _ (looks [(1, fun z => World.cell? z ⟨b4, 0, none⟩ = some (.slice a4 (frScan s.log).1.length cc4)), (5, fun z => World.cell? z ⟨b3, 0, none⟩ = some (.slice a2 O.length cc2)), (6, fun z => World.cell? z ⟨b4, 0, none⟩ = some (.slice a4 (frScan s.log).1.length cc4)), (7, fun z => World.cell? z ⟨b5, 0, none⟩ = some (.int .i64 0))]) ⟨.inr (.inl (by kernel_rfl)), .inr (.inl (by kernel_rfl)), .inr (.inr (fun x h => h)), .inr (.inr (fun x h => h)), trivial⟩ hT3 ?_
        clear hK K
        try simp only [Act.put, List.setIfInBounds_toArray, List.set_cons_zero, List.set_cons_succ]
        refine wpF_exec 10 rfl (by kernel_rfl) (by rfl) ?_
        intro K hK
        go_simp
        have hT4 : ∀ k, looks [(1, fun z => World.cell? z ⟨b4, 0, none⟩ = some (.slice a4 (frScan s.log).1.length cc4)), (5, fun z => World.cell? z ⟨b3, 0, none⟩ = some (.slice a2 O.length cc2)), (6, fun z => World.cell? z ⟨b4, 0, none⟩ = some (.slice a4 (frScan s.log).1.length cc4)), (7, fun z => World.cell? z ⟨b5, 0, none⟩ = some (.int .i64 0))] k ((((vj.setCell ⟨b2, 0, none⟩ (.pointer (some ⟨jj, 0, none⟩))).setCell ⟨b3, 0, none⟩ (.slice a2 O.length cc2)).setCell ⟨b4, 0, none⟩ (.slice a4 (frScan s.log).1.length cc4))) := looks_all ⟨((((hbj.set2 q (.pointer (some ⟨jj, 0, none⟩))).set3 q (.slice a2 O.length cc2)).set4 q (.slice a4 (frScan s.log).1.length cc4))).h4.cell 0 _ rfl, ((((hbj.set2 q (.pointer (some ⟨jj, 0, none⟩))).set3 q (.slice a2 O.length cc2)).set4 q (.slice a4 (frScan s.log).1.length cc4))).h3.cell 0 _ rfl, ((((hbj.set2 q (.pointer (some ⟨jj, 0, none⟩))).set3 q (.slice a2 O.length cc2)).set4 q (.slice a4 (frScan s.log).1.length cc4))).h4.cell 0 _ rfl, ((((hbj.set2 q (.pointer (some ⟨jj, 0, none⟩))).set3 q (.slice a2 O.length cc2)).set4 q (.slice a4 (frScan s.log).1.length cc4))).h5.cell 0 _ rfl, trivial⟩
        refine hK _ _ (looks [(1, fun z => World.cell? z ⟨b4, 0, none⟩ = some (.slice a4 (frScan s.log).1.length cc4)), (5, fun z => World.cell? z ⟨b3, 0, none⟩ = some (.slice a2 O.length cc2)), (6, fun z => World.cell? z ⟨b4, 0, none⟩ = some (.slice a4 (frScan s.log).1.length cc4)), (7, fun z => World.cell? z ⟨b5, 0, none⟩ = some (.int .i64 0))]) ⟨.inr (.inl (by kernel_rfl)), .inr (.inl (by kernel_rfl)), .inr (.inl (by kernel_rfl)), .inr (.inr (fun x h => h)), trivial⟩ hT4 ?_
        clear hK K
        try simp only [Act.put, List.setIfInBounds_toArray, List.set_cons_zero, List.set_cons_succ]
        refine wpF_exec 11 rfl (by kernel_rfl) (by rfl) ?_
        intro K hK
        go_simp
        have hT5 : ∀ k, looks [(1, fun z => World.cell? z ⟨b4, 0, none⟩ = some (.slice a4 (frScan s.log).1.length cc4)), (5, fun z => World.cell? z ⟨b3, 0, none⟩ = some (.slice a2 O.length cc2)), (6, fun z => World.cell? z ⟨b4, 0, none⟩ = some (.slice a4 (frScan s.log).1.length cc4)), (7, fun z => World.cell? z ⟨b5, 0, none⟩ = some (.int .i64 0))] k (((((vj.setCell ⟨b2, 0, none⟩ (.pointer (some ⟨jj, 0, none⟩))).setCell ⟨b3, 0, none⟩ (.slice a2 O.length cc2)).setCell ⟨b4, 0, none⟩ (.slice a4 (frScan s.log).1.length cc4)).setCell ⟨b5, 0, none⟩ (.int .i64 0))) := looks_all ⟨(((((hbj.set2 q (.pointer (some ⟨jj, 0, none⟩))).set3 q (.slice a2 O.length cc2)).set4 q (.slice a4 (frScan s.log).1.length cc4)).set5 q (.int .i64 0))).h4.cell 0 _ rfl, (((((hbj.set2 q (.pointer (some ⟨jj, 0, none⟩))).set3 q (.slice a2 O.length cc2)).set4 q (.slice a4 (frScan s.log).1.length cc4)).set5 q (.int .i64 0))).h3.cell 0 _ rfl, (((((hbj.set2 q (.pointer (some ⟨jj, 0, none⟩))).set3 q (.slice a2 O.length cc2)).set4 q (.slice a4 (frScan s.log).1.length cc4)).set5 q (.int .i64 0))).h4.cell 0 _ rfl, (((((hbj.set2 q (.pointer (some ⟨jj, 0, none⟩))).set3 q (.slice a2 O.length cc2)).set4 q (.slice a4 (frScan s.log).1.length cc4)).set5 q (.int .i64 0))).h5.cell 0 _ rfl, trivial⟩
        refine hK _ _ (looks [(1, fun z => World.cell? z ⟨b4, 0, none⟩ = some (.slice a4 (frScan s.log).1.length cc4)), (5, fun z => World.cell? z ⟨b3, 0, none⟩ = some (.slice a2 O.length cc2)), (6, fun z => World.cell? z ⟨b4, 0, none⟩ = some (.slice a4 (frScan s.log).1.length cc4)), (7, fun z => World.cell? z ⟨b5, 0, none⟩ = some (.int .i64 0))]) ⟨.inr (.inl (by kernel_rfl)), .inr (.inl (by kernel_rfl)), .inr (.inl (by kernel_rfl)), .inr (.inl (by kernel_rfl)), trivial⟩ hT5 ?_
        clear hK K
        try simp only [Act.put, List.setIfInBounds_toArray, List.set_cons_zero, List.set_cons_succ]
        refine wpF_done (by kernel_rfl) ?_ _
        refine ⟨(fun _ h => by cases h), ?_⟩
        clear c2 c3 c4 c5 f2 f3 f4 f5
        have hx4 : Ext (some4 b2 b3 b4 b5) vj ((((vj.setCell ⟨b2, 0, none⟩ (.pointer (some ⟨jj, 0, none⟩))).setCell ⟨b3, 0, none⟩ (.slice a2 O.length cc2)).setCell ⟨b4, 0, none⟩ (.slice a4 (frScan s.log).1.length cc4)).setCell ⟨b5, 0, none⟩ (.int .i64 0)) := (((((Ext.refl (some4 b2 b3 b4 b5) vj).comp (at2 vj b2 b3 b4 b5 (.pointer (some ⟨jj, 0, none⟩)))).comp (at3 (vj.setCell ⟨b2, 0, none⟩ (.pointer (some ⟨jj, 0, none⟩))) b2 b3 b4 b5 (.slice a2 O.length cc2))).comp (at4 ((vj.setCell ⟨b2, 0, none⟩ (.pointer (some ⟨jj, 0, none⟩))).setCell ⟨b3, 0, none⟩ (.slice a2 O.length cc2)) b2 b3 b4 b5 (.slice a4 (frScan s.log).1.length cc4))).comp (at5 (((vj.setCell ⟨b2, 0, none⟩ (.pointer (some ⟨jj, 0, none⟩))).setCell ⟨b3, 0, none⟩ (.slice a2 O.length cc2)).setCell ⟨b4, 0, none⟩ (.slice a4 (frScan s.log).1.length cc4)) b2 b3 b4 b5 (.int .i64 0)))
        have hb4 := ((((hbj.set2 q (.pointer (some ⟨jj, 0, none⟩))).set3 q (.slice a2 O.length cc2)).set4 q (.slice a4 (frScan s.log).1.length cc4)).set5 q (.int .i64 0))
        have hx5 := on4 q hxJ hx4
        have hD4 := dk4 qg hDj (fun k hk => .inl (h4N k hk)) hx4
        have hs4 := rd4' q hsaj hsf hx4
        have hl4 := ln4 q hlaj hx4
        have hj4 := zj.ext (by simp [jcells]) hx4 (fun hh => by obtain ⟨q1, q2, q3, q4⟩ := q; rcases hh with h | h | h | h <;> omega)
        have hjs := hx4.size
        go_wp2_with fail
        generalize ((((vj.setCell ⟨b2, 0, none⟩ (.pointer (some ⟨jj, 0, none⟩))).setCell ⟨b3, 0, none⟩ (.slice a2 O.length cc2)).setCell ⟨b4, 0, none⟩ (.slice a4 (frScan s.log).1.length cc4)).setCell ⟨b5, 0, none⟩ (.int .i64 0)) = ve at *
        refine leaves_cons (f := 42) (args := #[.pointer (some ⟨b5, 0, none⟩), .pointer (some ⟨b2, 0, none⟩), .pointer (some ⟨b3, 0, none⟩), .pointer (some ⟨b4, 0, none⟩)]) (by simp) (by simp [go_sem]) ?_
        refine (open1_ok ve b2 b3 b4 b5 hb4.h5).mono ?_
        rintro e u' w' ⟨rfl, rfl, rfl⟩
        refine ⟨_, results_cell4 rfl _ _ rfl rfl rfl rfl (ld_j _ _ _ hb4.h2) (ld_b _ _ _ hb4.h3) (ld_l _ _ _ hb4.h4) (ld_e _ _ _ hb4.h5), ?_⟩
        rw [Ho.out]
        exact ⟨_, a2, cc2, a4, cc4, rfl, ⟨hs4, fun ad ha => by have := hsf ad ha; obtain ⟨q1, q2, q3, q4⟩ := q; omega⟩, hl4.mono (by obtain ⟨q1, q2, q3, q4⟩ := q; omega), hx5, .inr ⟨rfl, jj, rfl, hjw, by omega, hj4, hD4.fewer (fun k _ hk => by rcases hk with hk | hk; exact .inl (.inl hk); exact .inr hk)⟩⟩
    · have dk : ((kk : Int) != 0) = true := by simp; omega
      have Ho := Lib.hid (show s.opens = (s, 10, [], []) by unfold DS.opens; rw [if_neg (by rw [hd]; simp), if_pos ⟨hs, by rw [HO.out]; exact hk⟩])
      have c2 := hb.h2.cell 0 _ rfl
      have c3 := hb.h3.cell 0 _ rfl
      have c4 := hb.h4.cell 0 _ rfl
      have c5 := hb.h5.cell 0 _ rfl
      have f2 := hb.h2.fr 0
      have f3 := hb.h3.fr 0
      have f4 := hb.h4.fr 0
      have f5 := hb.h5.fr 0
      go_wp2_with fail
      clear c2 c3 c4 c5 f2 f3 f4 f5
      have hx4 : Ext (some4 b2 b3 b4 b5) wz ((((wz.setCell ⟨b2, 0, none⟩ (.pointer none)).setCell ⟨b3, 0, none⟩ (.slice none 0 0)).setCell ⟨b4, 0, none⟩ (.slice none 0 0)).setCell ⟨b5, 0, none⟩ (.int .i64 10)) := (((((Ext.refl (some4 b2 b3 b4 b5) wz).comp (at2 wz b2 b3 b4 b5 (.pointer none))).comp (at3 (wz.setCell ⟨b2, 0, none⟩ (.pointer none)) b2 b3 b4 b5 (.slice none 0 0))).comp (at4 ((wz.setCell ⟨b2, 0, none⟩ (.pointer none)).setCell ⟨b3, 0, none⟩ (.slice none 0 0)) b2 b3 b4 b5 (.slice none 0 0))).comp (at5 (((wz.setCell ⟨b2, 0, none⟩ (.pointer none)).setCell ⟨b3, 0, none⟩ (.slice none 0 0)).setCell ⟨b4, 0, none⟩ (.slice none 0 0)) b2 b3 b4 b5 (.int .i64 10)))
      have hb4 := ((((hb.set2 q (.pointer none)).set3 q (.slice none 0 0)).set4 q (.slice none 0 0)).set5 q (.int .i64 10))
      replace hx := on4 q hx hx4
      replace hD := dk4 qg hD h4N hx4
      clear hx4
      generalize ((((wz.setCell ⟨b2, 0, none⟩ (.pointer none)).setCell ⟨b3, 0, none⟩ (.slice none 0 0)).setCell ⟨b4, 0, none⟩ (.slice none 0 0)).setCell ⟨b5, 0, none⟩ (.int .i64 10)) = we at *
      refine leaves_cons (f := 42) (args := #[.pointer (some ⟨b5, 0, none⟩), .pointer (some ⟨b2, 0, none⟩), .pointer (some ⟨b3, 0, none⟩), .pointer (some ⟨b4, 0, none⟩)]) (by simp) (by simp [go_sem]) ?_
      refine (open1_err we b2 b3 b4 b5 10 (by omega) _ _ _ hb4.h5 hb4.h2 hb4.h3 hb4.h4 (by have := q.n23; omega) (by have := q.n23; have := q.n34; omega) (by have := q.n34; omega)).mono ?_
      rintro e u' w' ⟨rfl, rfl, rfl⟩
      have hx6 : Ext (some4 b2 b3 b4 b5) we (((we.setCell ⟨b2, 0, none⟩ (.pointer none)).setCell ⟨b3, 0, none⟩ (.slice none 0 0)).setCell ⟨b4, 0, none⟩ (.slice none 0 0)) := ((((Ext.refl (some4 b2 b3 b4 b5) we).comp (at2 we b2 b3 b4 b5 (.pointer none))).comp (at3 (we.setCell ⟨b2, 0, none⟩ (.pointer none)) b2 b3 b4 b5 (.slice none 0 0))).comp (at4 ((we.setCell ⟨b2, 0, none⟩ (.pointer none)).setCell ⟨b3, 0, none⟩ (.slice none 0 0)) b2 b3 b4 b5 (.slice none 0 0)))
      have hb6 := (((hb4.set2 q (.pointer none)).set3 q (.slice none 0 0)).set4 q (.slice none 0 0))
      refine ⟨_, results_cell4 rfl _ _ rfl rfl rfl rfl (ld_j _ _ _ hb6.h2) (ld_b _ _ _ hb6.h3) (ld_l _ _ _ hb6.h4) (ld_e _ _ _ hb6.h5), ?_⟩
      rw [Ho.out]
      exact ⟨_, none, 0, none, 0, rfl, ⟨Rd.nil _ _, fun _ h => by cases h⟩, nilLists _ _, on4 q hx hx6, .inl ⟨by simp, rfl, (dk4 qg hD h4N hx6).fewer (fun k _ hk => .inl hk)⟩⟩
end Go.Proofs.Ytpljcnjkdjblmaa
