/- The walk of the reference's Open. -/
import Derived.Test.YtbmkmbankflbpaaJoA
namespace Go.Proofs.Ytbmkmbankflbpaa
open Go.RowKit Go.Esc
set_option linter.unusedVariables false

theorem results_tmp4 {fn : Func} {t u v x : Tmp} (h : fn.results = #[.tmp t, .tmp u, .tmp v, .tmp x]) (tmps : Array Value) (P : Program) (w : World) :
    (results fn tmps).run P w = .ok (.tuple #[tmps.getD t undef, tmps.getD u undef, tmps.getD v undef, tmps.getD x undef]) w := by
  simp [results, h]

/-- What the reference's Open leaves. -/
def ROpenEnd (w : World) (g : Nat) (N : Nat → Prop) (s s' : DS) (k : Nat) (p : List UInt8) (L : List (List UInt8)) (e : Ending) (w' : World) : Prop :=
  ∃ J sa sc la lc, e = .returned (.tuple #[J, .slice sa p.length sc, .slice la L.length lc, .int .i64 k]) ∧ (Rd w' sa (bs p) ∧ ∀ ad, sa = some ad → w.heap.size ≤ ad.block) ∧ ListsN w' w.heap.size la L ∧ Ext (just g) w w' ∧
    ((k ≠ 0 ∧ J = .pointer none ∧ Rk w' g s' N) ∨ (k = 0 ∧ ∃ j, J = .pointer (some ⟨j, 0, none⟩) ∧ w.heap.size ≤ j ∧ j < w'.heap.size ∧ Blk w' j (jcells g L.length) ∧ Rk w' g s' (fun i => N i ∨ i = j)))

theorem nilLists' (w : World) (B : Nat) : ListsN w B none [] := ⟨[], rfl, Rd.nil _ _, by simp, (fun _ h => by cases h), by simp⟩

/-- The end, from where all has been found. -/
theorem rk_box {w : World} {g : Nat} {s : DS} {N : Nat → Prop} (h : Rk w g s N) (n : Nat) :
    Rk (w.alloc (.cells #[.pointer (some ⟨g, 0, none⟩), .int .i64 n] 63)) g s (fun i => N i ∨ i = w.heap.size) ∧ Blk (w.alloc (.cells #[.pointer (some ⟨g, 0, none⟩), .int .i64 n] 63)) w.heap.size (jcells g n) :=
  ⟨(h.fewer (fun k hk hh => by rcases hh with hh | hh; exact hh; omega)).no (Ext.alloc no _ _), Blk.lit w _ _⟩

set_option maxHeartbeats 4000000 in
theorem refopen_any (w : World) (g : Nat) (s : DS) (N : Nat → Prop) (h : Rk w g s N) (hN : ∀ k, N k → k < w.heap.size) (hok : s.ok) :
    Calls Try.prog 23 #[.pointer (some ⟨g, 0, none⟩)] w (ROpenEnd w g N s s.opens.1 s.opens.2.1 s.opens.2.2.1 s.opens.2.2.2) := by
  have hgw := h.lt
  have hlog : s.log.length ≤ 16777216 := by have := hok.fits; have := hok.room; omega
  have hsnl : s.snap.length ≤ 16777216 := by have := hok.fits; have := hok.room; omega
  have hR := h
  obtain ⟨ev, la, lc, sa, sc, h0, hB, ⟨hl1, hl2, hl3, hl4⟩, ⟨hs1, hs2, hs3, hs4⟩⟩ := h
  have r6 := hB.cell 6 _ rfl
  go_enter Try.func23, Try.ntmps23
  by_cases hd : s.dead = true
  · have Ho := Lib.hid (show s.opens = (s, 18, [], []) by unfold DS.opens; rw [if_pos hd])
    rw [hd] at r6
    go_wp2_with fail
    refine bodyPost_ret (results_tmp4 rfl _ _ _) rfl ?_
    rw [Ho.out]
    exact ⟨_, none, 0, none, 0, rfl, ⟨Rd.nil _ _, fun _ h => by cases h⟩, nilLists' _ _, Ext.refl _ _, .inl ⟨by simp, rfl, hR⟩⟩
  rw [Bool.not_eq_true] at hd
  rw [hd] at r6
  have r3 := hB.cell 3 _ rfl
  have r1 := hB.cell 1 _ rfl
  by_cases hs : s.snap = []
  · have d0 : decide (0 < s.snap.length) = false := decF (by rw [hs]; simp)
    have Hp := Lib.hid (show s.opens = if (scan s.log).2 < s.log.length then (if (s.cut (scan s.log).2).2 ≠ 0 then ((s.cut (scan s.log).2).1, (s.cut (scan s.log).2).2, [], []) else ((s.cut (scan s.log).2).1, 0, [], (scan s.log).1)) else (s, 0, [], (scan s.log).1) by unfold DS.opens; rw [if_neg (by rw [hd]; simp), if_neg (by rw [hs]; simp), hs]; simp only [if_true])
    go_wp2_with fail
    refine (rscan_new w la lc s.log hl1 (by omega) hl2 hl3).mono ?_
    rintro e w4 ⟨a4, cc4, rfl, hla, hx4⟩
    have hsc := scan_le s.log.length s.log (Nat.le_refl _)
    --<A
    have hx04 := hx4
    have hR4 := hR.no hx04
    have hla4 := hla.mono (show w.heap.size ≤ w.heap.size from Nat.le_refl _)
    have hsa4 : Rd w4 none (bs ([] : List UInt8)) := Rd.nil _ _
    have hs4 := hx04.size
    replace r1 := hx4.keeps r1 (fun h => h)
    have rg := hR4.lt
    by_cases hcut : (scan s.log).2 < s.log.length
    · have d1 : decide (((scan s.log).2 : Int) < s.log.length) = true := decT (by omega)
      go_wp2_with fail
      refine (refcut_any w4 g s N hR4 (fun k hk => Nat.lt_of_lt_of_le (hN k hk) hs4) hok ((scan s.log).2 : Int) ⟨by omega, by omega⟩).mono ?_
      rintro e w6 ⟨rfl, hRe, hx6⟩
      obtain ⟨s2, kc, hr⟩ : ∃ s2 kc, s.cut ((scan s.log).2 : Int) = (s2, kc) := ⟨_, _, rfl⟩
      rw [hr] at hRe ⊢
      simp only at hRe ⊢
      have HoC := Lib.hid (show s.opens = if kc ≠ 0 then (s2, kc, [], []) else (s2, 0, ([] : List UInt8), (scan s.log).1) by rw [Hp.out, if_pos hcut, hr])
      clear hr d1
      have hsa6 : Rd w6 none (bs ([] : List UInt8)) := Rd.nil _ _
      have hla6 := hla4.ext hx6 (fun k hh => by simp only [Esc.just] at hh; omega)
      have hx06 : Ext (just g) w w6 := (hx04.mono (fun _ _ h => h.elim)).comp hx6
      have hs6 := hx6.size
      by_cases hk0 : kc = 0
      · subst hk0
        have Ho := Lib.hid (HoC.out.trans (if_neg (by simp)))
        have dk1 : (((0 : Nat) : Int) != 0) = false := rfl
        have hbx := rk_box hRe (scan s.log).1.length
        have hxb := Ext.alloc no w6 (.cells #[.pointer (some ⟨g, 0, none⟩), .int .i64 (scan s.log).1.length] 63)
        have hjl := hbx.2.lt (by simp [jcells])
        go_wp2_with fail
        refine bodyPost_ret (results_tmp4 rfl _ _ _) rfl ?_
        rw [Ho.out]
        exact ⟨_, none, 0, a4, cc4, rfl, ⟨hsa6.ext hxb (fun _ _ h => h), fun _ h => by cases h⟩, hla6.ext hxb (fun _ h => h.elim), hx06.comp (hxb.mono (fun _ _ h => h.elim)), .inr ⟨rfl, w6.heap.size, rfl, by omega, hjl, hbx.2, hbx.1⟩⟩
      · have Ho := Lib.hid (HoC.out.trans (if_pos hk0))
        have dk1 : ((kc : Int) != 0) = true := by simp; omega
        go_wp2_with fail
        refine bodyPost_ret (results_tmp4 rfl _ _ _) rfl ?_
        rw [Ho.out]
        exact ⟨_, none, 0, none, 0, rfl, ⟨Rd.nil _ _, fun _ h => by cases h⟩, nilLists' _ _, hx06, .inl ⟨hk0, rfl, hRe⟩⟩
    · have d1 : decide (((scan s.log).2 : Int) < s.log.length) = false := decF (by omega)
      have Ho := Lib.hid (show s.opens = (s, 0, ([] : List UInt8), (scan s.log).1) by rw [Hp.out, if_neg hcut])
      have hRe := hR4
      have hbx := rk_box hRe (scan s.log).1.length
      have hxb := Ext.alloc no w4 (.cells #[.pointer (some ⟨g, 0, none⟩), .int .i64 (scan s.log).1.length] 63)
      have hjl := hbx.2.lt (by simp [jcells])
      go_wp2_with fail
      refine bodyPost_ret (results_tmp4 rfl _ _ _) rfl ?_
      rw [Ho.out]
      exact ⟨_, none, 0, a4, cc4, rfl, ⟨hsa4.ext hxb (fun _ _ h => h), fun _ h => by cases h⟩, hla4.ext hxb (fun _ h => h.elim), (hx04.mono (fun _ _ h => h.elim)).comp (hxb.mono (fun _ _ h => h.elim)), .inr ⟨rfl, w4.heap.size, rfl, by omega, hjl, hbx.2, hbx.1⟩⟩
    -->A
  · have d0 : decide (0 < s.snap.length) = true := decT (by have := List.length_pos_iff.2 hs; omega)
    go_wp2_with fail
    refine (rone_any w sa sc s.snap hs1 (by omega) hs2).mono ?_
    rintro e w2 ⟨a2, cc2, rfl, hsa, hfr2, hx2⟩
    obtain ⟨O, kk, hO⟩ : ∃ O kk, one s.snap = (O, kk) := ⟨_, _, rfl⟩
    rw [hO] at hsa ⊢
    simp only at hsa ⊢
    have HO := Lib.hid hO
    clear hO
    by_cases hk : kk = 0
    rotate_left
    · have dk : ((kk : Int) != 0) = true := by simp; omega
      have Ho := Lib.hid (show s.opens = (s, 10, [], []) by unfold DS.opens; rw [if_neg (by rw [hd]; simp), if_pos ⟨hs, by rw [HO.out]; exact hk⟩])
      go_wp2_with fail
      refine bodyPost_ret (results_tmp4 rfl _ _ _) rfl ?_
      rw [Ho.out]
      exact ⟨_, none, 0, none, 0, rfl, ⟨Rd.nil _ _, fun _ h => by cases h⟩, nilLists' _ _, hx2.mono (fun _ _ h => h.elim), .inl ⟨by simp, rfl, hR.no hx2⟩⟩
    subst hk
    have dk0 : (((0 : Nat) : Int) != 0) = false := rfl
    have Hp := Lib.hid (show s.opens = if (scan s.log).2 < s.log.length then (if (s.cut (scan s.log).2).2 ≠ 0 then ((s.cut (scan s.log).2).1, (s.cut (scan s.log).2).2, [], []) else ((s.cut (scan s.log).2).1, 0, O, (scan s.log).1)) else (s, 0, O, (scan s.log).1) by unfold DS.opens; rw [if_neg (by rw [hd]; simp), if_neg (by rw [HO.out]; simp), if_neg hs, HO.out])
    replace r1 := hx2.keeps r1 (fun h => h)
    go_wp2_with fail
    refine (rscan_new w2 la lc s.log (hl1.ext hx2 (fun _ _ h => h)) (by omega) hl2 hl3).mono ?_
    rintro e w4 ⟨a4, cc4, rfl, hla, hx4⟩
    have hsc := scan_le s.log.length s.log (Nat.le_refl _)
    --<B
    have hx04 := hx2.comp hx4
    have hR4 := hR.no hx04
    have hla4 := hla.mono (show w.heap.size ≤ w2.heap.size from hx2.size)
    have hsa4 : Rd w4 a2 (bs O) := hsa.ext hx4 (fun _ _ h => h)
    have hs4 := hx04.size
    replace r1 := hx4.keeps r1 (fun h => h)
    have rg := hR4.lt
    by_cases hcut : (scan s.log).2 < s.log.length
    · have d1 : decide (((scan s.log).2 : Int) < s.log.length) = true := decT (by omega)
      go_wp2_with fail
      refine (refcut_any w4 g s N hR4 (fun k hk => Nat.lt_of_lt_of_le (hN k hk) hs4) hok ((scan s.log).2 : Int) ⟨by omega, by omega⟩).mono ?_
      rintro e w6 ⟨rfl, hRe, hx6⟩
      obtain ⟨s2, kc, hr⟩ : ∃ s2 kc, s.cut ((scan s.log).2 : Int) = (s2, kc) := ⟨_, _, rfl⟩
      rw [hr] at hRe ⊢
      simp only at hRe ⊢
      have HoC := Lib.hid (show s.opens = if kc ≠ 0 then (s2, kc, [], []) else (s2, 0, O, (scan s.log).1) by rw [Hp.out, if_pos hcut, hr])
      clear hr d1
      have hsa6 : Rd w6 a2 (bs O) := hsa4.ext hx6 (fun ad ha hh => by have := hfr2 ad ha; simp only [Esc.just] at hh; omega)
      have hla6 := hla4.ext hx6 (fun k hh => by simp only [Esc.just] at hh; omega)
      have hx06 : Ext (just g) w w6 := (hx04.mono (fun _ _ h => h.elim)).comp hx6
      have hs6 := hx6.size
      by_cases hk0 : kc = 0
      · subst hk0
        have Ho := Lib.hid (HoC.out.trans (if_neg (by simp)))
        have dk1 : (((0 : Nat) : Int) != 0) = false := rfl
        have hbx := rk_box hRe (scan s.log).1.length
        have hxb := Ext.alloc no w6 (.cells #[.pointer (some ⟨g, 0, none⟩), .int .i64 (scan s.log).1.length] 63)
        have hjl := hbx.2.lt (by simp [jcells])
        go_wp2_with fail
        refine bodyPost_ret (results_tmp4 rfl _ _ _) rfl ?_
        rw [Ho.out]
        exact ⟨_, a2, cc2, a4, cc4, rfl, ⟨hsa6.ext hxb (fun _ _ h => h), fun ad ha => hfr2 ad ha⟩, hla6.ext hxb (fun _ h => h.elim), hx06.comp (hxb.mono (fun _ _ h => h.elim)), .inr ⟨rfl, w6.heap.size, rfl, by omega, hjl, hbx.2, hbx.1⟩⟩
      · have Ho := Lib.hid (HoC.out.trans (if_pos hk0))
        have dk1 : ((kc : Int) != 0) = true := by simp; omega
        go_wp2_with fail
        refine bodyPost_ret (results_tmp4 rfl _ _ _) rfl ?_
        rw [Ho.out]
        exact ⟨_, none, 0, none, 0, rfl, ⟨Rd.nil _ _, fun _ h => by cases h⟩, nilLists' _ _, hx06, .inl ⟨hk0, rfl, hRe⟩⟩
    · have d1 : decide (((scan s.log).2 : Int) < s.log.length) = false := decF (by omega)
      have Ho := Lib.hid (show s.opens = (s, 0, O, (scan s.log).1) by rw [Hp.out, if_neg hcut])
      have hRe := hR4
      have hbx := rk_box hRe (scan s.log).1.length
      have hxb := Ext.alloc no w4 (.cells #[.pointer (some ⟨g, 0, none⟩), .int .i64 (scan s.log).1.length] 63)
      have hjl := hbx.2.lt (by simp [jcells])
      go_wp2_with fail
      refine bodyPost_ret (results_tmp4 rfl _ _ _) rfl ?_
      rw [Ho.out]
      exact ⟨_, a2, cc2, a4, cc4, rfl, ⟨hsa4.ext hxb (fun _ _ h => h), fun ad ha => hfr2 ad ha⟩, hla4.ext hxb (fun _ h => h.elim), (hx04.mono (fun _ _ h => h.elim)).comp (hxb.mono (fun _ _ h => h.elim)), .inr ⟨rfl, w4.heap.size, rfl, by omega, hjl, hbx.2, hbx.1⟩⟩
    -->B
end Go.Proofs.Ytbmkmbankflbpaa
