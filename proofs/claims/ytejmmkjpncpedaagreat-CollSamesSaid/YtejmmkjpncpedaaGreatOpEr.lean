/- Walks: Text of escrowref5, Check of escrowref9. -/
import Derived.Test.YtejmmkjpncpedaaGreatOpE
namespace Go.Proofs.YtejmmkjpncpedaaGreat
open Go.RowKit Go.Esc
set_option linter.unusedVariables false
theorem reftext_any (w : World) (s : List UInt8) (hs : s.length ≤ maxLen) :
    Calls Tryz.prog 65 #[.string (str s)] w fun e w' => e = .returned (.bool (textOk s)) ∧ w = w' := by
  unfold maxLen at hs
  by_cases h40 : s.length ≤ 40
  rotate_left
  · have Hr := Lib.hid (show textOk s = false by
      cases h : textOk s with
      | false => rfl
      | true => have := ((textOk_iff s).1 h).1; omega)
    have d4 : decide ((40 : Int) < ((str s).size : Int)) = true := decT (by rw [str_size]; omega)
    go_enter Tryz.func65, Tryz.ntmps65
    go_wp2_with fail
    go_ret
    exact ⟨by rw [Hr.out]; rfl, rfl⟩
  have d4 : decide ((40 : Int) < ((str s).size : Int)) = false := decF (by rw [str_size]; omega)
  go_enter Tryz.func65, Tryz.ntmps65
  go_wp2_with fail
  go_loopw [3] (fun s6 wr => ∃ j : Nat, j ≤ s.length ∧ s6 = .int .i64 j ∧ (∀ i b, i < j → s[i]? = some b → 32 ≤ b.toNat ∧ b.toNat ≠ 127) ∧ wr = w) (fun s6 _ => s.length - (intOf s6).toNat)
  case atStart => exact ⟨0, by omega, rfl, fun i b h => absurd h (by omega), rfl⟩
  case round =>
    obtain ⟨j, hj, rfl, hgo, rfl⟩ := hrel
    by_cases hjl : j < s.length
    · obtain ⟨b, hb⟩ : ∃ b, s[j]? = some b := ⟨_, List.getElem?_eq_getElem hjl⟩
      have d1 : decide (j < (str s).size) = true := decT (by rw [str_size]; omega)
      have q1 := str_index wr s j b hb
      by_cases hlo : b.toNat < 32
      · have Hr := Lib.hid (show textOk s = false by
          cases h : textOk s with
          | false => rfl
          | true => have := ((textOk_iff s).1 h).2 j b hb; omega)
        have d2 : decide ((b.toNat : Int) < 32) = true := decT (by omega)
        go_wp2_with fail
        go_ret
        exact ⟨by rw [Hr.out]; rfl, rfl⟩
      · have d2 : decide ((b.toNat : Int) < 32) = false := decF (by omega)
        by_cases hde : b.toNat = 127
        · have Hr := Lib.hid (show textOk s = false by
            cases h : textOk s with
            | false => rfl
            | true => have := ((textOk_iff s).1 h).2 j b hb; omega)
          have Hd := Lib.hid hde
          have d3 : ((b.toNat : Int) == 127) = true := by rw [beq_iff_eq]; have := Hd.out; omega
          clear hde
          go_wp2_with fail
          go_ret
          exact ⟨by rw [Hr.out]; rfl, rfl⟩
        · have d3 : ((b.toNat : Int) == 127) = false := by rw [beq_eq_false_iff_ne]; omega
          go_wp2_with fail
          go_roundw
          case rel => exact ⟨j + 1, by omega, by go_num, fun i c hi hc => by
            by_cases e : i = j
            · subst e; rw [hb] at hc; cases hc; omega
            · exact hgo i c (by omega) hc, trivial⟩
          case measure => simp [intOf]; omega
    · have d1 : decide (j < (str s).size) = false := decF (by rw [str_size]; omega)
      have Hr := Lib.hid (show textOk s = true from (textOk_iff s).2 ⟨h40, fun i b hb => hgo i b (by have := (List.getElem?_eq_some_iff.1 hb).1; omega) hb⟩)
      skip
      go_wp2_with fail
      go_ret
      exact ⟨by rw [Hr.out]; rfl, rfl⟩
set_option maxRecDepth 100000 in
set_option maxHeartbeats 8000000 in
theorem refcheck_any (w : World) (o : OpR) (a : Option Addr) (c : Nat) (h : Rd w a (ds o.dots)) (hl : o.dots.length ≤ 1099511627776) (hks : o.key.length ≤ maxLen) (hts : o.text.length ≤ maxLen) :
    Calls Tryz.prog 28 #[o.v a c] w fun e w' => e = .returned (.int .i64 (checkOp o)) ∧ Ext no w w' := by
  go_enter Tryz.func28, Tryz.ntmps28
  unfold OpR.v
  go_upto_region 2 with fail
  have hb1 := Blk.lit w #[.int .i64 o.dot.dev, .int .i64 o.dot.ep, .int .i64 o.dot.seq, .int .i64 o.coll, .int .i64 o.ver, .int .i64 o.kind, .string (str o.key), .string (str o.text), .int .i64 o.n, .int .i64 o.time, .slice a o.dots.length c] 51
  have hx1 := Ext.alloc no w (.cells #[.int .i64 o.dot.dev, .int .i64 o.dot.ep, .int .i64 o.dot.seq, .int .i64 o.coll, .int .i64 o.ver, .int .i64 o.kind, .string (str o.key), .string (str o.text), .int .i64 o.n, .int .i64 o.time, .slice a o.dots.length c] 51)
  have hb2 := Blk.at (w.alloc (.cells #[.int .i64 o.dot.dev, .int .i64 o.dot.ep, .int .i64 o.dot.seq, .int .i64 o.coll, .int .i64 o.ver, .int .i64 o.kind, .string (str o.key), .string (str o.text), .int .i64 o.n, .int .i64 o.time, .slice a o.dots.length c] 51)) #[.int .i64 o.dot.dev, .int .i64 o.dot.ep, .int .i64 o.dot.seq] 39 (w.heap.size + 1) (by simp)
  have hx2 := Ext.alloc no (w.alloc (.cells #[.int .i64 o.dot.dev, .int .i64 o.dot.ep, .int .i64 o.dot.seq, .int .i64 o.coll, .int .i64 o.ver, .int .i64 o.kind, .string (str o.key), .string (str o.text), .int .i64 o.n, .int .i64 o.time, .slice a o.dots.length c] 51)) (.cells #[.int .i64 o.dot.dev, .int .i64 o.dot.ep, .int .i64 o.dot.seq] 39)
  have hb1' := hb1.ext (by simp) hx2 (fun h => h)
  have hx := hx1.comp hx2
  clear hb1 hx1 hx2
  generalize (w.alloc (.cells #[.int .i64 o.dot.dev, .int .i64 o.dot.ep, .int .i64 o.dot.seq, .int .i64 o.coll, .int .i64 o.ver, .int .i64 o.kind, .string (str o.key), .string (str o.text), .int .i64 o.n, .int .i64 o.time, .slice a o.dots.length c] 51)).alloc (.cells #[.int .i64 o.dot.dev, .int .i64 o.dot.ep, .int .i64 o.dot.seq] 39) = w1 at *
  have b0 := hb1'.cell 0 _ rfl
  have b1 := hb1'.cell 1 _ rfl
  have b2 := hb1'.cell 2 _ rfl
  have b3 := hb1'.cell 3 _ rfl
  have b4 := hb1'.cell 4 _ rfl
  have b5 := hb1'.cell 5 _ rfl
  have b6 := hb1'.cell 6 _ rfl
  have b7 := hb1'.cell 7 _ rfl
  have b8 := hb1'.cell 8 _ rfl
  have b9 := hb1'.cell 9 _ rfl
  have b10 := hb1'.cell 10 _ rfl
  have e0 := hb2.cell 0 _ rfl
  have e1 := hb2.cell 1 _ rfl
  have e2 := hb2.cell 2 _ rfl
  clear hb1' hb2
  have hr := h.ext hx (fun _ _ h => h)
  clear h
  generalize w.heap.size = cb at *
  by_cases g0 : 0 ≤ o.dot.dev ∧ o.dot.dev ≤ 5
  rotate_left
  · have Hr := Lib.hid (show checkOp o = 1 by unfold checkOp headOk; rw [if_pos (by intro hh; exact g0 hh.1.1.1.1.1)])
    by_cases gl : o.dot.dev < 0
    · have lo0 : decide (o.dot.dev < 0) = true := decT gl
      clear g0 gl
      go_wp2_with fail
      go_ret
      exact ⟨by rw [Hr.out]; rfl, hx⟩
    · have lo0 : decide (o.dot.dev < 0) = false := decF gl
      have hi0 : decide ((6 : Int) ≤ o.dot.dev) = true := decT (by omega)
      clear g0 gl
      go_wp2_with fail
      go_ret
      exact ⟨by rw [Hr.out]; rfl, hx⟩
  have lo0 : decide (o.dot.dev < 0) = false := decF (by omega)
  have hi0 : decide ((6 : Int) ≤ o.dot.dev) = false := decF (by omega)
  have G0 := Lib.hid g0
  clear g0
  by_cases g1 : 1 ≤ o.dot.ep ∧ o.dot.ep ≤ 1073741824
  rotate_left
  · have Hr := Lib.hid (show checkOp o = 1 by unfold checkOp headOk; rw [if_pos (by intro hh; exact g1 hh.1.1.1.1.2)])
    by_cases gl : o.dot.ep < 1
    · have lo1 : decide (o.dot.ep < 1) = true := decT gl
      clear g1 gl
      go_wp2_with fail
      go_ret
      exact ⟨by rw [Hr.out]; rfl, hx⟩
    · have lo1 : decide (o.dot.ep < 1) = false := decF gl
      have hi1 : decide ((1073741824 : Int) < o.dot.ep) = true := decT (by omega)
      clear g1 gl
      go_wp2_with fail
      go_ret
      exact ⟨by rw [Hr.out]; rfl, hx⟩
  have lo1 : decide (o.dot.ep < 1) = false := decF (by omega)
  have hi1 : decide ((1073741824 : Int) < o.dot.ep) = false := decF (by omega)
  have G1 := Lib.hid g1
  clear g1
  by_cases g2 : 1 ≤ o.dot.seq ∧ o.dot.seq ≤ 1073741824
  rotate_left
  · have Hr := Lib.hid (show checkOp o = 1 by unfold checkOp headOk; rw [if_pos (by intro hh; exact g2 hh.1.1.1.2)])
    by_cases gl : o.dot.seq < 1
    · have lo2 : decide (o.dot.seq < 1) = true := decT gl
      clear g2 gl
      go_wp2_with fail
      go_ret
      exact ⟨by rw [Hr.out]; rfl, hx⟩
    · have lo2 : decide (o.dot.seq < 1) = false := decF gl
      have hi2 : decide ((1073741824 : Int) < o.dot.seq) = true := decT (by omega)
      clear g2 gl
      go_wp2_with fail
      go_ret
      exact ⟨by rw [Hr.out]; rfl, hx⟩
  have lo2 : decide (o.dot.seq < 1) = false := decF (by omega)
  have hi2 : decide ((1073741824 : Int) < o.dot.seq) = false := decF (by omega)
  have G2 := Lib.hid g2
  clear g2
  by_cases g3 : 0 ≤ o.coll ∧ o.coll ≤ 2
  rotate_left
  · have Hr := Lib.hid (show checkOp o = 1 by unfold checkOp headOk; rw [if_pos (by intro hh; exact g3 hh.1.1.2)])
    by_cases gl : o.coll < 0
    · have lo3 : decide (o.coll < 0) = true := decT gl
      clear g3 gl
      go_wp2_with fail
      go_ret
      exact ⟨by rw [Hr.out]; rfl, hx⟩
    · have lo3 : decide (o.coll < 0) = false := decF gl
      have hi3 : decide ((3 : Int) ≤ o.coll) = true := decT (by omega)
      clear g3 gl
      go_wp2_with fail
      go_ret
      exact ⟨by rw [Hr.out]; rfl, hx⟩
  have lo3 : decide (o.coll < 0) = false := decF (by omega)
  have hi3 : decide ((3 : Int) ≤ o.coll) = false := decF (by omega)
  have G3 := Lib.hid g3
  clear g3
  by_cases g4 : 1 ≤ o.ver ∧ o.ver ≤ 3
  rotate_left
  · have Hr := Lib.hid (show checkOp o = 1 by unfold checkOp headOk; rw [if_pos (by intro hh; exact g4 hh.1.2)])
    by_cases gl : o.ver < 1
    · have lo4 : decide (o.ver < 1) = true := decT gl
      clear g4 gl
      go_wp2_with fail
      go_ret
      exact ⟨by rw [Hr.out]; rfl, hx⟩
    · have lo4 : decide (o.ver < 1) = false := decF gl
      have hi4 : decide ((3 : Int) < o.ver) = true := decT (by omega)
      clear g4 gl
      go_wp2_with fail
      go_ret
      exact ⟨by rw [Hr.out]; rfl, hx⟩
  have lo4 : decide (o.ver < 1) = false := decF (by omega)
  have hi4 : decide ((3 : Int) < o.ver) = false := decF (by omega)
  have G4 := Lib.hid g4
  clear g4
  by_cases g5 : 0 ≤ o.time ∧ o.time ≤ 1099511627776
  rotate_left
  · have Hr := Lib.hid (show checkOp o = 1 by unfold checkOp headOk; rw [if_pos (by intro hh; exact g5 hh.2)])
    by_cases gl : o.time < 0
    · have lo5 : decide (o.time < 0) = true := decT gl
      clear g5 gl
      go_wp2_with fail
      go_ret
      exact ⟨by rw [Hr.out]; rfl, hx⟩
    · have lo5 : decide (o.time < 0) = false := decF gl
      have hi5 : decide ((1099511627776 : Int) < o.time) = true := decT (by omega)
      clear g5 gl
      go_wp2_with fail
      go_ret
      exact ⟨by rw [Hr.out]; rfl, hx⟩
  have lo5 : decide (o.time < 0) = false := decF (by omega)
  have hi5 : decide ((1099511627776 : Int) < o.time) = false := decF (by omega)
  have G5 := Lib.hid g5
  clear g5
  have hh := Lib.hid (show headOk o from ⟨⟨⟨⟨⟨G0.out, G1.out⟩, G2.out⟩, G3.out⟩, G4.out⟩, G5.out⟩)
  go_upto_region 4 with fail
  clear lo0 lo1 lo2 lo3 lo4 lo5 hi0 hi1 hi2 hi3 hi4 hi5 G0 G1 G2 G3 G4 G5 e0 e1 e2
  by_cases g6 : 1 ≤ o.kind ∧ o.kind ≤ 5
  rotate_left
  · have Hr := Lib.hid (show checkOp o = 3 by unfold checkOp; rw [if_neg (fun h => h hh.out), if_pos g6])
    by_cases gl : o.kind < 1
    · have lo : decide (o.kind < 1) = true := decT gl
      clear g6 gl
      go_wp2_with fail
      go_ret
      exact ⟨by rw [Hr.out]; rfl, hx⟩
    · have lo : decide (o.kind < 1) = false := decF gl
      have hi : decide ((5 : Int) < o.kind) = true := decT (by omega)
      clear g6 gl
      go_wp2_with fail
      go_ret
      exact ⟨by rw [Hr.out]; rfl, hx⟩
  have lo : decide (o.kind < 1) = false := decF (by omega)
  have hi : decide ((5 : Int) < o.kind) = false := decF (by omega)
  have G6 := Lib.hid g6
  clear g6
  go_wp2_with fail
  refine (reftext_any w1 o.key hks).mono ?_
  rintro e w2 ⟨rfl, rfl⟩
  cases g7 : textOk o.key with
  | false =>
    have Hr := Lib.hid (show checkOp o = 5 by unfold checkOp; rw [if_neg (fun h => h hh.out), if_neg (fun h => h G6.out), if_pos (by rw [g7]; simp)])
    go_wp2_with fail
    go_ret
    exact ⟨by rw [Hr.out]; rfl, hx⟩
  | true =>
    go_wp2_with fail
    refine (reftext_any w1 o.text hts).mono ?_
    rintro e w2 ⟨rfl, rfl⟩
    cases g8 : textOk o.text with
    | false =>
      have Hr := Lib.hid (show checkOp o = 5 by unfold checkOp; rw [if_neg (fun h => h hh.out), if_neg (fun h => h G6.out), if_pos (by rw [g8]; simp)])
      go_wp2_with fail
      go_ret
      exact ⟨by rw [Hr.out]; rfl, hx⟩
    | true =>
      have Hc := Lib.hid (show checkOp o = kindErr o by unfold checkOp; rw [if_neg (fun h => h hh.out), if_neg (fun h => h G6.out), if_neg (by rw [g7, g8]; simp)])
      clear g7 g8
      go_upto_region 8 with fail
      clear lo hi
      by_cases hkey : o.key = []
      · have s0 := beqEmptyT hkey
        by_cases h5 : o.kind = 5
        · have Hk := Lib.hid (show ¬ (o.kind ≠ 5 ∧ o.key = []) from fun h => h.1 h5)
          rw [h5] at b5
          by_cases gl : o.n < 0
          · have Hr := Lib.hid (show kindErr o = 11 by unfold kindErr; rw [if_neg Hk.out, if_neg (by omega), if_neg (by omega), if_pos h5, if_neg (by omega)])
            have lo : decide (o.n < 0) = true := decT gl
            clear gl h5
            go_wp2_with fail
            go_ret
            exact ⟨by rw [Hc.out, Hr.out]; rfl, hx⟩
          · have lo : decide (o.n < 0) = false := decF gl
            by_cases gh : 1000 ≤ o.n
            · have Hr := Lib.hid (show kindErr o = 11 by unfold kindErr; rw [if_neg Hk.out, if_neg (by omega), if_neg (by omega), if_pos h5, if_neg (by omega)])
              have hi : decide ((1000 : Int) ≤ o.n) = true := decT gh
              clear gl gh h5
              go_wp2_with fail
              go_ret
              exact ⟨by rw [Hc.out, Hr.out]; rfl, hx⟩
            · have Hr := Lib.hid (show kindErr o = 0 by unfold kindErr; rw [if_neg Hk.out, if_neg (by omega), if_neg (by omega), if_pos h5, if_pos (by omega)])
              have hi : decide ((1000 : Int) ≤ o.n) = false := decF gh
              clear gl gh h5
              go_wp2_with fail
              go_ret
              exact ⟨by rw [Hc.out, Hr.out]; rfl, hx⟩
        · have Hr := Lib.hid (show kindErr o = 1 by unfold kindErr; rw [if_pos ⟨h5, hkey⟩])
          have n5 : (o.kind != 5) = true := by rw [bne_iff_ne]; exact h5
          clear hkey h5
          go_wp2_with fail
          go_ret
          exact ⟨by rw [Hc.out, Hr.out]; rfl, hx⟩
      · have s0 := beqEmptyF hkey
        have Hk := Lib.hid (show ¬ (o.kind ≠ 5 ∧ o.key = []) from fun h => hkey h.2)
        clear hkey
        have h15 : o.kind = 1 ∨ o.kind = 2 ∨ o.kind = 3 ∨ o.kind = 4 ∨ o.kind = 5 := by have := G6.out; omega
        rcases h15 with h5 | h5 | h5 | h5 | h5
        · have Hr := Lib.hid (show kindErr o = 0 by unfold kindErr; rw [if_neg Hk.out, if_neg (by omega), if_neg (by omega), if_neg (by omega)])
          rw [h5] at b5
          clear h5
          go_wp2_with fail
          go_ret
          exact ⟨by rw [Hc.out, Hr.out]; rfl, hx⟩
        · have Hr := Lib.hid (show kindErr o = 0 by unfold kindErr; rw [if_neg Hk.out, if_neg (by omega), if_neg (by omega), if_neg (by omega)])
          rw [h5] at b5
          clear h5
          go_wp2_with fail
          go_ret
          exact ⟨by rw [Hc.out, Hr.out]; rfl, hx⟩
        · have Hr := Lib.hid (show kindErr o = dotsErr o.dots by unfold kindErr; rw [if_neg Hk.out, if_pos h5])
          rw [h5] at b5
          clear h5
          by_cases h8 : 8 < o.dots.length
          · have Hd := Lib.hid (show dotsErr o.dots = 4 by unfold dotsErr; rw [if_pos h8])
            have d8 : decide ((8 : Int) < o.dots.length) = true := decT (by omega)
            go_wp2_with fail
            go_ret
            exact ⟨by rw [Hc.out, Hr.out, Hd.out]; rfl, hx⟩
          have d8 : decide ((8 : Int) < o.dots.length) = false := decF (by omega)
          have HH := Lib.hid (show checkOp o = dotsErr o.dots by rw [Hc.out, Hr.out])
          clear Hc Hr Hk G6 hh
          go_wp2_with fail
          go_loopw [4] (fun s4 wr => ∃ i : Nat, 1 ≤ i ∧ (0 < o.dots.length → i ≤ o.dots.length) ∧ s4 = .int .i64 i ∧ (∀ (j : Nat) (a b : DotR), j + 1 < i → o.dots[j]? = some a → o.dots[j + 1]? = some b → a.lt b = true) ∧ Ext no w1 wr) (fun s4 _ => o.dots.length - (intOf s4).toNat)
          case atStart => exact ⟨1, by omega, by omega, rfl, fun j a b hj => absurd hj (by omega), Ext.refl _ _⟩
          case round =>
            obtain ⟨i, hi1, hi, rfl, hgo, hx2⟩ := hrel
            have c10 := hx2.keeps b10 (fun h => h)
            by_cases hil : i < o.dots.length
            · obtain ⟨m, rfl⟩ : ∃ m, i = m + 1 := ⟨i - 1, by omega⟩
              have d1 : decide (m + 1 < o.dots.length) = true := decT hil
              have hr2 := hr.ext hx2 (fun _ _ h => h)
              obtain ⟨ab, ao, rfl, hlt⟩ := ds_shape hr2 (by omega)
              have hm1 : m < o.dots.length := by omega
              obtain ⟨x, hxm⟩ : ∃ x, o.dots[m]? = some x := ⟨_, List.getElem?_eq_getElem hm1⟩
              obtain ⟨y, hym⟩ : ∃ y, o.dots[m + 1]? = some y := ⟨_, List.getElem?_eq_getElem hil⟩
              have x0 := ds_cell hr2 hxm 0 _ rfl
              have x1 := ds_cell hr2 hxm 1 _ rfl
              have x2 := ds_cell hr2 hxm 2 _ rfl
              have y0 := ds_cell hr2 hym 0 _ rfl
              have y1 := ds_cell hr2 hym 1 _ rfl
              have y2 := ds_cell hr2 hym 2 _ rfl
              rw [Nat.add_zero] at x0 y0
              have hS0 := Ext.drew no wr
              cases hlt2 : x.lt y with
              | true =>
                have HL := Lib.hid hlt2
                go_upto_region 17 with fail
                --<T
                refine wp_region_E [1, 5, 7, 10] (fun z => Ext no wr z) (by kernel_rfl) ?_
                refine wpE_take 0 (v := ?_) rfl (by kernel_rfl) (by kernel_rfl) (by kernel_rfl) (fun _ _ _ h => h) hS0 (by rfl) ?_ ?_
                rotate_left
                · (intro wq; go_simp; try with_reducible rfl)
                simp only [pz]
                refine wpE_look 1 (v := .slice (some ⟨ab, ao, none⟩) o.dots.length c) rfl rfl (by kernel_rfl) (by kernel_rfl) (by kernel_rfl) (by kernel_rfl) (fun _ _ _ h => h) hS0 (by rfl) (fun w hS => by have q := hS.keeps c10 (fun h => h); go_simp) ?_
                simp only [pz]
                refine wpE_take 2 (v := ?_) rfl (by kernel_rfl) (by kernel_rfl) (by kernel_rfl) (fun _ _ _ h => h) hS0 (by rfl) ?_ ?_
                rotate_left
                · (intro wq; go_simp; try with_reducible rfl)
                simp only [pz]
                refine wpE_take 3 (v := .int .i64 (m : Int)) rfl (by kernel_rfl) (by kernel_rfl) (by kernel_rfl) (fun _ _ _ h => h) hS0 (by rfl) (by intro wq; go_simp; rw [IntKind.wrap_i64]; omega) ?_
                simp only [pz]
                refine wpE_take 4 (v := .pointer (some ⟨ab, ao + m * 3, none⟩)) rfl (by kernel_rfl) (by kernel_rfl) (by kernel_rfl) (fun _ _ _ h => h) hS0 (by rfl) (by intro wq; go_simp) ?_
                simp only [pz]
                refine wpE_look 5 (v := .agg #[.int .i64 x.dev, .int .i64 x.ep, .int .i64 x.seq]) rfl rfl (by kernel_rfl) (by kernel_rfl) (by kernel_rfl) (by kernel_rfl) (fun _ _ _ h => h) hS0 (by rfl) (fun w hS => by have q0 := hS.keeps x0 (fun h => h); have q1 := hS.keeps x1 (fun h => h); have q2 := hS.keeps x2 (fun h => h); go_simp) ?_
                simp only [pz]
                refine wpE_take 6 (v := ?_) rfl (by kernel_rfl) (by kernel_rfl) (by kernel_rfl) (fun _ _ _ h => h) hS0 (by rfl) ?_ ?_
                rotate_left
                · (intro wq; go_simp; try with_reducible rfl)
                simp only [pz]
                refine wpE_look 7 (v := .slice (some ⟨ab, ao, none⟩) o.dots.length c) rfl rfl (by kernel_rfl) (by kernel_rfl) (by kernel_rfl) (by kernel_rfl) (fun _ _ _ h => h) hS0 (by rfl) (fun w hS => by have q := hS.keeps c10 (fun h => h); go_simp) ?_
                simp only [pz]
                refine wpE_take 8 (v := ?_) rfl (by kernel_rfl) (by kernel_rfl) (by kernel_rfl) (fun _ _ _ h => h) hS0 (by rfl) ?_ ?_
                rotate_left
                · (intro wq; go_simp; try with_reducible rfl)
                simp only [pz]
                refine wpE_take 9 (v := .pointer (some ⟨ab, ao + (m + 1) * 3, none⟩)) rfl (by kernel_rfl) (by kernel_rfl) (by kernel_rfl) (fun _ _ _ h => h) hS0 (by rfl) (by intro wq; go_simp; try (intro hh; omega)) ?_
                simp only [pz]
                refine wpE_look 10 (v := .agg #[.int .i64 y.dev, .int .i64 y.ep, .int .i64 y.seq]) rfl rfl (by kernel_rfl) (by kernel_rfl) (by kernel_rfl) (by kernel_rfl) (fun _ _ _ h => h) hS0 (by rfl) (fun w hS => by have q0 := hS.keeps y0 (fun h => h); have q1 := hS.keeps y1 (fun h => h); have q2 := hS.keeps y2 (fun h => h); go_simp) ?_
                simp only [pz]
                refine wpE_exec 11 rfl (by kernel_rfl) (by rfl) ?_
                intro K hK
                go_simp
                refine (less_any wr.drew x y).mono ?_
                rintro e w5 ⟨rfl, hx5⟩
                rw [hlt2]
                have hS1 := hS0.comp hx5
                refine hK _ _ (fun z => Ext no wr z) (.inr (fun z h => h)) hS1 ?_
                clear hK K
                refine wpE_take 12 (v := ?_) rfl (by kernel_rfl) (by kernel_rfl) (by kernel_rfl) (fun _ _ _ h => h) hS1 (by rfl) ?_ ?_
                rotate_left
                · (intro wq; go_simp; try with_reducible rfl)
                simp only [pz]
                refine wpE_done (by kernel_rfl) ?_ _
                go_wp2_with fail
                go_roundw
                case rel => exact ⟨m + 1 + 1, by omega, by omega, by go_num, fun j a b hj ha hb => by
                  by_cases e : j = m
                  · subst e; rw [hxm] at ha; rw [hym] at hb; cases ha; cases hb; exact HL.out
                  · exact hgo j a b (by omega) ha hb, hx2.comp hS1⟩
                case measure => simp [intOf]; omega
                -->T
              | false =>
                have Hd := Lib.hid (show dotsErr o.dots = 10 by
                  unfold dotsErr
                  rw [if_neg h8, if_neg (fun hh => by rw [(risesB_iff _).1 hh m x y hxm hym] at hlt2; cases hlt2)])
                go_upto_region 17 with fail
                --<F
                refine wp_region_E [1, 5, 7, 10] (fun z => Ext no wr z) (by kernel_rfl) ?_
                refine wpE_take 0 (v := ?_) rfl (by kernel_rfl) (by kernel_rfl) (by kernel_rfl) (fun _ _ _ h => h) hS0 (by rfl) ?_ ?_
                rotate_left
                · (intro wq; go_simp; try with_reducible rfl)
                simp only [pz]
                refine wpE_look 1 (v := .slice (some ⟨ab, ao, none⟩) o.dots.length c) rfl rfl (by kernel_rfl) (by kernel_rfl) (by kernel_rfl) (by kernel_rfl) (fun _ _ _ h => h) hS0 (by rfl) (fun w hS => by have q := hS.keeps c10 (fun h => h); go_simp) ?_
                simp only [pz]
                refine wpE_take 2 (v := ?_) rfl (by kernel_rfl) (by kernel_rfl) (by kernel_rfl) (fun _ _ _ h => h) hS0 (by rfl) ?_ ?_
                rotate_left
                · (intro wq; go_simp; try with_reducible rfl)
                simp only [pz]
                refine wpE_take 3 (v := .int .i64 (m : Int)) rfl (by kernel_rfl) (by kernel_rfl) (by kernel_rfl) (fun _ _ _ h => h) hS0 (by rfl) (by intro wq; go_simp; rw [IntKind.wrap_i64]; omega) ?_
                simp only [pz]
                refine wpE_take 4 (v := .pointer (some ⟨ab, ao + m * 3, none⟩)) rfl (by kernel_rfl) (by kernel_rfl) (by kernel_rfl) (fun _ _ _ h => h) hS0 (by rfl) (by intro wq; go_simp) ?_
                simp only [pz]
                refine wpE_look 5 (v := .agg #[.int .i64 x.dev, .int .i64 x.ep, .int .i64 x.seq]) rfl rfl (by kernel_rfl) (by kernel_rfl) (by kernel_rfl) (by kernel_rfl) (fun _ _ _ h => h) hS0 (by rfl) (fun w hS => by have q0 := hS.keeps x0 (fun h => h); have q1 := hS.keeps x1 (fun h => h); have q2 := hS.keeps x2 (fun h => h); go_simp) ?_
                simp only [pz]
                refine wpE_take 6 (v := ?_) rfl (by kernel_rfl) (by kernel_rfl) (by kernel_rfl) (fun _ _ _ h => h) hS0 (by rfl) ?_ ?_
                rotate_left
                · (intro wq; go_simp; try with_reducible rfl)
                simp only [pz]
                refine wpE_look 7 (v := .slice (some ⟨ab, ao, none⟩) o.dots.length c) rfl rfl (by kernel_rfl) (by kernel_rfl) (by kernel_rfl) (by kernel_rfl) (fun _ _ _ h => h) hS0 (by rfl) (fun w hS => by have q := hS.keeps c10 (fun h => h); go_simp) ?_
                simp only [pz]
                refine wpE_take 8 (v := ?_) rfl (by kernel_rfl) (by kernel_rfl) (by kernel_rfl) (fun _ _ _ h => h) hS0 (by rfl) ?_ ?_
                rotate_left
                · (intro wq; go_simp; try with_reducible rfl)
                simp only [pz]
                refine wpE_take 9 (v := .pointer (some ⟨ab, ao + (m + 1) * 3, none⟩)) rfl (by kernel_rfl) (by kernel_rfl) (by kernel_rfl) (fun _ _ _ h => h) hS0 (by rfl) (by intro wq; go_simp; try (intro hh; omega)) ?_
                simp only [pz]
                refine wpE_look 10 (v := .agg #[.int .i64 y.dev, .int .i64 y.ep, .int .i64 y.seq]) rfl rfl (by kernel_rfl) (by kernel_rfl) (by kernel_rfl) (by kernel_rfl) (fun _ _ _ h => h) hS0 (by rfl) (fun w hS => by have q0 := hS.keeps y0 (fun h => h); have q1 := hS.keeps y1 (fun h => h); have q2 := hS.keeps y2 (fun h => h); go_simp) ?_
                simp only [pz]
                refine wpE_exec 11 rfl (by kernel_rfl) (by rfl) ?_
                intro K hK
                go_simp
                refine (less_any wr.drew x y).mono ?_
                rintro e w5 ⟨rfl, hx5⟩
                rw [hlt2]
                have hS1 := hS0.comp hx5
                refine hK _ _ (fun z => Ext no wr z) (.inr (fun z h => h)) hS1 ?_
                clear hK K
                refine wpE_take 12 (v := ?_) rfl (by kernel_rfl) (by kernel_rfl) (by kernel_rfl) (fun _ _ _ h => h) hS1 (by rfl) ?_ ?_
                rotate_left
                · (intro wq; go_simp; try with_reducible rfl)
                simp only [pz]
                refine wpE_done (by kernel_rfl) ?_ _
                go_wp2_with fail
                go_ret
                exact ⟨by rw [HH.out, Hd.out]; rfl, hx.comp (hx2.comp hS1)⟩
                -->F
            · have d1 : decide (i < o.dots.length) = false := decF hil
              have Hd := Lib.hid (show dotsErr o.dots = 0 by
                unfold dotsErr
                rw [if_neg h8, if_pos ((risesB_iff _).2 (fun j a b ha hb => hgo j a b (by have := (List.getElem?_eq_some_iff.1 hb).1; omega) ha hb))])
              go_wp2_with fail
              go_ret
              exact ⟨by rw [HH.out, Hd.out]; rfl, hx.comp hx2⟩
        · rw [h5] at b5
          by_cases h0 : o.n = 0
          · have Hr := Lib.hid (show kindErr o = 11 by unfold kindErr; rw [if_neg Hk.out, if_neg (by omega), if_pos h5, if_pos (.inl h0)])
            have z : (o.n == (0 : Int)) = true := by rw [beq_iff_eq]; exact h0
            clear h0 h5
            go_wp2_with fail
            go_ret
            exact ⟨by rw [Hc.out, Hr.out]; rfl, hx⟩
          · have z : (o.n == (0 : Int)) = false := by rw [beq_eq_false_iff_ne]; exact h0
            by_cases gl : o.n < -1099511627776
            · have Hr := Lib.hid (show kindErr o = 11 by unfold kindErr; rw [if_neg Hk.out, if_neg (by omega), if_pos h5, if_pos (.inr (by omega))])
              have lo : decide (o.n < -1099511627776) = true := decT gl
              clear h0 gl h5
              go_wp2_with fail
              go_ret
              exact ⟨by rw [Hc.out, Hr.out]; rfl, hx⟩
            · have lo : decide (o.n < -1099511627776) = false := decF gl
              by_cases gh : 1099511627776 < o.n
              · have Hr := Lib.hid (show kindErr o = 11 by unfold kindErr; rw [if_neg Hk.out, if_neg (by omega), if_pos h5, if_pos (.inr (by omega))])
                have hi : decide ((1099511627776 : Int) < o.n) = true := decT gh
                clear h0 gl gh h5
                go_wp2_with fail
                go_ret
                exact ⟨by rw [Hc.out, Hr.out]; rfl, hx⟩
              · have Hr := Lib.hid (show kindErr o = 0 by unfold kindErr; rw [if_neg Hk.out, if_neg (by omega), if_pos h5, if_neg (by omega)])
                have hi : decide ((1099511627776 : Int) < o.n) = false := decF gh
                clear h0 gl gh h5
                go_wp2_with fail
                go_ret
                exact ⟨by rw [Hc.out, Hr.out]; rfl, hx⟩
        · rw [h5] at b5
          by_cases gl : o.n < 0
          · have Hr := Lib.hid (show kindErr o = 11 by unfold kindErr; rw [if_neg Hk.out, if_neg (by omega), if_neg (by omega), if_pos h5, if_neg (by omega)])
            have lo : decide (o.n < 0) = true := decT gl
            clear gl h5
            go_wp2_with fail
            go_ret
            exact ⟨by rw [Hc.out, Hr.out]; rfl, hx⟩
          · have lo : decide (o.n < 0) = false := decF gl
            by_cases gh : 1000 ≤ o.n
            · have Hr := Lib.hid (show kindErr o = 11 by unfold kindErr; rw [if_neg Hk.out, if_neg (by omega), if_neg (by omega), if_pos h5, if_neg (by omega)])
              have hi : decide ((1000 : Int) ≤ o.n) = true := decT gh
              clear gl gh h5
              go_wp2_with fail
              go_ret
              exact ⟨by rw [Hc.out, Hr.out]; rfl, hx⟩
            · have Hr := Lib.hid (show kindErr o = 0 by unfold kindErr; rw [if_neg Hk.out, if_neg (by omega), if_neg (by omega), if_pos h5, if_pos (by omega)])
              have hi : decide ((1000 : Int) ≤ o.n) = false := decF gh
              clear gl gh h5
              go_wp2_with fail
              go_ret
              exact ⟨by rw [Hc.out, Hr.out]; rfl, hx⟩
end Go.Proofs.YtejmmkjpncpedaaGreat
