/- Walks of the package ops: kind, Check. -/
import Derived.Test.YtejmmkjpncpedaaGreatOpB
namespace Go.Proofs.YtejmmkjpncpedaaGreat
open Go.RowKit Go.Esc
set_option linter.unusedVariables false
set_option maxHeartbeats 1000000 in
theorem kind_any (w : World) (o : OpR) (a : Option Addr) (c : Nat) (h : Rd w a (ds o.dots)) (hl : o.dots.length ≤ 1099511627776) (hk : 1 ≤ o.kind ∧ o.kind ≤ 5) :
    Calls Tryz.prog 46 #[o.v a c] w fun e w' => e = .returned (.int .i64 (kindErr o)) ∧ Ext no w w' := by
  go_enter Tryz.func46, Tryz.ntmps46
  unfold OpR.v
  go_upto_region 1 with fail
  have hb := Blk.lit w #[.int .i64 o.dot.dev, .int .i64 o.dot.ep, .int .i64 o.dot.seq, .int .i64 o.coll, .int .i64 o.ver, .int .i64 o.kind, .string (str o.key), .string (str o.text), .int .i64 o.n, .int .i64 o.time, .slice a o.dots.length c] 51
  have hx := Ext.alloc no w (.cells #[.int .i64 o.dot.dev, .int .i64 o.dot.ep, .int .i64 o.dot.seq, .int .i64 o.coll, .int .i64 o.ver, .int .i64 o.kind, .string (str o.key), .string (str o.text), .int .i64 o.n, .int .i64 o.time, .slice a o.dots.length c] 51)
  generalize w.alloc (.cells #[.int .i64 o.dot.dev, .int .i64 o.dot.ep, .int .i64 o.dot.seq, .int .i64 o.coll, .int .i64 o.ver, .int .i64 o.kind, .string (str o.key), .string (str o.text), .int .i64 o.n, .int .i64 o.time, .slice a o.dots.length c] 51) = w1 at *
  have b0 := hb.cell 0 _ rfl
  have b1 := hb.cell 1 _ rfl
  have b2 := hb.cell 2 _ rfl
  have b3 := hb.cell 3 _ rfl
  have b4 := hb.cell 4 _ rfl
  have b5 := hb.cell 5 _ rfl
  have b6 := hb.cell 6 _ rfl
  have b7 := hb.cell 7 _ rfl
  have b8 := hb.cell 8 _ rfl
  have b9 := hb.cell 9 _ rfl
  have b10 := hb.cell 10 _ rfl
  clear hb
  generalize w.heap.size = cb at *
  have hk' : o.kind = 1 ∨ o.kind = 2 ∨ o.kind = 3 ∨ o.kind = 4 ∨ o.kind = 5 := by omega
  rcases hk' with hk1 | hk1 | hk1 | hk1 | hk1
  · by_cases hkey : o.key = []
    · have Hr := Lib.hid (show kindErr o = 1 by unfold kindErr; rw [if_pos ⟨by omega, hkey⟩])
      have s0 := beqEmptyT hkey
      rw [hk1] at b5
      clear hk hk1 hkey
      go_wp2_with fail
      go_ret
      exact ⟨by rw [Hr.out]; rfl, hx⟩
    · have Hk := Lib.hid (show ¬ (o.kind ≠ 5 ∧ o.key = []) from fun h => hkey h.2)
      have s0 := beqEmptyF hkey
      clear hkey
      have Hr := Lib.hid (show kindErr o = 0 by unfold kindErr; rw [if_neg Hk.out, if_neg (by omega), if_neg (by omega), if_neg (by omega)])
      rw [hk1] at b5
      clear hk hk1
      go_wp2_with fail
      go_ret
      exact ⟨by rw [Hr.out]; rfl, hx⟩
  · by_cases hkey : o.key = []
    · have Hr := Lib.hid (show kindErr o = 1 by unfold kindErr; rw [if_pos ⟨by omega, hkey⟩])
      have s0 := beqEmptyT hkey
      rw [hk1] at b5
      clear hk hk1 hkey
      go_wp2_with fail
      go_ret
      exact ⟨by rw [Hr.out]; rfl, hx⟩
    · have Hk := Lib.hid (show ¬ (o.kind ≠ 5 ∧ o.key = []) from fun h => hkey h.2)
      have s0 := beqEmptyF hkey
      clear hkey
      have Hr := Lib.hid (show kindErr o = 0 by unfold kindErr; rw [if_neg Hk.out, if_neg (by omega), if_neg (by omega), if_neg (by omega)])
      rw [hk1] at b5
      clear hk hk1
      go_wp2_with fail
      go_ret
      exact ⟨by rw [Hr.out]; rfl, hx⟩
  · by_cases hkey : o.key = []
    · have Hr := Lib.hid (show kindErr o = 1 by unfold kindErr; rw [if_pos ⟨by omega, hkey⟩])
      have s0 := beqEmptyT hkey
      rw [hk1] at b5
      clear hk hk1 hkey
      go_wp2_with fail
      go_ret
      exact ⟨by rw [Hr.out]; rfl, hx⟩
    · have Hk := Lib.hid (show ¬ (o.kind ≠ 5 ∧ o.key = []) from fun h => hkey h.2)
      have s0 := beqEmptyF hkey
      clear hkey
      have Hr := Lib.hid (show kindErr o = dotsErr o.dots by unfold kindErr; rw [if_neg Hk.out, if_pos hk1])
      rw [hk1] at b5
      clear hk hk1
      go_wp2_with fail
      refine (dots_any w1 a c o.dots (h.ext hx (fun _ _ h => h)) hl).mono ?_
      rintro e w2 ⟨rfl, hx2⟩
      go_wp2_with fail
      go_ret
      exact ⟨by rw [Hr.out]; rfl, hx.comp hx2⟩
  · by_cases hkey : o.key = []
    · have Hr := Lib.hid (show kindErr o = 1 by unfold kindErr; rw [if_pos ⟨by omega, hkey⟩])
      have s0 := beqEmptyT hkey
      rw [hk1] at b5
      clear hk hk1 hkey
      go_wp2_with fail
      go_ret
      exact ⟨by rw [Hr.out]; rfl, hx⟩
    · have Hk := Lib.hid (show ¬ (o.kind ≠ 5 ∧ o.key = []) from fun h => hkey h.2)
      have s0 := beqEmptyF hkey
      clear hkey
      by_cases hn0 : o.n = 0
      · have Hr := Lib.hid (show kindErr o = 11 by unfold kindErr; rw [if_neg Hk.out, if_neg (by omega), if_pos hk1, if_pos (.inl hn0)])
        rw [hk1] at b5
        rw [hn0] at b8
        clear hk hk1 hn0
        go_wp2_with fail
        go_ret
        exact ⟨by rw [Hr.out]; rfl, hx⟩
      · have z0 : (o.n == (0 : Int)) = false := by rw [beq_eq_false_iff_ne]; exact hn0
        by_cases hnr : -1099511627776 ≤ o.n ∧ o.n ≤ 1099511627776
        · have Hr := Lib.hid (show kindErr o = 0 by unfold kindErr; rw [if_neg Hk.out, if_neg (by omega), if_pos hk1, if_neg (by rintro (h | h); exact hn0 h; exact h hnr)])
          have Hd := Lib.hid (decT hnr)
          rw [hk1] at b5
          clear hk hk1 hn0 hnr
          go_wp2_with fail
          refine (opwithin_any w1 o.n (-1099511627776) 1099511627776).mono ?_
          rintro e w2 ⟨rfl, rfl⟩
          rw [Hd.out]
          go_wp2_with fail
          go_ret
          exact ⟨by rw [Hr.out]; rfl, hx⟩
        · have Hr := Lib.hid (show kindErr o = 11 by unfold kindErr; rw [if_neg Hk.out, if_neg (by omega), if_pos hk1, if_pos (.inr hnr)])
          have Hd := Lib.hid (decF hnr)
          rw [hk1] at b5
          clear hk hk1 hn0 hnr
          go_wp2_with fail
          refine (opwithin_any w1 o.n (-1099511627776) 1099511627776).mono ?_
          rintro e w2 ⟨rfl, rfl⟩
          rw [Hd.out]
          go_wp2_with fail
          go_ret
          exact ⟨by rw [Hr.out]; rfl, hx⟩
  · have Hk := Lib.hid (show ¬ (o.kind ≠ 5 ∧ o.key = []) from fun h => h.1 hk1)
    by_cases hnr : 0 ≤ o.n ∧ o.n ≤ 999
    · have Hr := Lib.hid (show kindErr o = 0 by unfold kindErr; rw [if_neg Hk.out, if_neg (by omega), if_neg (by omega), if_pos hk1, if_pos hnr])
      have Hd := Lib.hid (decT hnr)
      rw [hk1] at b5
      clear hk hk1 hnr
      go_wp2_with fail
      refine (opwithin_any w1 o.n 0 999).mono ?_
      rintro e w2 ⟨rfl, rfl⟩
      rw [Hd.out]
      go_wp2_with fail
      go_ret
      exact ⟨by rw [Hr.out]; rfl, hx⟩
    · have Hr := Lib.hid (show kindErr o = 11 by unfold kindErr; rw [if_neg Hk.out, if_neg (by omega), if_neg (by omega), if_pos hk1, if_neg hnr])
      have Hd := Lib.hid (decF hnr)
      rw [hk1] at b5
      clear hk hk1 hnr
      go_wp2_with fail
      refine (opwithin_any w1 o.n 0 999).mono ?_
      rintro e w2 ⟨rfl, rfl⟩
      rw [Hd.out]
      go_wp2_with fail
      go_ret
      exact ⟨by rw [Hr.out]; rfl, hx⟩
set_option maxHeartbeats 2000000 in
theorem check_any (w : World) (o : OpR) (a : Option Addr) (c : Nat) (h : Rd w a (ds o.dots)) (hl : o.dots.length ≤ 1099511627776) (hks : o.key.length ≤ maxLen) (hts : o.text.length ≤ maxLen) :
    Calls Tryz.prog 21 #[o.v a c] w fun e w' => e = .returned (.int .i64 (checkOp o)) ∧ Ext no w w' := by
  go_enter Tryz.func21, Tryz.ntmps21
  unfold OpR.v
  go_upto_region 1 with fail
  have hb := Blk.lit w #[.int .i64 o.dot.dev, .int .i64 o.dot.ep, .int .i64 o.dot.seq, .int .i64 o.coll, .int .i64 o.ver, .int .i64 o.kind, .string (str o.key), .string (str o.text), .int .i64 o.n, .int .i64 o.time, .slice a o.dots.length c] 51
  have hx := Ext.alloc no w (.cells #[.int .i64 o.dot.dev, .int .i64 o.dot.ep, .int .i64 o.dot.seq, .int .i64 o.coll, .int .i64 o.ver, .int .i64 o.kind, .string (str o.key), .string (str o.text), .int .i64 o.n, .int .i64 o.time, .slice a o.dots.length c] 51)
  generalize w.alloc (.cells #[.int .i64 o.dot.dev, .int .i64 o.dot.ep, .int .i64 o.dot.seq, .int .i64 o.coll, .int .i64 o.ver, .int .i64 o.kind, .string (str o.key), .string (str o.text), .int .i64 o.n, .int .i64 o.time, .slice a o.dots.length c] 51) = w1 at *
  have b0 := hb.cell 0 _ rfl
  have b1 := hb.cell 1 _ rfl
  have b2 := hb.cell 2 _ rfl
  have b3 := hb.cell 3 _ rfl
  have b4 := hb.cell 4 _ rfl
  have b5 := hb.cell 5 _ rfl
  have b6 := hb.cell 6 _ rfl
  have b7 := hb.cell 7 _ rfl
  have b8 := hb.cell 8 _ rfl
  have b9 := hb.cell 9 _ rfl
  have b10 := hb.cell 10 _ rfl
  clear hb
  generalize w.heap.size = cb at *
  by_cases g0 : 0 ≤ o.dot.dev ∧ o.dot.dev ≤ 5
  rotate_left
  · have Hr := Lib.hid (show checkOp o = 1 by unfold checkOp headOk; rw [if_pos (by intro hh; exact g0 hh.1.1.1.1.1)])
    have Hd := Lib.hid (decF g0)
    go_wp2_with fail
    refine (opwithin_any w1 o.dot.dev 0 5).mono ?_
    rintro e w2 ⟨rfl, rfl⟩
    rw [Hd.out]
    go_wp2_with fail
    go_ret
    exact ⟨by rw [Hr.out]; rfl, hx⟩
  have G0 := Lib.hid (decT g0)
  go_wp2_with fail
  refine (opwithin_any w1 o.dot.dev 0 5).mono ?_
  rintro e w2 ⟨rfl, rfl⟩
  rw [G0.out]
  by_cases g1 : 1 ≤ o.dot.ep ∧ o.dot.ep ≤ 1073741824
  rotate_left
  · have Hr := Lib.hid (show checkOp o = 1 by unfold checkOp headOk; rw [if_pos (by intro hh; exact g1 hh.1.1.1.1.2)])
    have Hd := Lib.hid (decF g1)
    go_wp2_with fail
    refine (opwithin_any w1 o.dot.ep 1 1073741824).mono ?_
    rintro e w2 ⟨rfl, rfl⟩
    rw [Hd.out]
    go_wp2_with fail
    go_ret
    exact ⟨by rw [Hr.out]; rfl, hx⟩
  have G1 := Lib.hid (decT g1)
  go_wp2_with fail
  refine (opwithin_any w1 o.dot.ep 1 1073741824).mono ?_
  rintro e w2 ⟨rfl, rfl⟩
  rw [G1.out]
  by_cases g2 : 1 ≤ o.dot.seq ∧ o.dot.seq ≤ 1073741824
  rotate_left
  · have Hr := Lib.hid (show checkOp o = 1 by unfold checkOp headOk; rw [if_pos (by intro hh; exact g2 hh.1.1.1.2)])
    have Hd := Lib.hid (decF g2)
    go_wp2_with fail
    refine (opwithin_any w1 o.dot.seq 1 1073741824).mono ?_
    rintro e w2 ⟨rfl, rfl⟩
    rw [Hd.out]
    go_wp2_with fail
    go_ret
    exact ⟨by rw [Hr.out]; rfl, hx⟩
  have G2 := Lib.hid (decT g2)
  go_wp2_with fail
  refine (opwithin_any w1 o.dot.seq 1 1073741824).mono ?_
  rintro e w2 ⟨rfl, rfl⟩
  rw [G2.out]
  by_cases g3 : 0 ≤ o.coll ∧ o.coll ≤ 2
  rotate_left
  · have Hr := Lib.hid (show checkOp o = 1 by unfold checkOp headOk; rw [if_pos (by intro hh; exact g3 hh.1.1.2)])
    have Hd := Lib.hid (decF g3)
    go_wp2_with fail
    refine (opwithin_any w1 o.coll 0 2).mono ?_
    rintro e w2 ⟨rfl, rfl⟩
    rw [Hd.out]
    go_wp2_with fail
    go_ret
    exact ⟨by rw [Hr.out]; rfl, hx⟩
  have G3 := Lib.hid (decT g3)
  go_wp2_with fail
  refine (opwithin_any w1 o.coll 0 2).mono ?_
  rintro e w2 ⟨rfl, rfl⟩
  rw [G3.out]
  by_cases g4 : 1 ≤ o.ver ∧ o.ver ≤ 3
  rotate_left
  · have Hr := Lib.hid (show checkOp o = 1 by unfold checkOp headOk; rw [if_pos (by intro hh; exact g4 hh.1.2)])
    have Hd := Lib.hid (decF g4)
    go_wp2_with fail
    refine (opwithin_any w1 o.ver 1 3).mono ?_
    rintro e w2 ⟨rfl, rfl⟩
    rw [Hd.out]
    go_wp2_with fail
    go_ret
    exact ⟨by rw [Hr.out]; rfl, hx⟩
  have G4 := Lib.hid (decT g4)
  go_wp2_with fail
  refine (opwithin_any w1 o.ver 1 3).mono ?_
  rintro e w2 ⟨rfl, rfl⟩
  rw [G4.out]
  by_cases g5 : 0 ≤ o.time ∧ o.time ≤ 1099511627776
  rotate_left
  · have Hr := Lib.hid (show checkOp o = 1 by unfold checkOp headOk; rw [if_pos (by intro hh; exact g5 hh.2)])
    have Hd := Lib.hid (decF g5)
    go_wp2_with fail
    refine (opwithin_any w1 o.time 0 1099511627776).mono ?_
    rintro e w2 ⟨rfl, rfl⟩
    rw [Hd.out]
    go_wp2_with fail
    go_ret
    exact ⟨by rw [Hr.out]; rfl, hx⟩
  have G5 := Lib.hid (decT g5)
  go_wp2_with fail
  refine (opwithin_any w1 o.time 0 1099511627776).mono ?_
  rintro e w2 ⟨rfl, rfl⟩
  rw [G5.out]
  have hh : headOk o := ⟨⟨⟨⟨⟨g0, g1⟩, g2⟩, g3⟩, g4⟩, g5⟩
  clear g0 g1 g2 g3 g4 g5 G0 G1 G2 G3 G4 G5
  by_cases g6 : 1 ≤ o.kind ∧ o.kind ≤ 5
  rotate_left
  · have Hr := Lib.hid (show checkOp o = 3 by unfold checkOp; rw [if_neg (fun h => h hh), if_pos g6])
    have Hd := Lib.hid (decF g6)
    go_wp2_with fail
    refine (opwithin_any w1 o.kind 1 5).mono ?_
    rintro e w2 ⟨rfl, rfl⟩
    rw [Hd.out]
    go_wp2_with fail
    go_ret
    exact ⟨by rw [Hr.out]; rfl, hx⟩
  have Hd := Lib.hid (decT g6)
  have G6 := Lib.hid g6
  clear g6
  go_wp2_with fail
  refine (opwithin_any w1 o.kind 1 5).mono ?_
  rintro e w2 ⟨rfl, rfl⟩
  rw [Hd.out]
  clear Hd
  go_wp2_with fail
  refine (optext_any w1 o.key hks).mono ?_
  rintro e w2 ⟨rfl, rfl⟩
  cases g7 : textOk o.key with
  | false =>
    have Hr := Lib.hid (show checkOp o = 5 by unfold checkOp; rw [if_neg (fun h => h hh), if_neg (fun h => h G6.out), if_pos (by rw [g7]; simp)])
    go_wp2_with fail
    go_ret
    exact ⟨by rw [Hr.out]; rfl, hx⟩
  | true =>
    go_wp2_with fail
    refine (optext_any w1 o.text hts).mono ?_
    rintro e w2 ⟨rfl, rfl⟩
    cases g8 : textOk o.text with
    | false =>
      have Hr := Lib.hid (show checkOp o = 5 by unfold checkOp; rw [if_neg (fun h => h hh), if_neg (fun h => h G6.out), if_pos (by rw [g8]; simp)])
      go_wp2_with fail
      go_ret
      exact ⟨by rw [Hr.out]; rfl, hx⟩
    | true =>
      have Hr := Lib.hid (show checkOp o = kindErr o by unfold checkOp; rw [if_neg (fun h => h hh), if_neg (fun h => h G6.out), if_neg (by rw [g7, g8]; simp)])
      go_wp2_with fail
      refine (kind_any w1 o a c (h.ext hx (fun _ _ h => h)) hl G6.out).mono ?_
      rintro e w2 ⟨rfl, hx2⟩
      go_wp2_with fail
      go_ret
      exact ⟨by rw [Hr.out]; rfl, hx.comp hx2⟩
end Go.Proofs.YtejmmkjpncpedaaGreat
