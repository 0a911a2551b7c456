/- Walks of the package ops: within, text, before, dots, kind, Check. -/
import Derived.Test.YtejmmkjpncpedaaGreatOpA
import Derived.Test.YtejmmkjpncpedaaGreatStr
import Derived.Test.YtejmmkjpncpedaaGreatMk
import Derived.Test.YtejmmkjpncpedaaGreatRegion
import Derived.Test.YtejmmkjpncpedaaGreatRegionB
import Derived.BigQuiet
import Derived.Deep.DeepCutAuto
import Derived.Deep.CutBlock
namespace Go.Proofs.YtejmmkjpncpedaaGreat
open Go.RowKit Go.Esc
set_option linter.unusedVariables false
theorem opwithin_any (w : World) (n l m : Int) :
    Calls Tryz.prog 44 #[.int .i64 n, .int .i64 l, .int .i64 m] w fun e w' => e = .returned (.bool (decide (l ≤ n ∧ n ≤ m))) ∧ w = w' := by
  obtain ⟨r, hr⟩ : ∃ r, r = decide (l ≤ n ∧ n ≤ m) := ⟨_, rfl⟩
  have Hr := Lib.hid hr
  rw [← hr]
  clear hr
  by_cases h1 : l ≤ n
  · by_cases h2 : n ≤ m
    · go_enter Tryz.func44, Tryz.ntmps44
      go_wp2
      go_ret
      exact ⟨by rw [Hr.out, decT ⟨by omega, by omega⟩]; rfl, rfl⟩
    · go_enter Tryz.func44, Tryz.ntmps44
      go_wp2
      go_ret
      exact ⟨by rw [Hr.out, decF (by omega)]; rfl, rfl⟩
  · go_enter Tryz.func44, Tryz.ntmps44
    go_wp2
    go_ret
    exact ⟨by rw [Hr.out, decF (by omega)]; rfl, rfl⟩
theorem isnan_any (w : World) (n : Int) : Calls Tryz.prog 101 #[.int .i64 n] w fun e w' => e = .returned (.bool false) ∧ w = w' := by
  go_enter Tryz.func101, Tryz.ntmps101
  go_wp2
  go_ret
  exact ⟨by simp, rfl⟩
theorem compare_any (w : World) (a b : Int) : Calls Tryz.prog 77 #[.int .i64 a, .int .i64 b] w fun e w' => e = .returned (.int .i64 (cmpI a b)) ∧ w = w' := by
  obtain ⟨r, hr⟩ : ∃ r, r = cmpI a b := ⟨_, rfl⟩
  have Hr := Lib.hid hr
  rw [← hr]
  clear hr
  by_cases h1 : a < b
  · go_enter Tryz.func77, Tryz.ntmps77
    go_wp2_with fail
    refine (isnan_any w a).mono ?_
    rintro e w1 ⟨rfl, rfl⟩
    go_wp2_with fail
    refine (isnan_any w b).mono ?_
    rintro e w1 ⟨rfl, rfl⟩
    go_wp2_with fail
    go_ret
    exact ⟨by rw [Hr.out]; unfold cmpI; rw [if_pos (by omega)]; rfl, rfl⟩
  · by_cases h2 : b < a
    · go_enter Tryz.func77, Tryz.ntmps77
      go_wp2_with fail
      refine (isnan_any w a).mono ?_
      rintro e w1 ⟨rfl, rfl⟩
      go_wp2_with fail
      refine (isnan_any w b).mono ?_
      rintro e w1 ⟨rfl, rfl⟩
      go_wp2_with fail
      go_ret
      exact ⟨by rw [Hr.out]; unfold cmpI; rw [if_neg (by omega), if_pos (by omega)]; rfl, rfl⟩
    · go_enter Tryz.func77, Tryz.ntmps77
      go_wp2_with fail
      refine (isnan_any w a).mono ?_
      rintro e w1 ⟨rfl, rfl⟩
      go_wp2_with fail
      refine (isnan_any w b).mono ?_
      rintro e w1 ⟨rfl, rfl⟩
      go_wp2_with fail
      go_ret
      exact ⟨by rw [Hr.out]; unfold cmpI; rw [if_neg (by omega), if_neg (by omega)]; rfl, rfl⟩
theorem optext_any (w : World) (s : List UInt8) (hs : s.length ≤ maxLen) :
    Calls Tryz.prog 45 #[.string (str s)] w fun e w' => e = .returned (.bool (textOk s)) ∧ w = w' := by
  unfold maxLen at hs
  go_enter Tryz.func45, Tryz.ntmps45
  go_wp2_with fail
  go_loopw [6] (fun s6 wr => ∃ j : Nat, j ≤ s.length ∧ s6 = .int .i64 j ∧ (∀ i b, i < j → s[i]? = some b → 32 ≤ b.toNat ∧ b.toNat ≠ 127) ∧ wr = w) (fun s6 _ => s.length - (intOf s6).toNat)
  case atStart => exact ⟨0, by omega, rfl, fun i b h => absurd h (by omega), rfl⟩
  case round =>
    obtain ⟨j, hj, rfl, hgo, rfl⟩ := hrel
    by_cases hjl : j < s.length
    · obtain ⟨b, hb⟩ : ∃ b, s[j]? = some b := ⟨_, List.getElem?_eq_getElem hjl⟩
      have d1 : decide (j < (str s).size) = true := decT (by rw [str_size]; omega)
      have q1 := str_index wr s j b hb
      by_cases hlo : b.toNat < 32
      · have Hr := Lib.hid (show textOk s = false by
          cases h : textOk s with
          | false => rfl
          | true => have := ((textOk_iff s).1 h).2 j b hb; omega)
        have d2 : decide ((b.toNat : Int) < 32) = true := decT (by omega)
        go_wp2_with fail
        go_ret
        exact ⟨by rw [Hr.out]; rfl, rfl⟩
      · have d2 : decide ((b.toNat : Int) < 32) = false := decF (by omega)
        by_cases hde : b.toNat = 127
        · have Hr := Lib.hid (show textOk s = false by
            cases h : textOk s with
            | false => rfl
            | true => have := ((textOk_iff s).1 h).2 j b hb; omega)
          have Hd := Lib.hid hde
          have d3 : ((b.toNat : Int) == 127) = true := by rw [beq_iff_eq]; have := Hd.out; omega
          clear hde
          go_wp2_with fail
          go_ret
          exact ⟨by rw [Hr.out]; rfl, rfl⟩
        · have d3 : ((b.toNat : Int) == 127) = false := by rw [beq_eq_false_iff_ne]; omega
          go_wp2_with fail
          go_roundw
          case rel => exact ⟨j + 1, by omega, by go_num, fun i c hi hc => by
            by_cases e : i = j
            · subst e; rw [hb] at hc; cases hc; omega
            · exact hgo i c (by omega) hc, trivial⟩
          case measure => simp [intOf]; omega
    · have d1 : decide (j < (str s).size) = false := decF (by rw [str_size]; omega)
      by_cases h40 : s.length ≤ 40
      · have Hr := Lib.hid (show textOk s = true from (textOk_iff s).2 ⟨h40, fun i b hb => hgo i b (by have := (List.getElem?_eq_some_iff.1 hb).1; omega) hb⟩)
        have d4 : decide (((str s).size : Int) ≤ 40) = true := decT (by rw [str_size]; omega)
        go_wp2_with fail
        go_ret
        exact ⟨by rw [Hr.out]; rfl, rfl⟩
      · have Hr := Lib.hid (show textOk s = false by
          cases h : textOk s with
          | false => rfl
          | true => have := ((textOk_iff s).1 h).1; omega)
        have d4 : decide (((str s).size : Int) ≤ 40) = false := decF (by rw [str_size]; omega)
        go_wp2_with fail
        go_ret
        exact ⟨by rw [Hr.out]; rfl, rfl⟩
def orI : List Int → Int
  | [] => 0
  | a :: l => if a ≠ 0 then a else orI l
theorem or_any (w : World) (a : Option Addr) (c : Nat) (l : List Int) (h : Rd w a (is l)) (hl : l.length ≤ 1000) :
    Calls Tryz.prog 55 #[.slice a l.length c] w fun e w' => e = .returned (.int .i64 (orI l)) ∧ w = w' := by
  go_enter Tryz.func55, Tryz.ntmps55
  go_wp2_with fail
  go_loopw [8] (fun s8 wr => ∃ j : Nat, j ≤ l.length ∧ s8 = .int .i64 j ∧ orI (l.drop j) = orI l ∧ wr = w) (fun s8 _ => l.length - (intOf s8).toNat)
  case atStart => exact ⟨0, by omega, rfl, rfl, rfl⟩
  case round =>
    obtain ⟨j, hj, rfl, hor, rfl⟩ := hrel
    have Hor := Lib.hid hor
    clear hor
    by_cases hjl : j < l.length
    · have d1 : decide (j < l.length) = true := decT hjl
      obtain ⟨ab, ao, rfl, hlt⟩ := h.shape (by rw [is_length]; omega)
      have q1 : wr.cell? ⟨ab, ao + j, none⟩ = some (.int .i64 l[j]) := by
        have := h.lookup j (by rw [is_length]; exact hjl)
        simpa [is, I64] using this
      have e1 : l.drop j = l[j] :: l.drop (j + 1) := List.drop_eq_getElem_cons hjl
      generalize l[j] = x at *
      have E1 := Lib.hid e1
      clear e1
      by_cases hx : x = 0
      · have Hx := Lib.hid hx
        have d2 : (x == (0 : Int)) = true := by rw [beq_iff_eq]; exact hx
        clear hx
        go_wp2_with fail
        go_roundw
        case rel => exact ⟨j + 1, by omega, by go_num, by rw [← Hor.out, E1.out]; simp [orI, Hx.out], trivial⟩
        case measure => simp [intOf]; omega
      · have Hx := Lib.hid hx
        have d2 : (x == (0 : Int)) = false := by rw [beq_eq_false_iff_ne]; exact hx
        clear hx
        go_wp2_with fail
        go_ret
        exact ⟨by rw [← Hor.out, E1.out]; simp [orI, Hx.out], rfl⟩
    · have d1 : decide (j < l.length) = false := decF hjl
      go_wp2_with fail
      go_ret
      exact ⟨by rw [← Hor.out, List.drop_eq_nil_of_le (by omega)]; rfl, rfl⟩
theorem or_cmp (x y : DotR) : orI [cmpI x.dev y.dev, cmpI x.ep y.ep, cmpI x.seq y.seq] = x.cmp y := by
  unfold DotR.cmp
  simp only [orI]
  split
  · rfl
  · split
    · rfl
    · split <;> simp_all
theorem before_any (w : World) (x y : DotR) :
    Calls Tryz.prog 96 #[x.v, y.v] w fun e w' => e = .returned (.int .i64 (x.cmp y)) ∧ Ext no w w' := by
  go_enter Tryz.func96, Tryz.ntmps96
  unfold DotR.v
  go_upto_region 1 with fail
  have hb1 := Blk.lit w #[.int .i64 x.dev, .int .i64 x.ep, .int .i64 x.seq] 39
  have hx1 := Ext.alloc no w (.cells #[.int .i64 x.dev, .int .i64 x.ep, .int .i64 x.seq] 39)
  have hb2 := Blk.at (w.alloc (.cells #[.int .i64 x.dev, .int .i64 x.ep, .int .i64 x.seq] 39)) #[.int .i64 y.dev, .int .i64 y.ep, .int .i64 y.seq] 39 (w.heap.size + 1) (by simp)
  have hx2 := Ext.alloc no (w.alloc (.cells #[.int .i64 x.dev, .int .i64 x.ep, .int .i64 x.seq] 39)) (.cells #[.int .i64 y.dev, .int .i64 y.ep, .int .i64 y.seq] 39)
  have hb1' := hb1.ext (by simp) hx2 (fun h => h)
  replace hx1 := hx1.comp hx2
  clear hb1 hx2
  generalize (w.alloc (.cells #[.int .i64 x.dev, .int .i64 x.ep, .int .i64 x.seq] 39)).alloc (.cells #[.int .i64 y.dev, .int .i64 y.ep, .int .i64 y.seq] 39) = w1 at *
  have p0 := hb1'.cell 0 _ rfl
  have p1 := hb1'.cell 1 _ rfl
  have p2 := hb1'.cell 2 _ rfl
  have q0 := hb2.cell 0 _ rfl
  have q1 := hb2.cell 1 _ rfl
  have q2 := hb2.cell 2 _ rfl
  have hS0 := Ext.drew no w1
  --<B
  refine wp_region_E [1, 3, 6, 8, 11, 13] (fun z => Ext no w1 z) (by kernel_rfl) ?_
  refine wpE_take 0 (v := ?_) rfl (by kernel_rfl) (by kernel_rfl) (by kernel_rfl) (fun _ _ _ h => h) hS0 (by rfl) ?_ ?_
  rotate_left
  · (intro wq; go_simp; try with_reducible rfl)
  simp only [pz]
  refine wpE_look 1 (v := .int .i64 x.dev) rfl rfl (by kernel_rfl) (by kernel_rfl) (by kernel_rfl) (by kernel_rfl) (fun _ _ _ h => h) hS0 (by rfl) (fun w hS => by have q := hS.keeps p0 (fun h => h); go_simp) ?_
  simp only [pz]
  refine wpE_take 2 (v := ?_) rfl (by kernel_rfl) (by kernel_rfl) (by kernel_rfl) (fun _ _ _ h => h) hS0 (by rfl) ?_ ?_
  rotate_left
  · (intro wq; go_simp; try with_reducible rfl)
  simp only [pz]
  refine wpE_look 3 (v := .int .i64 y.dev) rfl rfl (by kernel_rfl) (by kernel_rfl) (by kernel_rfl) (by kernel_rfl) (fun _ _ _ h => h) hS0 (by rfl) (fun w hS => by have q := hS.keeps q0 (fun h => h); go_simp) ?_
  simp only [pz]
  refine wpE_take 5 (v := ?_) rfl (by kernel_rfl) (by kernel_rfl) (by kernel_rfl) (fun _ _ _ h => h) hS0 (by rfl) ?_ ?_
  rotate_left
  · (intro wq; go_simp; try with_reducible rfl)
  simp only [pz]
  refine wpE_look 6 (v := .int .i64 x.ep) rfl rfl (by kernel_rfl) (by kernel_rfl) (by kernel_rfl) (by kernel_rfl) (fun _ _ _ h => h) hS0 (by rfl) (fun w hS => by have q := hS.keeps p1 (fun h => h); go_simp) ?_
  simp only [pz]
  refine wpE_take 7 (v := ?_) rfl (by kernel_rfl) (by kernel_rfl) (by kernel_rfl) (fun _ _ _ h => h) hS0 (by rfl) ?_ ?_
  rotate_left
  · (intro wq; go_simp; try with_reducible rfl)
  simp only [pz]
  refine wpE_look 8 (v := .int .i64 y.ep) rfl rfl (by kernel_rfl) (by kernel_rfl) (by kernel_rfl) (by kernel_rfl) (fun _ _ _ h => h) hS0 (by rfl) (fun w hS => by have q := hS.keeps q1 (fun h => h); go_simp) ?_
  simp only [pz]
  refine wpE_take 10 (v := ?_) rfl (by kernel_rfl) (by kernel_rfl) (by kernel_rfl) (fun _ _ _ h => h) hS0 (by rfl) ?_ ?_
  rotate_left
  · (intro wq; go_simp; try with_reducible rfl)
  simp only [pz]
  refine wpE_look 11 (v := .int .i64 x.seq) rfl rfl (by kernel_rfl) (by kernel_rfl) (by kernel_rfl) (by kernel_rfl) (fun _ _ _ h => h) hS0 (by rfl) (fun w hS => by have q := hS.keeps p2 (fun h => h); go_simp) ?_
  simp only [pz]
  refine wpE_take 12 (v := ?_) rfl (by kernel_rfl) (by kernel_rfl) (by kernel_rfl) (fun _ _ _ h => h) hS0 (by rfl) ?_ ?_
  rotate_left
  · (intro wq; go_simp; try with_reducible rfl)
  simp only [pz]
  refine wpE_look 13 (v := .int .i64 y.seq) rfl rfl (by kernel_rfl) (by kernel_rfl) (by kernel_rfl) (by kernel_rfl) (fun _ _ _ h => h) hS0 (by rfl) (fun w hS => by have q := hS.keeps q2 (fun h => h); go_simp) ?_
  simp only [pz]
  refine wpE_exec 4 rfl (by kernel_rfl) (by rfl) ?_
  intro K hK
  go_simp
  refine (compare_any w1.drew x.dev y.dev).mono ?_
  rintro e w5 ⟨rfl, rfl⟩
  have hS4 := hS0
  refine hK _ _ (fun z => Ext no w1 z) (.inr (fun z h => h)) hS4 ?_
  clear hK K
  refine wpE_exec 9 rfl (by kernel_rfl) (by rfl) ?_
  intro K hK
  go_simp
  refine (compare_any w1.drew x.ep y.ep).mono ?_
  rintro e w5 ⟨rfl, rfl⟩
  have hS9 := hS0
  refine hK _ _ (fun z => Ext no w1 z) (.inr (fun z h => h)) hS9 ?_
  clear hK K
  refine wpE_exec 14 rfl (by kernel_rfl) (by rfl) ?_
  intro K hK
  go_simp
  refine (compare_any w1.drew x.seq y.seq).mono ?_
  rintro e w5 ⟨rfl, rfl⟩
  have hS14 := hS0
  refine hK _ _ (fun z => Ext no w1 z) (.inr (fun z h => h)) hS14 ?_
  clear hK K
  refine wpE_exec 15 rfl (by kernel_rfl) (by rfl) ?_
  intro K hK
  go_simp
  have hSa : Ext no w1 (w1.drew.alloc (.cells #[.int .i64 (cmpI x.dev y.dev), .int .i64 (cmpI x.ep y.ep), .int .i64 (cmpI x.seq y.seq)] 3)) := hS0.comp (Ext.alloc no w1.drew _)
  have hS15 := hSa
  refine hK _ _ (fun z => Ext no w1 z) (.inr (fun z h => h)) hS15 ?_
  clear hK K
  refine wpE_exec 16 rfl (by kernel_rfl) (by rfl) ?_
  intro K hK
  go_simp
  refine (or_any (w1.drew.alloc (.cells #[.int .i64 (cmpI x.dev y.dev), .int .i64 (cmpI x.ep y.ep), .int .i64 (cmpI x.seq y.seq)] 3)) (some ⟨w1.heap.size, 0, none⟩) 3 [cmpI x.dev y.dev, cmpI x.ep y.ep, cmpI x.seq y.seq] (Rd.lit w1.drew _ _ _) (by simp)).mono ?_
  rintro e w5 ⟨rfl, rfl⟩
  have hS16 := hS15
  refine hK _ _ (fun z => Ext no w1 z) (.inr (fun z h => h)) hS16 ?_
  clear hK K
  refine wpE_take 17 (v := ?_) rfl (by kernel_rfl) (by kernel_rfl) (by kernel_rfl) (fun _ _ _ h => h) hS16 (by rfl) ?_ ?_
  rotate_left
  · (intro wq; go_simp; try with_reducible rfl)
  simp only [pz]
  refine wpE_done (by kernel_rfl) ?_ _
  go_wp2_with fail
  go_ret
  exact ⟨by rw [← or_cmp]; rfl, hx1.comp hSa⟩
  -->B
set_option maxHeartbeats 1000000 in
theorem dots_any (w : World) (a : Option Addr) (c : Nat) (l : List DotR) (h : Rd w a (ds l)) (hl : l.length ≤ 1099511627776) :
    Calls Tryz.prog 69 #[.slice a l.length c] w fun e w' => e = .returned (.int .i64 (dotsErr l)) ∧ Ext no w w' := by
  by_cases h8 : 8 < l.length
  · have Hr := Lib.hid (show dotsErr l = 4 by unfold dotsErr; rw [if_pos h8])
    have d8 : decide ((8 : Int) < l.length) = true := decT (by omega)
    go_enter Tryz.func69, Tryz.ntmps69
    go_wp2_with fail
    go_ret
    exact ⟨by rw [Hr.out]; rfl, Ext.refl _ _⟩
  · have d8 : decide ((8 : Int) < l.length) = false := decF (by omega)
    go_enter Tryz.func69, Tryz.ntmps69
    go_wp2_with fail
    go_loopw [9] (fun s9 wr => ∃ i : Nat, i ≤ l.length ∧ s9 = .int .i64 i ∧ (∀ (j : Nat) (a b : DotR), j + 1 < i → l[j]? = some a → l[j + 1]? = some b → a.lt b = true) ∧ Ext no w wr) (fun s9 _ => l.length - (intOf s9).toNat)
    case atStart => exact ⟨0, by omega, rfl, fun j a b hj => absurd hj (by omega), Ext.refl _ _⟩
    case round =>
      obtain ⟨i, hi, rfl, hgo, hx⟩ := hrel
      by_cases hil : i < l.length
      · have d1 : decide (i < l.length) = true := decT hil
        have hr := h.ext hx (fun _ _ h => h)
        obtain ⟨ab, ao, rfl, hlt⟩ := ds_shape hr (by omega)
        have hS0 := Ext.drew no wr
        rcases Nat.eq_zero_or_pos i with rfl | hpos
        · go_upto_region 6 with fail
          --<D0
          refine wp_region_E [] (fun z => Ext no wr z) (by kernel_rfl) ?_
          refine wpE_take 0 (v := ?_) rfl (by kernel_rfl) (by kernel_rfl) (by kernel_rfl) (fun _ _ _ h => h) hS0 (by rfl) ?_ ?_
          rotate_left
          · (intro wq; go_simp; try with_reducible rfl)
          simp only [pz]
          refine wpE_take 1 (v := .bool false) rfl (by kernel_rfl) (by kernel_rfl) (by kernel_rfl) (fun _ _ _ h => h) hS0 (by rfl) (by intro wq; go_simp) ?_
          simp only [pz]
          refine wpE_take 2 (v := ?_) rfl (by kernel_rfl) (by kernel_rfl) (by kernel_rfl) (fun _ _ _ h => h) hS0 (by rfl) ?_ ?_
          rotate_left
          · (intro wq; go_simp; try with_reducible rfl)
          simp only [pz]
          refine wpE_skip 3 rfl (by kernel_rfl) (by kernel_rfl) (by kernel_rfl) (fun _ _ _ h => h) hS0 (by rfl) ?_
          simp only [pz]
          refine wpE_skip 4 rfl (by kernel_rfl) (by kernel_rfl) (by kernel_rfl) (fun _ _ _ h => h) hS0 (by rfl) ?_
          simp only [pz]
          refine wpE_skip 5 rfl (by kernel_rfl) (by kernel_rfl) (by kernel_rfl) (fun _ _ _ h => h) hS0 (by rfl) ?_
          simp only [pz]
          refine wpE_skip 6 rfl (by kernel_rfl) (by kernel_rfl) (by kernel_rfl) (fun _ _ _ h => h) hS0 (by rfl) ?_
          simp only [pz]
          refine wpE_skip 7 rfl (by kernel_rfl) (by kernel_rfl) (by kernel_rfl) (fun _ _ _ h => h) hS0 (by rfl) ?_
          simp only [pz]
          refine wpE_skip 8 rfl (by kernel_rfl) (by kernel_rfl) (by kernel_rfl) (fun _ _ _ h => h) hS0 (by rfl) ?_
          simp only [pz]
          refine wpE_skip 9 rfl (by kernel_rfl) (by kernel_rfl) (by kernel_rfl) (fun _ _ _ h => h) hS0 (by rfl) ?_
          simp only [pz]
          refine wpE_skip 10 rfl (by kernel_rfl) (by kernel_rfl) (by kernel_rfl) (fun _ _ _ h => h) hS0 (by rfl) ?_
          simp only [pz]
          refine wpE_skip 11 rfl (by kernel_rfl) (by kernel_rfl) (by kernel_rfl) (fun _ _ _ h => h) hS0 (by rfl) ?_
          simp only [pz]
          refine wpE_skip 12 rfl (by kernel_rfl) (by kernel_rfl) (by kernel_rfl) (fun _ _ _ h => h) hS0 (by rfl) ?_
          simp only [pz]
          refine wpE_skip 13 rfl (by kernel_rfl) (by kernel_rfl) (by kernel_rfl) (fun _ _ _ h => h) hS0 (by rfl) ?_
          simp only [pz]
          refine wpE_take 14 (v := ?_) rfl (by kernel_rfl) (by kernel_rfl) (by kernel_rfl) (fun _ _ _ h => h) hS0 (by rfl) ?_ ?_
          rotate_left
          · (intro wq; go_simp; try with_reducible rfl)
          simp only [pz]
          refine wpE_done (by kernel_rfl) ?_ _
          go_wp2_with fail
          go_roundw
          case rel => exact ⟨0 + 1, by omega, by go_num, fun j a b hj ha hb => absurd hj (by omega), hx.comp hS0⟩
          case measure => simp [intOf]; omega
          -->D0
        · obtain ⟨m, rfl⟩ : ∃ m, i = m + 1 := ⟨i - 1, by omega⟩
          have hm1 : m < l.length := by omega
          obtain ⟨x, hxm⟩ : ∃ x, l[m]? = some x := ⟨_, List.getElem?_eq_getElem hm1⟩
          obtain ⟨y, hym⟩ : ∃ y, l[m + 1]? = some y := ⟨_, List.getElem?_eq_getElem hil⟩
          have x0 := ds_cell hr hxm 0 _ rfl
          have x1 := ds_cell hr hxm 1 _ rfl
          have x2 := ds_cell hr hxm 2 _ rfl
          have y0 := ds_cell hr hym 0 _ rfl
          have y1 := ds_cell hr hym 1 _ rfl
          have y2 := ds_cell hr hym 2 _ rfl
          rw [Nat.add_zero] at x0 y0
          have d2 : decide ((0 : Int) < ((m + 1 : Nat) : Int)) = true := decT (by omega)
          by_cases hlt2 : x.lt y = true
          · have HL := Lib.hid hlt2
            have d3 : decide ((0 : Int) ≤ x.cmp y) = false := decF (by have := (DotR.cmp_lt x y).2 hlt2; omega)
            clear hlt2
            go_upto_region 6 with fail
            --<D1
            refine wp_region_E [7, 11] (fun z => Ext no wr z) (by kernel_rfl) ?_
            refine wpE_take 0 (v := ?_) rfl (by kernel_rfl) (by kernel_rfl) (by kernel_rfl) (fun _ _ _ h => h) hS0 (by rfl) ?_ ?_
            rotate_left
            · (intro wq; go_simp; try with_reducible rfl)
            simp only [pz]
            refine wpE_take 1 (v := .bool true) rfl (by kernel_rfl) (by kernel_rfl) (by kernel_rfl) (fun _ _ _ h => h) hS0 (by rfl) (by intro wq; go_simp) ?_
            simp only [pz]
            refine wpE_take 2 (v := ?_) rfl (by kernel_rfl) (by kernel_rfl) (by kernel_rfl) (fun _ _ _ h => h) hS0 (by rfl) ?_ ?_
            rotate_left
            · (intro wq; go_simp; try with_reducible rfl)
            simp only [pz]
            refine wpE_take 3 (v := ?_) rfl (by kernel_rfl) (by kernel_rfl) (by kernel_rfl) (fun _ _ _ h => h) hS0 (by rfl) ?_ ?_
            rotate_left
            · (intro wq; go_simp; try with_reducible rfl)
            simp only [pz]
            refine wpE_take 4 (v := ?_) rfl (by kernel_rfl) (by kernel_rfl) (by kernel_rfl) (fun _ _ _ h => h) hS0 (by rfl) ?_ ?_
            rotate_left
            · (intro wq; go_simp; try with_reducible rfl)
            simp only [pz]
            refine wpE_take 5 (v := .int .i64 (m : Int)) rfl (by kernel_rfl) (by kernel_rfl) (by kernel_rfl) (fun _ _ _ h => h) hS0 (by rfl) (by intro wq; go_simp; rw [IntKind.wrap_i64]; omega) ?_
            simp only [pz]
            refine wpE_take 6 (v := .pointer (some ⟨ab, ao + m * 3, none⟩)) rfl (by kernel_rfl) (by kernel_rfl) (by kernel_rfl) (fun _ _ _ h => h) hS0 (by rfl) (by intro wq; go_simp) ?_
            simp only [pz]
            refine wpE_look 7 (v := .agg #[.int .i64 x.dev, .int .i64 x.ep, .int .i64 x.seq]) rfl rfl (by kernel_rfl) (by kernel_rfl) (by kernel_rfl) (by kernel_rfl) (fun _ _ _ h => h) hS0 (by rfl) (fun w hS => by have q0 := hS.keeps x0 (fun h => h); have q1 := hS.keeps x1 (fun h => h); have q2 := hS.keeps x2 (fun h => h); go_simp) ?_
            simp only [pz]
            refine wpE_take 8 (v := ?_) rfl (by kernel_rfl) (by kernel_rfl) (by kernel_rfl) (fun _ _ _ h => h) hS0 (by rfl) ?_ ?_
            rotate_left
            · (intro wq; go_simp; try with_reducible rfl)
            simp only [pz]
            refine wpE_take 9 (v := ?_) rfl (by kernel_rfl) (by kernel_rfl) (by kernel_rfl) (fun _ _ _ h => h) hS0 (by rfl) ?_ ?_
            rotate_left
            · (intro wq; go_simp; try with_reducible rfl)
            simp only [pz]
            refine wpE_take 10 (v := .pointer (some ⟨ab, ao + (m + 1) * 3, none⟩)) rfl (by kernel_rfl) (by kernel_rfl) (by kernel_rfl) (fun _ _ _ h => h) hS0 (by rfl) (by intro wq; go_simp; intro hh; omega) ?_
            simp only [pz]
            refine wpE_look 11 (v := .agg #[.int .i64 y.dev, .int .i64 y.ep, .int .i64 y.seq]) rfl rfl (by kernel_rfl) (by kernel_rfl) (by kernel_rfl) (by kernel_rfl) (fun _ _ _ h => h) hS0 (by rfl) (fun w hS => by have q0 := hS.keeps y0 (fun h => h); have q1 := hS.keeps y1 (fun h => h); have q2 := hS.keeps y2 (fun h => h); go_simp) ?_
            simp only [pz]
            refine wpE_exec 12 rfl (by kernel_rfl) (by rfl) ?_
            intro K hK
            go_simp
            refine (before_any wr.drew x y).mono ?_
            rintro e w5 ⟨rfl, hx5⟩
            have hS1 := hS0.comp hx5
            refine hK _ _ (fun z => Ext no wr z) (.inr (fun z h => h)) hS1 ?_
            clear hK K
            refine wpE_take 13 (v := .bool false) rfl (by kernel_rfl) (by kernel_rfl) (by kernel_rfl) (fun _ _ _ h => h) hS1 (by rfl) (by intro wq; go_simp) ?_
            simp only [pz]
            refine wpE_take 14 (v := ?_) rfl (by kernel_rfl) (by kernel_rfl) (by kernel_rfl) (fun _ _ _ h => h) hS1 (by rfl) ?_ ?_
            rotate_left
            · (intro wq; go_simp; try with_reducible rfl)
            simp only [pz]
            refine wpE_done (by kernel_rfl) ?_ _
            go_wp2_with fail
            go_roundw
            case rel => exact ⟨m + 1 + 1, by omega, by go_num, fun j a b hj ha hb => by
              by_cases e : j = m
              · subst e; rw [hxm] at ha; rw [hym] at hb; cases ha; cases hb; exact HL.out
              · exact hgo j a b (by omega) ha hb, hx.comp hS1⟩
            case measure => simp [intOf]; omega
            -->D1
          · have Hr := Lib.hid (show dotsErr l = 10 by
              unfold dotsErr
              rw [if_neg h8, if_neg (fun hh => hlt2 ((risesB_iff l).1 hh m x y hxm hym))])
            have d3 : decide ((0 : Int) ≤ x.cmp y) = true := decT (by
              by_cases h0 : 0 ≤ x.cmp y
              · exact h0
              · exact absurd ((DotR.cmp_lt x y).1 (by omega)) hlt2)
            clear hlt2
            go_upto_region 6 with fail
            --<D2
            refine wp_region_E [7, 11] (fun z => Ext no wr z) (by kernel_rfl) ?_
            refine wpE_take 0 (v := ?_) rfl (by kernel_rfl) (by kernel_rfl) (by kernel_rfl) (fun _ _ _ h => h) hS0 (by rfl) ?_ ?_
            rotate_left
            · (intro wq; go_simp; try with_reducible rfl)
            simp only [pz]
            refine wpE_take 1 (v := .bool true) rfl (by kernel_rfl) (by kernel_rfl) (by kernel_rfl) (fun _ _ _ h => h) hS0 (by rfl) (by intro wq; go_simp) ?_
            simp only [pz]
            refine wpE_take 2 (v := ?_) rfl (by kernel_rfl) (by kernel_rfl) (by kernel_rfl) (fun _ _ _ h => h) hS0 (by rfl) ?_ ?_
            rotate_left
            · (intro wq; go_simp; try with_reducible rfl)
            simp only [pz]
            refine wpE_take 3 (v := ?_) rfl (by kernel_rfl) (by kernel_rfl) (by kernel_rfl) (fun _ _ _ h => h) hS0 (by rfl) ?_ ?_
            rotate_left
            · (intro wq; go_simp; try with_reducible rfl)
            simp only [pz]
            refine wpE_take 4 (v := ?_) rfl (by kernel_rfl) (by kernel_rfl) (by kernel_rfl) (fun _ _ _ h => h) hS0 (by rfl) ?_ ?_
            rotate_left
            · (intro wq; go_simp; try with_reducible rfl)
            simp only [pz]
            refine wpE_take 5 (v := .int .i64 (m : Int)) rfl (by kernel_rfl) (by kernel_rfl) (by kernel_rfl) (fun _ _ _ h => h) hS0 (by rfl) (by intro wq; go_simp; rw [IntKind.wrap_i64]; omega) ?_
            simp only [pz]
            refine wpE_take 6 (v := .pointer (some ⟨ab, ao + m * 3, none⟩)) rfl (by kernel_rfl) (by kernel_rfl) (by kernel_rfl) (fun _ _ _ h => h) hS0 (by rfl) (by intro wq; go_simp) ?_
            simp only [pz]
            refine wpE_look 7 (v := .agg #[.int .i64 x.dev, .int .i64 x.ep, .int .i64 x.seq]) rfl rfl (by kernel_rfl) (by kernel_rfl) (by kernel_rfl) (by kernel_rfl) (fun _ _ _ h => h) hS0 (by rfl) (fun w hS => by have q0 := hS.keeps x0 (fun h => h); have q1 := hS.keeps x1 (fun h => h); have q2 := hS.keeps x2 (fun h => h); go_simp) ?_
            simp only [pz]
            refine wpE_take 8 (v := ?_) rfl (by kernel_rfl) (by kernel_rfl) (by kernel_rfl) (fun _ _ _ h => h) hS0 (by rfl) ?_ ?_
            rotate_left
            · (intro wq; go_simp; try with_reducible rfl)
            simp only [pz]
            refine wpE_take 9 (v := ?_) rfl (by kernel_rfl) (by kernel_rfl) (by kernel_rfl) (fun _ _ _ h => h) hS0 (by rfl) ?_ ?_
            rotate_left
            · (intro wq; go_simp; try with_reducible rfl)
            simp only [pz]
            refine wpE_take 10 (v := .pointer (some ⟨ab, ao + (m + 1) * 3, none⟩)) rfl (by kernel_rfl) (by kernel_rfl) (by kernel_rfl) (fun _ _ _ h => h) hS0 (by rfl) (by intro wq; go_simp; intro hh; omega) ?_
            simp only [pz]
            refine wpE_look 11 (v := .agg #[.int .i64 y.dev, .int .i64 y.ep, .int .i64 y.seq]) rfl rfl (by kernel_rfl) (by kernel_rfl) (by kernel_rfl) (by kernel_rfl) (fun _ _ _ h => h) hS0 (by rfl) (fun w hS => by have q0 := hS.keeps y0 (fun h => h); have q1 := hS.keeps y1 (fun h => h); have q2 := hS.keeps y2 (fun h => h); go_simp) ?_
            simp only [pz]
            refine wpE_exec 12 rfl (by kernel_rfl) (by rfl) ?_
            intro K hK
            go_simp
            refine (before_any wr.drew x y).mono ?_
            rintro e w5 ⟨rfl, hx5⟩
            have hS1 := hS0.comp hx5
            refine hK _ _ (fun z => Ext no wr z) (.inr (fun z h => h)) hS1 ?_
            clear hK K
            refine wpE_take 13 (v := .bool true) rfl (by kernel_rfl) (by kernel_rfl) (by kernel_rfl) (fun _ _ _ h => h) hS1 (by rfl) (by intro wq; go_simp) ?_
            simp only [pz]
            refine wpE_take 14 (v := ?_) rfl (by kernel_rfl) (by kernel_rfl) (by kernel_rfl) (fun _ _ _ h => h) hS1 (by rfl) ?_ ?_
            rotate_left
            · (intro wq; go_simp; try with_reducible rfl)
            simp only [pz]
            refine wpE_done (by kernel_rfl) ?_ _
            go_wp2_with fail
            go_ret
            exact ⟨by rw [Hr.out]; rfl, hx.comp hS1⟩
            -->D2
      · have d1 : decide (i < l.length) = false := decF hil
        have Hr := Lib.hid (show dotsErr l = 0 by
          unfold dotsErr
          rw [if_neg h8, if_pos ((risesB_iff l).2 (fun j a b ha hb => hgo j a b (by have := (List.getElem?_eq_some_iff.1 hb).1; omega) ha hb))])
        go_wp2_with fail
        go_ret
        exact ⟨by rw [Hr.out]; rfl, hx⟩
end Go.Proofs.YtejmmkjpncpedaaGreat
