/- The texts OpB OpC OpL OpD in one. -/
import Derived.Test.YtddobhihjljcgaaGreatMA
import Derived.BigQuiet
import Derived.Deep.DeepCutAuto
import Derived.Deep.CutBlock
/- Walks of the package ops: within, text, before, dots, kind, Check. -/
namespace Go.Proofs.YtddobhihjljcgaaGreat
open Go.RowKit Go.Esc
set_option linter.unusedVariables false
theorem opwithin_any (w : World) (n l m : Int) :
  Calls Tryz.prog 104 #[.int .i64 n, .int .i64 l, .int .i64 m] w fun e w' => e = .returned (.bool (decide (l ≤ n ∧ n ≤ m))) ∧ w = w' := by
 obtain ⟨r, hr⟩ : ∃ r, r = decide (l ≤ n ∧ n ≤ m) := ⟨_, rfl⟩
 have Hr := Lib.hid hr
 rw [← hr]
 clear hr
 by_cases h1 : l ≤ n
 ·by_cases h2 : n ≤ m
  ·go_enter Tryz.func104, Tryz.ntmps104
   go_wp2
   go_ret
   exact ⟨by rw [Hr.out, decT ⟨by omega, by omega⟩]; rfl, rfl⟩
  ·go_enter Tryz.func104, Tryz.ntmps104
   go_wp2
   go_ret
   exact ⟨by rw [Hr.out, decF (by omega)]; rfl, rfl⟩
 ·go_enter Tryz.func104, Tryz.ntmps104
  go_wp2
  go_ret
  exact ⟨by rw [Hr.out, decF (by omega)]; rfl, rfl⟩
theorem isnan_any (w : World) (n : Int) : Calls Tryz.prog 111 #[.int .i64 n] w fun e w' => e = .returned (.bool false) ∧ w = w' := by
 go_enter Tryz.func111, Tryz.ntmps111
 go_wp2
 go_ret
 exact ⟨by simp, rfl⟩
theorem compare_any (w : World) (a b : Int) : Calls Tryz.prog 110 #[.int .i64 a, .int .i64 b] w fun e w' => e = .returned (.int .i64 (cmpI a b)) ∧ w = w' := by
 obtain ⟨r, hr⟩ : ∃ r, r = cmpI a b := ⟨_, rfl⟩
 have Hr := Lib.hid hr
 rw [← hr]
 clear hr
 by_cases h1 : a < b
 ·go_enter Tryz.func110, Tryz.ntmps110
  go_wp2_with fail
  refine (isnan_any w a).mono ?_
  rintro e w1 ⟨rfl, rfl⟩
  go_wp2_with fail
  refine (isnan_any w b).mono ?_
  rintro e w1 ⟨rfl, rfl⟩
  go_wp2_with fail
  go_ret
  exact ⟨by rw [Hr.out]; unfold cmpI; rw [if_pos (by omega)]; rfl, rfl⟩
 ·by_cases h2 : b < a
  ·go_enter Tryz.func110, Tryz.ntmps110
   go_wp2_with fail
   refine (isnan_any w a).mono ?_
   rintro e w1 ⟨rfl, rfl⟩
   go_wp2_with fail
   refine (isnan_any w b).mono ?_
   rintro e w1 ⟨rfl, rfl⟩
   go_wp2_with fail
   go_ret
   exact ⟨by rw [Hr.out]; unfold cmpI; rw [if_neg (by omega), if_pos (by omega)]; rfl, rfl⟩
  ·go_enter Tryz.func110, Tryz.ntmps110
   go_wp2_with fail
   refine (isnan_any w a).mono ?_
   rintro e w1 ⟨rfl, rfl⟩
   go_wp2_with fail
   refine (isnan_any w b).mono ?_
   rintro e w1 ⟨rfl, rfl⟩
   go_wp2_with fail
   go_ret
   exact ⟨by rw [Hr.out]; unfold cmpI; rw [if_neg (by omega), if_neg (by omega)]; rfl, rfl⟩
theorem optext_any (w : World) (s : List UInt8) (hs : s.length ≤ maxLen) :
  Calls Tryz.prog 105 #[.string (str s)] w fun e w' => e = .returned (.bool (textOk s)) ∧ w = w' := by
 unfold maxLen at hs
 go_enter Tryz.func105, Tryz.ntmps105
 go_wp2_with fail
 go_loopw [6] (fun s6 wr => ∃ j : Nat, j ≤ s.length ∧ s6 = .int .i64 j ∧ (∀ i b, i < j → s[i]? = some b → 32 ≤ b.toNat ∧ b.toNat ≠ 127) ∧ wr = w) (fun s6 _ => s.length - (intOf s6).toNat)
 case atStart => exact ⟨0, by omega, rfl, fun i b h => absurd h (by omega), rfl⟩
 case round =>
  obtain ⟨j, hj, rfl, hgo, rfl⟩ := hrel
  by_cases hjl : j < s.length
  ·obtain ⟨b, hb⟩ : ∃ b, s[j]? = some b := ⟨_, List.getElem?_eq_getElem hjl⟩
   have d1 : decide (j < (str s).size) = true := decT (by rw [str_size]; omega)
   have q1 := str_index wr s j b hb
   by_cases hlo : b.toNat < 32
   ·have Hr := Lib.hid (show textOk s = false by
     cases h : textOk s with
     | false => rfl
     | true => have := ((textOk_iff s).1 h).2 j b hb; omega)
    have d2 : decide ((b.toNat : Int) < 32) = true := decT (by omega)
    go_wp2_with fail
    go_ret
    exact ⟨by rw [Hr.out]; rfl, rfl⟩
   ·have d2 : decide ((b.toNat : Int) < 32) = false := decF (by omega)
    by_cases hde : b.toNat = 127
    ·have Hr := Lib.hid (show textOk s = false by
      cases h : textOk s with
      | false => rfl
      | true => have := ((textOk_iff s).1 h).2 j b hb; omega)
     have Hd := Lib.hid hde
     have d3 : ((b.toNat : Int) == 127) = true := by rw [beq_iff_eq]; have := Hd.out; omega
     clear hde
     go_wp2_with fail
     go_ret
     exact ⟨by rw [Hr.out]; rfl, rfl⟩
    ·have d3 : ((b.toNat : Int) == 127) = false := by rw [beq_eq_false_iff_ne]; omega
     go_wp2_with fail
     go_roundw
     case rel => exact ⟨j + 1, by omega, by go_num, fun i c hi hc => by
      by_cases e : i = j
      ·subst e; rw [hb] at hc; cases hc; omega
      ·exact hgo i c (by omega) hc, trivial⟩
     case measure => simp [intOf]; omega
  ·have d1 : decide (j < (str s).size) = false := decF (by rw [str_size]; omega)
   by_cases h40 : s.length ≤ 40
   ·have Hr := Lib.hid (show textOk s = true from (textOk_iff s).2 ⟨h40, fun i b hb => hgo i b (by have := (List.getElem?_eq_some_iff.1 hb).1; omega) hb⟩)
    have d4 : decide (((str s).size : Int) ≤ 40) = true := decT (by rw [str_size]; omega)
    go_wp2_with fail
    go_ret
    exact ⟨by rw [Hr.out]; rfl, rfl⟩
   ·have Hr := Lib.hid (show textOk s = false by
     cases h : textOk s with
     | false => rfl
     | true => have := ((textOk_iff s).1 h).1; omega)
    have d4 : decide (((str s).size : Int) ≤ 40) = false := decF (by rw [str_size]; omega)
    go_wp2_with fail
    go_ret
    exact ⟨by rw [Hr.out]; rfl, rfl⟩
def orI : List Int → Int
 | [] => 0
 | a :: l => if a ≠ 0 then a else orI l
theorem or_any (w : World) (a : Option Addr) (c : Nat) (l : List Int) (h : Rd w a (is l)) (hl : l.length ≤ 1000) :
  Calls Tryz.prog 109 #[.slice a l.length c] w fun e w' => e = .returned (.int .i64 (orI l)) ∧ w = w' := by
 go_enter Tryz.func109, Tryz.ntmps109
 go_wp2_with fail
 go_loopw [8] (fun s8 wr => ∃ j : Nat, j ≤ l.length ∧ s8 = .int .i64 j ∧ orI (l.drop j) = orI l ∧ wr = w) (fun s8 _ => l.length - (intOf s8).toNat)
 case atStart => exact ⟨0, by omega, rfl, rfl, rfl⟩
 case round =>
  obtain ⟨j, hj, rfl, hor, rfl⟩ := hrel
  have Hor := Lib.hid hor
  clear hor
  by_cases hjl : j < l.length
  ·have d1 : decide (j < l.length) = true := decT hjl
   obtain ⟨ab, ao, rfl, hlt⟩ := h.shape (by rw [is_length]; omega)
   have q1 : wr.cell? ⟨ab, ao + j, none⟩ = some (.int .i64 l[j]) := by
    have := h.lookup j (by rw [is_length]; exact hjl)
    simpa [is, I64] using this
   have e1 : l.drop j = l[j] :: l.drop (j + 1) := List.drop_eq_getElem_cons hjl
   generalize l[j] = x at *
   have E1 := Lib.hid e1
   clear e1
   by_cases hx : x = 0
   ·have Hx := Lib.hid hx
    have d2 : (x == (0 : Int)) = true := by rw [beq_iff_eq]; exact hx
    clear hx
    go_wp2_with fail
    go_roundw
    case rel => exact ⟨j + 1, by omega, by go_num, by rw [← Hor.out, E1.out]; simp [orI, Hx.out], trivial⟩
    case measure => simp [intOf]; omega
   ·have Hx := Lib.hid hx
    have d2 : (x == (0 : Int)) = false := by rw [beq_eq_false_iff_ne]; exact hx
    clear hx
    go_wp2_with fail
    go_ret
    exact ⟨by rw [← Hor.out, E1.out]; simp [orI, Hx.out], rfl⟩
  ·have d1 : decide (j < l.length) = false := decF hjl
   go_wp2_with fail
   go_ret
   exact ⟨by rw [← Hor.out, List.drop_eq_nil_of_le (by omega)]; rfl, rfl⟩
theorem or_cmp (x y : DotR) : orI [cmpI x.dev y.dev, cmpI x.ep y.ep, cmpI x.seq y.seq] = x.cmp y := by
 unfold DotR.cmp
 simp only [orI]
 split
 ·rfl
 ·split
  ·rfl
  ·split <;> simp_all
theorem before_any (w : World) (x y : DotR) :
  Calls Tryz.prog 108 #[x.v, y.v] w fun e w' => e = .returned (.int .i64 (x.cmp y)) ∧ Ext no w w' := by
 go_enter Tryz.func108, Tryz.ntmps108
 unfold DotR.v
 go_upto_region 1 with fail
 have hb1 := Blk.lit w #[.int .i64 x.dev, .int .i64 x.ep, .int .i64 x.seq] 59
 have hx1 := Ext.alloc no w (.cells #[.int .i64 x.dev, .int .i64 x.ep, .int .i64 x.seq] 59)
 have hb2 := Blk.at (w.alloc (.cells #[.int .i64 x.dev, .int .i64 x.ep, .int .i64 x.seq] 59)) #[.int .i64 y.dev, .int .i64 y.ep, .int .i64 y.seq] 59 (w.heap.size + 1) (by simp)
 have hx2 := Ext.alloc no (w.alloc (.cells #[.int .i64 x.dev, .int .i64 x.ep, .int .i64 x.seq] 59)) (.cells #[.int .i64 y.dev, .int .i64 y.ep, .int .i64 y.seq] 59)
 have hb1' := hb1.ext (by simp) hx2 (fun h => h)
 replace hx1 := hx1.comp hx2
 clear hb1 hx2
 generalize (w.alloc (.cells #[.int .i64 x.dev, .int .i64 x.ep, .int .i64 x.seq] 59)).alloc (.cells #[.int .i64 y.dev, .int .i64 y.ep, .int .i64 y.seq] 59) = w1 at *
 have p0 := hb1'.cell 0 _ rfl
 have p1 := hb1'.cell 1 _ rfl
 have p2 := hb1'.cell 2 _ rfl
 have q0 := hb2.cell 0 _ rfl
 have q1 := hb2.cell 1 _ rfl
 have q2 := hb2.cell 2 _ rfl
 have hS0 := Ext.drew no w1
 --<B
 refine wp_region_E [1, 3, 6, 8, 11, 13] (fun z => Ext no w1 z) (by kernel_rfl) ?_
 refine wpE_take 0 (v := ?_) rfl (by kernel_rfl) (by kernel_rfl) (by kernel_rfl) (fun _ _ _ h => h) hS0 (by rfl) ?_ ?_
 rotate_left
 ·(intro wq; go_simp; try with_reducible rfl)
 simp only [pz]
 refine wpE_look 1 (v := .int .i64 x.dev) rfl rfl (by kernel_rfl) (by kernel_rfl) (by kernel_rfl) (by kernel_rfl) (fun _ _ _ h => h) hS0 (by rfl) (fun w hS => by have q := hS.keeps p0 (fun h => h); go_simp) ?_
 simp only [pz]
 refine wpE_take 2 (v := ?_) rfl (by kernel_rfl) (by kernel_rfl) (by kernel_rfl) (fun _ _ _ h => h) hS0 (by rfl) ?_ ?_
 rotate_left
 ·(intro wq; go_simp; try with_reducible rfl)
 simp only [pz]
 refine wpE_look 3 (v := .int .i64 y.dev) rfl rfl (by kernel_rfl) (by kernel_rfl) (by kernel_rfl) (by kernel_rfl) (fun _ _ _ h => h) hS0 (by rfl) (fun w hS => by have q := hS.keeps q0 (fun h => h); go_simp) ?_
 simp only [pz]
 refine wpE_take 5 (v := ?_) rfl (by kernel_rfl) (by kernel_rfl) (by kernel_rfl) (fun _ _ _ h => h) hS0 (by rfl) ?_ ?_
 rotate_left
 ·(intro wq; go_simp; try with_reducible rfl)
 simp only [pz]
 refine wpE_look 6 (v := .int .i64 x.ep) rfl rfl (by kernel_rfl) (by kernel_rfl) (by kernel_rfl) (by kernel_rfl) (fun _ _ _ h => h) hS0 (by rfl) (fun w hS => by have q := hS.keeps p1 (fun h => h); go_simp) ?_
 simp only [pz]
 refine wpE_take 7 (v := ?_) rfl (by kernel_rfl) (by kernel_rfl) (by kernel_rfl) (fun _ _ _ h => h) hS0 (by rfl) ?_ ?_
 rotate_left
 ·(intro wq; go_simp; try with_reducible rfl)
 simp only [pz]
 refine wpE_look 8 (v := .int .i64 y.ep) rfl rfl (by kernel_rfl) (by kernel_rfl) (by kernel_rfl) (by kernel_rfl) (fun _ _ _ h => h) hS0 (by rfl) (fun w hS => by have q := hS.keeps q1 (fun h => h); go_simp) ?_
 simp only [pz]
 refine wpE_take 10 (v := ?_) rfl (by kernel_rfl) (by kernel_rfl) (by kernel_rfl) (fun _ _ _ h => h) hS0 (by rfl) ?_ ?_
 rotate_left
 ·(intro wq; go_simp; try with_reducible rfl)
 simp only [pz]
 refine wpE_look 11 (v := .int .i64 x.seq) rfl rfl (by kernel_rfl) (by kernel_rfl) (by kernel_rfl) (by kernel_rfl) (fun _ _ _ h => h) hS0 (by rfl) (fun w hS => by have q := hS.keeps p2 (fun h => h); go_simp) ?_
 simp only [pz]
 refine wpE_take 12 (v := ?_) rfl (by kernel_rfl) (by kernel_rfl) (by kernel_rfl) (fun _ _ _ h => h) hS0 (by rfl) ?_ ?_
 rotate_left
 ·(intro wq; go_simp; try with_reducible rfl)
 simp only [pz]
 refine wpE_look 13 (v := .int .i64 y.seq) rfl rfl (by kernel_rfl) (by kernel_rfl) (by kernel_rfl) (by kernel_rfl) (fun _ _ _ h => h) hS0 (by rfl) (fun w hS => by have q := hS.keeps q2 (fun h => h); go_simp) ?_
 simp only [pz]
 refine wpE_exec 4 rfl (by kernel_rfl) (by rfl) ?_
 intro K hK
 go_simp
 refine (compare_any w1.drew x.dev y.dev).mono ?_
 rintro e w5 ⟨rfl, rfl⟩
 have hS4 := hS0
 refine hK _ _ (fun z => Ext no w1 z) (.inr (fun z h => h)) hS4 ?_
 clear hK K
 refine wpE_exec 9 rfl (by kernel_rfl) (by rfl) ?_
 intro K hK
 go_simp
 refine (compare_any w1.drew x.ep y.ep).mono ?_
 rintro e w5 ⟨rfl, rfl⟩
 have hS9 := hS0
 refine hK _ _ (fun z => Ext no w1 z) (.inr (fun z h => h)) hS9 ?_
 clear hK K
 refine wpE_exec 14 rfl (by kernel_rfl) (by rfl) ?_
 intro K hK
 go_simp
 refine (compare_any w1.drew x.seq y.seq).mono ?_
 rintro e w5 ⟨rfl, rfl⟩
 have hS14 := hS0
 refine hK _ _ (fun z => Ext no w1 z) (.inr (fun z h => h)) hS14 ?_
 clear hK K
 refine wpE_exec 15 rfl (by kernel_rfl) (by rfl) ?_
 intro K hK
 go_simp
 have hSa : Ext no w1 (w1.drew.alloc (.cells #[.int .i64 (cmpI x.dev y.dev), .int .i64 (cmpI x.ep y.ep), .int .i64 (cmpI x.seq y.seq)] 3)) := hS0.comp (Ext.alloc no w1.drew _)
 have hS15 := hSa
 refine hK _ _ (fun z => Ext no w1 z) (.inr (fun z h => h)) hS15 ?_
 clear hK K
 refine wpE_exec 16 rfl (by kernel_rfl) (by rfl) ?_
 intro K hK
 go_simp
 refine (or_any (w1.drew.alloc (.cells #[.int .i64 (cmpI x.dev y.dev), .int .i64 (cmpI x.ep y.ep), .int .i64 (cmpI x.seq y.seq)] 3)) (some ⟨w1.heap.size, 0, none⟩) 3 [cmpI x.dev y.dev, cmpI x.ep y.ep, cmpI x.seq y.seq] (Rd.lit w1.drew _ _ _) (by simp)).mono ?_
 rintro e w5 ⟨rfl, rfl⟩
 have hS16 := hS15
 refine hK _ _ (fun z => Ext no w1 z) (.inr (fun z h => h)) hS16 ?_
 clear hK K
 refine wpE_take 17 (v := ?_) rfl (by kernel_rfl) (by kernel_rfl) (by kernel_rfl) (fun _ _ _ h => h) hS16 (by rfl) ?_ ?_
 rotate_left
 ·(intro wq; go_simp; try with_reducible rfl)
 simp only [pz]
 refine wpE_done (by kernel_rfl) ?_ _
 go_wp2_with fail
 go_ret
 exact ⟨by rw [← or_cmp]; rfl, hx1.comp hSa⟩
 -->B
set_option maxHeartbeats 1000000 in
theorem dots_any (w : World) (a : Option Addr) (c : Nat) (l : List DotR) (h : Rd w a (ds l)) (hl : l.length ≤ 1099511627776) :
  Calls Tryz.prog 107 #[.slice a l.length c] w fun e w' => e = .returned (.int .i64 (dotsErr l)) ∧ Ext no w w' := by
 by_cases h8 : 8 < l.length
 ·have Hr := Lib.hid (show dotsErr l = 4 by unfold dotsErr; rw [if_pos h8])
  have d8 : decide ((8 : Int) < l.length) = true := decT (by omega)
  go_enter Tryz.func107, Tryz.ntmps107
  go_wp2_with fail
  go_ret
  exact ⟨by rw [Hr.out]; rfl, Ext.refl _ _⟩
 ·have d8 : decide ((8 : Int) < l.length) = false := decF (by omega)
  go_enter Tryz.func107, Tryz.ntmps107
  go_wp2_with fail
  go_loopw [9] (fun s9 wr => ∃ i : Nat, i ≤ l.length ∧ s9 = .int .i64 i ∧ (∀ (j : Nat) (a b : DotR), j + 1 < i → l[j]? = some a → l[j + 1]? = some b → a.lt b = true) ∧ Ext no w wr) (fun s9 _ => l.length - (intOf s9).toNat)
  case atStart => exact ⟨0, by omega, rfl, fun j a b hj => absurd hj (by omega), Ext.refl _ _⟩
  case round =>
   obtain ⟨i, hi, rfl, hgo, hx⟩ := hrel
   by_cases hil : i < l.length
   ·have d1 : decide (i < l.length) = true := decT hil
    have hr := h.ext hx (fun _ _ h => h)
    obtain ⟨ab, ao, rfl, hlt⟩ := ds_shape hr (by omega)
    have hS0 := Ext.drew no wr
    rcases Nat.eq_zero_or_pos i with rfl | hpos
    ·go_upto_region 6 with fail
     --<D0
     refine wp_region_E [] (fun z => Ext no wr z) (by kernel_rfl) ?_
     refine wpE_take 0 (v := ?_) rfl (by kernel_rfl) (by kernel_rfl) (by kernel_rfl) (fun _ _ _ h => h) hS0 (by rfl) ?_ ?_
     rotate_left
     ·(intro wq; go_simp; try with_reducible rfl)
     simp only [pz]
     refine wpE_take 1 (v := .bool false) rfl (by kernel_rfl) (by kernel_rfl) (by kernel_rfl) (fun _ _ _ h => h) hS0 (by rfl) (by intro wq; go_simp) ?_
     simp only [pz]
     refine wpE_take 2 (v := ?_) rfl (by kernel_rfl) (by kernel_rfl) (by kernel_rfl) (fun _ _ _ h => h) hS0 (by rfl) ?_ ?_
     rotate_left
     ·(intro wq; go_simp; try with_reducible rfl)
     simp only [pz]
     refine wpE_skip 3 rfl (by kernel_rfl) (by kernel_rfl) (by kernel_rfl) (fun _ _ _ h => h) hS0 (by rfl) ?_
     simp only [pz]
     refine wpE_skip 4 rfl (by kernel_rfl) (by kernel_rfl) (by kernel_rfl) (fun _ _ _ h => h) hS0 (by rfl) ?_
     simp only [pz]
     refine wpE_skip 5 rfl (by kernel_rfl) (by kernel_rfl) (by kernel_rfl) (fun _ _ _ h => h) hS0 (by rfl) ?_
     simp only [pz]
     refine wpE_skip 6 rfl (by kernel_rfl) (by kernel_rfl) (by kernel_rfl) (fun _ _ _ h => h) hS0 (by rfl) ?_
     simp only [pz]
     refine wpE_skip 7 rfl (by kernel_rfl) (by kernel_rfl) (by kernel_rfl) (fun _ _ _ h => h) hS0 (by rfl) ?_
     simp only [pz]
     refine wpE_skip 8 rfl (by kernel_rfl) (by kernel_rfl) (by kernel_rfl) (fun _ _ _ h => h) hS0 (by rfl) ?_
     simp only [pz]
     refine wpE_skip 9 rfl (by kernel_rfl) (by kernel_rfl) (by kernel_rfl) (fun _ _ _ h => h) hS0 (by rfl) ?_
     simp only [pz]
     refine wpE_skip 10 rfl (by kernel_rfl) (by kernel_rfl) (by kernel_rfl) (fun _ _ _ h => h) hS0 (by rfl) ?_
     simp only [pz]
     refine wpE_skip 11 rfl (by kernel_rfl) (by kernel_rfl) (by kernel_rfl) (fun _ _ _ h => h) hS0 (by rfl) ?_
     simp only [pz]
     refine wpE_skip 12 rfl (by kernel_rfl) (by kernel_rfl) (by kernel_rfl) (fun _ _ _ h => h) hS0 (by rfl) ?_
     simp only [pz]
     refine wpE_skip 13 rfl (by kernel_rfl) (by kernel_rfl) (by kernel_rfl) (fun _ _ _ h => h) hS0 (by rfl) ?_
     simp only [pz]
     refine wpE_take 14 (v := ?_) rfl (by kernel_rfl) (by kernel_rfl) (by kernel_rfl) (fun _ _ _ h => h) hS0 (by rfl) ?_ ?_
     rotate_left
     ·(intro wq; go_simp; try with_reducible rfl)
     simp only [pz]
     refine wpE_done (by kernel_rfl) ?_ _
     go_wp2_with fail
     go_roundw
     case rel => exact ⟨0 + 1, by omega, by go_num, fun j a b hj ha hb => absurd hj (by omega), hx.comp hS0⟩
     case measure => simp [intOf]; omega
     -->D0
    ·obtain ⟨m, rfl⟩ : ∃ m, i = m + 1 := ⟨i - 1, by omega⟩
     have hm1 : m < l.length := by omega
     obtain ⟨x, hxm⟩ : ∃ x, l[m]? = some x := ⟨_, List.getElem?_eq_getElem hm1⟩
     obtain ⟨y, hym⟩ : ∃ y, l[m + 1]? = some y := ⟨_, List.getElem?_eq_getElem hil⟩
     have x0 := ds_cell hr hxm 0 _ rfl
     have x1 := ds_cell hr hxm 1 _ rfl
     have x2 := ds_cell hr hxm 2 _ rfl
     have y0 := ds_cell hr hym 0 _ rfl
     have y1 := ds_cell hr hym 1 _ rfl
     have y2 := ds_cell hr hym 2 _ rfl
     rw [Nat.add_zero] at x0 y0
     have d2 : decide ((0 : Int) < ((m + 1 : Nat) : Int)) = true := decT (by omega)
     by_cases hlt2 : x.lt y = true
     ·have HL := Lib.hid hlt2
      have d3 : decide ((0 : Int) ≤ x.cmp y) = false := decF (by have := (DotR.cmp_lt x y).2 hlt2; omega)
      clear hlt2
      go_upto_region 6 with fail
      --<D1
      refine wp_region_E [7, 11] (fun z => Ext no wr z) (by kernel_rfl) ?_
      refine wpE_take 0 (v := ?_) rfl (by kernel_rfl) (by kernel_rfl) (by kernel_rfl) (fun _ _ _ h => h) hS0 (by rfl) ?_ ?_
      rotate_left
      ·(intro wq; go_simp; try with_reducible rfl)
      simp only [pz]
      refine wpE_take 1 (v := .bool true) rfl (by kernel_rfl) (by kernel_rfl) (by kernel_rfl) (fun _ _ _ h => h) hS0 (by rfl) (by intro wq; go_simp) ?_
      simp only [pz]
      refine wpE_take 2 (v := ?_) rfl (by kernel_rfl) (by kernel_rfl) (by kernel_rfl) (fun _ _ _ h => h) hS0 (by rfl) ?_ ?_
      rotate_left
      ·(intro wq; go_simp; try with_reducible rfl)
      simp only [pz]
      refine wpE_take 3 (v := ?_) rfl (by kernel_rfl) (by kernel_rfl) (by kernel_rfl) (fun _ _ _ h => h) hS0 (by rfl) ?_ ?_
      rotate_left
      ·(intro wq; go_simp; try with_reducible rfl)
      simp only [pz]
      refine wpE_take 4 (v := ?_) rfl (by kernel_rfl) (by kernel_rfl) (by kernel_rfl) (fun _ _ _ h => h) hS0 (by rfl) ?_ ?_
      rotate_left
      ·(intro wq; go_simp; try with_reducible rfl)
      simp only [pz]
      refine wpE_take 5 (v := .int .i64 (m : Int)) rfl (by kernel_rfl) (by kernel_rfl) (by kernel_rfl) (fun _ _ _ h => h) hS0 (by rfl) (by intro wq; go_simp; rw [IntKind.wrap_i64]; omega) ?_
      simp only [pz]
      refine wpE_take 6 (v := .pointer (some ⟨ab, ao + m * 3, none⟩)) rfl (by kernel_rfl) (by kernel_rfl) (by kernel_rfl) (fun _ _ _ h => h) hS0 (by rfl) (by intro wq; go_simp) ?_
      simp only [pz]
      refine wpE_look 7 (v := .agg #[.int .i64 x.dev, .int .i64 x.ep, .int .i64 x.seq]) rfl rfl (by kernel_rfl) (by kernel_rfl) (by kernel_rfl) (by kernel_rfl) (fun _ _ _ h => h) hS0 (by rfl) (fun w hS => by have q0 := hS.keeps x0 (fun h => h); have q1 := hS.keeps x1 (fun h => h); have q2 := hS.keeps x2 (fun h => h); go_simp) ?_
      simp only [pz]
      refine wpE_take 8 (v := ?_) rfl (by kernel_rfl) (by kernel_rfl) (by kernel_rfl) (fun _ _ _ h => h) hS0 (by rfl) ?_ ?_
      rotate_left
      ·(intro wq; go_simp; try with_reducible rfl)
      simp only [pz]
      refine wpE_take 9 (v := ?_) rfl (by kernel_rfl) (by kernel_rfl) (by kernel_rfl) (fun _ _ _ h => h) hS0 (by rfl) ?_ ?_
      rotate_left
      ·(intro wq; go_simp; try with_reducible rfl)
      simp only [pz]
      refine wpE_take 10 (v := .pointer (some ⟨ab, ao + (m + 1) * 3, none⟩)) rfl (by kernel_rfl) (by kernel_rfl) (by kernel_rfl) (fun _ _ _ h => h) hS0 (by rfl) (by intro wq; go_simp; intro hh; omega) ?_
      simp only [pz]
      refine wpE_look 11 (v := .agg #[.int .i64 y.dev, .int .i64 y.ep, .int .i64 y.seq]) rfl rfl (by kernel_rfl) (by kernel_rfl) (by kernel_rfl) (by kernel_rfl) (fun _ _ _ h => h) hS0 (by rfl) (fun w hS => by have q0 := hS.keeps y0 (fun h => h); have q1 := hS.keeps y1 (fun h => h); have q2 := hS.keeps y2 (fun h => h); go_simp) ?_
      simp only [pz]
      refine wpE_exec 12 rfl (by kernel_rfl) (by rfl) ?_
      intro K hK
      go_simp
      refine (before_any wr.drew x y).mono ?_
      rintro e w5 ⟨rfl, hx5⟩
      have hS1 := hS0.comp hx5
      refine hK _ _ (fun z => Ext no wr z) (.inr (fun z h => h)) hS1 ?_
      clear hK K
      refine wpE_take 13 (v := .bool false) rfl (by kernel_rfl) (by kernel_rfl) (by kernel_rfl) (fun _ _ _ h => h) hS1 (by rfl) (by intro wq; go_simp) ?_
      simp only [pz]
      refine wpE_take 14 (v := ?_) rfl (by kernel_rfl) (by kernel_rfl) (by kernel_rfl) (fun _ _ _ h => h) hS1 (by rfl) ?_ ?_
      rotate_left
      ·(intro wq; go_simp; try with_reducible rfl)
      simp only [pz]
      refine wpE_done (by kernel_rfl) ?_ _
      go_wp2_with fail
      go_roundw
      case rel => exact ⟨m + 1 + 1, by omega, by go_num, fun j a b hj ha hb => by
       by_cases e : j = m
       ·subst e; rw [hxm] at ha; rw [hym] at hb; cases ha; cases hb; exact HL.out
       ·exact hgo j a b (by omega) ha hb, hx.comp hS1⟩
      case measure => simp [intOf]; omega
      -->D1
     ·have Hr := Lib.hid (show dotsErr l = 10 by
       unfold dotsErr
       rw [if_neg h8, if_neg (fun hh => hlt2 ((risesB_iff l).1 hh m x y hxm hym))])
      have d3 : decide ((0 : Int) ≤ x.cmp y) = true := decT (by
       by_cases h0 : 0 ≤ x.cmp y
       ·exact h0
       ·exact absurd ((DotR.cmp_lt x y).1 (by omega)) hlt2)
      clear hlt2
      go_upto_region 6 with fail
      --<D2
      refine wp_region_E [7, 11] (fun z => Ext no wr z) (by kernel_rfl) ?_
      refine wpE_take 0 (v := ?_) rfl (by kernel_rfl) (by kernel_rfl) (by kernel_rfl) (fun _ _ _ h => h) hS0 (by rfl) ?_ ?_
      rotate_left
      ·(intro wq; go_simp; try with_reducible rfl)
      simp only [pz]
      refine wpE_take 1 (v := .bool true) rfl (by kernel_rfl) (by kernel_rfl) (by kernel_rfl) (fun _ _ _ h => h) hS0 (by rfl) (by intro wq; go_simp) ?_
      simp only [pz]
      refine wpE_take 2 (v := ?_) rfl (by kernel_rfl) (by kernel_rfl) (by kernel_rfl) (fun _ _ _ h => h) hS0 (by rfl) ?_ ?_
      rotate_left
      ·(intro wq; go_simp; try with_reducible rfl)
      simp only [pz]
      refine wpE_take 3 (v := ?_) rfl (by kernel_rfl) (by kernel_rfl) (by kernel_rfl) (fun _ _ _ h => h) hS0 (by rfl) ?_ ?_
      rotate_left
      ·(intro wq; go_simp; try with_reducible rfl)
      simp only [pz]
      refine wpE_take 4 (v := ?_) rfl (by kernel_rfl) (by kernel_rfl) (by kernel_rfl) (fun _ _ _ h => h) hS0 (by rfl) ?_ ?_
      rotate_left
      ·(intro wq; go_simp; try with_reducible rfl)
      simp only [pz]
      refine wpE_take 5 (v := .int .i64 (m : Int)) rfl (by kernel_rfl) (by kernel_rfl) (by kernel_rfl) (fun _ _ _ h => h) hS0 (by rfl) (by intro wq; go_simp; rw [IntKind.wrap_i64]; omega) ?_
      simp only [pz]
      refine wpE_take 6 (v := .pointer (some ⟨ab, ao + m * 3, none⟩)) rfl (by kernel_rfl) (by kernel_rfl) (by kernel_rfl) (fun _ _ _ h => h) hS0 (by rfl) (by intro wq; go_simp) ?_
      simp only [pz]
      refine wpE_look 7 (v := .agg #[.int .i64 x.dev, .int .i64 x.ep, .int .i64 x.seq]) rfl rfl (by kernel_rfl) (by kernel_rfl) (by kernel_rfl) (by kernel_rfl) (fun _ _ _ h => h) hS0 (by rfl) (fun w hS => by have q0 := hS.keeps x0 (fun h => h); have q1 := hS.keeps x1 (fun h => h); have q2 := hS.keeps x2 (fun h => h); go_simp) ?_
      simp only [pz]
      refine wpE_take 8 (v := ?_) rfl (by kernel_rfl) (by kernel_rfl) (by kernel_rfl) (fun _ _ _ h => h) hS0 (by rfl) ?_ ?_
      rotate_left
      ·(intro wq; go_simp; try with_reducible rfl)
      simp only [pz]
      refine wpE_take 9 (v := ?_) rfl (by kernel_rfl) (by kernel_rfl) (by kernel_rfl) (fun _ _ _ h => h) hS0 (by rfl) ?_ ?_
      rotate_left
      ·(intro wq; go_simp; try with_reducible rfl)
      simp only [pz]
      refine wpE_take 10 (v := .pointer (some ⟨ab, ao + (m + 1) * 3, none⟩)) rfl (by kernel_rfl) (by kernel_rfl) (by kernel_rfl) (fun _ _ _ h => h) hS0 (by rfl) (by intro wq; go_simp; intro hh; omega) ?_
      simp only [pz]
      refine wpE_look 11 (v := .agg #[.int .i64 y.dev, .int .i64 y.ep, .int .i64 y.seq]) rfl rfl (by kernel_rfl) (by kernel_rfl) (by kernel_rfl) (by kernel_rfl) (fun _ _ _ h => h) hS0 (by rfl) (fun w hS => by have q0 := hS.keeps y0 (fun h => h); have q1 := hS.keeps y1 (fun h => h); have q2 := hS.keeps y2 (fun h => h); go_simp) ?_
      simp only [pz]
      refine wpE_exec 12 rfl (by kernel_rfl) (by rfl) ?_
      intro K hK
      go_simp
      refine (before_any wr.drew x y).mono ?_
      rintro e w5 ⟨rfl, hx5⟩
      have hS1 := hS0.comp hx5
      refine hK _ _ (fun z => Ext no wr z) (.inr (fun z h => h)) hS1 ?_
      clear hK K
      refine wpE_take 13 (v := .bool true) rfl (by kernel_rfl) (by kernel_rfl) (by kernel_rfl) (fun _ _ _ h => h) hS1 (by rfl) (by intro wq; go_simp) ?_
      simp only [pz]
      refine wpE_take 14 (v := ?_) rfl (by kernel_rfl) (by kernel_rfl) (by kernel_rfl) (fun _ _ _ h => h) hS1 (by rfl) ?_ ?_
      rotate_left
      ·(intro wq; go_simp; try with_reducible rfl)
      simp only [pz]
      refine wpE_done (by kernel_rfl) ?_ _
      go_wp2_with fail
      go_ret
      exact ⟨by rw [Hr.out]; rfl, hx.comp hS1⟩
      -->D2
   ·have d1 : decide (i < l.length) = false := decF hil
    have Hr := Lib.hid (show dotsErr l = 0 by
     unfold dotsErr
     rw [if_neg h8, if_pos ((risesB_iff l).2 (fun j a b ha hb => hgo j a b (by have := (List.getElem?_eq_some_iff.1 hb).1; omega) ha hb))])
    go_wp2_with fail
    go_ret
    exact ⟨by rw [Hr.out]; rfl, hx⟩
end Go.Proofs.YtddobhihjljcgaaGreat
/- Walks of the package ops: kind, Check. -/
namespace Go.Proofs.YtddobhihjljcgaaGreat
open Go.RowKit Go.Esc
set_option linter.unusedVariables false
set_option maxHeartbeats 1000000 in
theorem kind_any (w : World) (o : OpR) (a : Option Addr) (c : Nat) (h : Rd w a (ds o.dots)) (hl : o.dots.length ≤ 1099511627776) (hk : 1 ≤ o.kind ∧ o.kind ≤ 5) :
  Calls Tryz.prog 106 #[o.v a c] w fun e w' => e = .returned (.int .i64 (kindErr o)) ∧ Ext no w w' := by
 go_enter Tryz.func106, Tryz.ntmps106
 unfold OpR.v
 go_upto_region 1 with fail
 have hb := Blk.lit w #[.int .i64 o.dot.dev, .int .i64 o.dot.ep, .int .i64 o.dot.seq, .int .i64 o.coll, .int .i64 o.ver, .int .i64 o.kind, .string (str o.key), .string (str o.text), .int .i64 o.n, .int .i64 o.time, .slice a o.dots.length c] 62
 have hx := Ext.alloc no w (.cells #[.int .i64 o.dot.dev, .int .i64 o.dot.ep, .int .i64 o.dot.seq, .int .i64 o.coll, .int .i64 o.ver, .int .i64 o.kind, .string (str o.key), .string (str o.text), .int .i64 o.n, .int .i64 o.time, .slice a o.dots.length c] 62)
 generalize w.alloc (.cells #[.int .i64 o.dot.dev, .int .i64 o.dot.ep, .int .i64 o.dot.seq, .int .i64 o.coll, .int .i64 o.ver, .int .i64 o.kind, .string (str o.key), .string (str o.text), .int .i64 o.n, .int .i64 o.time, .slice a o.dots.length c] 62) = w1 at *
 have b0 := hb.cell 0 _ rfl
 have b1 := hb.cell 1 _ rfl
 have b2 := hb.cell 2 _ rfl
 have b3 := hb.cell 3 _ rfl
 have b4 := hb.cell 4 _ rfl
 have b5 := hb.cell 5 _ rfl
 have b6 := hb.cell 6 _ rfl
 have b7 := hb.cell 7 _ rfl
 have b8 := hb.cell 8 _ rfl
 have b9 := hb.cell 9 _ rfl
 have b10 := hb.cell 10 _ rfl
 clear hb
 generalize w.heap.size = cb at *
 have hk' : o.kind = 1 ∨ o.kind = 2 ∨ o.kind = 3 ∨ o.kind = 4 ∨ o.kind = 5 := by omega
 rcases hk' with hk1 | hk1 | hk1 | hk1 | hk1
 ·by_cases hkey : o.key = []
  ·have Hr := Lib.hid (show kindErr o = 1 by unfold kindErr; rw [if_pos ⟨by omega, hkey⟩])
   have s0 := beqEmptyT hkey
   rw [hk1] at b5
   clear hk hk1 hkey
   go_wp2_with fail
   go_ret
   exact ⟨by rw [Hr.out]; rfl, hx⟩
  ·have Hk := Lib.hid (show ¬ (o.kind ≠ 5 ∧ o.key = []) from fun h => hkey h.2)
   have s0 := beqEmptyF hkey
   clear hkey
   have Hr := Lib.hid (show kindErr o = 0 by unfold kindErr; rw [if_neg Hk.out, if_neg (by omega), if_neg (by omega), if_neg (by omega)])
   rw [hk1] at b5
   clear hk hk1
   go_wp2_with fail
   go_ret
   exact ⟨by rw [Hr.out]; rfl, hx⟩
 ·by_cases hkey : o.key = []
  ·have Hr := Lib.hid (show kindErr o = 1 by unfold kindErr; rw [if_pos ⟨by omega, hkey⟩])
   have s0 := beqEmptyT hkey
   rw [hk1] at b5
   clear hk hk1 hkey
   go_wp2_with fail
   go_ret
   exact ⟨by rw [Hr.out]; rfl, hx⟩
  ·have Hk := Lib.hid (show ¬ (o.kind ≠ 5 ∧ o.key = []) from fun h => hkey h.2)
   have s0 := beqEmptyF hkey
   clear hkey
   have Hr := Lib.hid (show kindErr o = 0 by unfold kindErr; rw [if_neg Hk.out, if_neg (by omega), if_neg (by omega), if_neg (by omega)])
   rw [hk1] at b5
   clear hk hk1
   go_wp2_with fail
   go_ret
   exact ⟨by rw [Hr.out]; rfl, hx⟩
 ·by_cases hkey : o.key = []
  ·have Hr := Lib.hid (show kindErr o = 1 by unfold kindErr; rw [if_pos ⟨by omega, hkey⟩])
   have s0 := beqEmptyT hkey
   rw [hk1] at b5
   clear hk hk1 hkey
   go_wp2_with fail
   go_ret
   exact ⟨by rw [Hr.out]; rfl, hx⟩
  ·have Hk := Lib.hid (show ¬ (o.kind ≠ 5 ∧ o.key = []) from fun h => hkey h.2)
   have s0 := beqEmptyF hkey
   clear hkey
   have Hr := Lib.hid (show kindErr o = dotsErr o.dots by unfold kindErr; rw [if_neg Hk.out, if_pos hk1])
   rw [hk1] at b5
   clear hk hk1
   go_wp2_with fail
   refine (dots_any w1 a c o.dots (h.ext hx (fun _ _ h => h)) hl).mono ?_
   rintro e w2 ⟨rfl, hx2⟩
   go_wp2_with fail
   go_ret
   exact ⟨by rw [Hr.out]; rfl, hx.comp hx2⟩
 ·by_cases hkey : o.key = []
  ·have Hr := Lib.hid (show kindErr o = 1 by unfold kindErr; rw [if_pos ⟨by omega, hkey⟩])
   have s0 := beqEmptyT hkey
   rw [hk1] at b5
   clear hk hk1 hkey
   go_wp2_with fail
   go_ret
   exact ⟨by rw [Hr.out]; rfl, hx⟩
  ·have Hk := Lib.hid (show ¬ (o.kind ≠ 5 ∧ o.key = []) from fun h => hkey h.2)
   have s0 := beqEmptyF hkey
   clear hkey
   by_cases hn0 : o.n = 0
   ·have Hr := Lib.hid (show kindErr o = 11 by unfold kindErr; rw [if_neg Hk.out, if_neg (by omega), if_pos hk1, if_pos (.inl hn0)])
    rw [hk1] at b5
    rw [hn0] at b8
    clear hk hk1 hn0
    go_wp2_with fail
    go_ret
    exact ⟨by rw [Hr.out]; rfl, hx⟩
   ·have z0 : (o.n == (0 : Int)) = false := by rw [beq_eq_false_iff_ne]; exact hn0
    by_cases hnr : -1099511627776 ≤ o.n ∧ o.n ≤ 1099511627776
    ·have Hr := Lib.hid (show kindErr o = 0 by unfold kindErr; rw [if_neg Hk.out, if_neg (by omega), if_pos hk1, if_neg (by rintro (h | h); exact hn0 h; exact h hnr)])
     have Hd := Lib.hid (decT hnr)
     rw [hk1] at b5
     clear hk hk1 hn0 hnr
     go_wp2_with fail
     refine (opwithin_any w1 o.n (-1099511627776) 1099511627776).mono ?_
     rintro e w2 ⟨rfl, rfl⟩
     rw [Hd.out]
     go_wp2_with fail
     go_ret
     exact ⟨by rw [Hr.out]; rfl, hx⟩
    ·have Hr := Lib.hid (show kindErr o = 11 by unfold kindErr; rw [if_neg Hk.out, if_neg (by omega), if_pos hk1, if_pos (.inr hnr)])
     have Hd := Lib.hid (decF hnr)
     rw [hk1] at b5
     clear hk hk1 hn0 hnr
     go_wp2_with fail
     refine (opwithin_any w1 o.n (-1099511627776) 1099511627776).mono ?_
     rintro e w2 ⟨rfl, rfl⟩
     rw [Hd.out]
     go_wp2_with fail
     go_ret
     exact ⟨by rw [Hr.out]; rfl, hx⟩
 ·have Hk := Lib.hid (show ¬ (o.kind ≠ 5 ∧ o.key = []) from fun h => h.1 hk1)
  by_cases hnr : 0 ≤ o.n ∧ o.n ≤ 999
  ·have Hr := Lib.hid (show kindErr o = 0 by unfold kindErr; rw [if_neg Hk.out, if_neg (by omega), if_neg (by omega), if_pos hk1, if_pos hnr])
   have Hd := Lib.hid (decT hnr)
   rw [hk1] at b5
   clear hk hk1 hnr
   go_wp2_with fail
   refine (opwithin_any w1 o.n 0 999).mono ?_
   rintro e w2 ⟨rfl, rfl⟩
   rw [Hd.out]
   go_wp2_with fail
   go_ret
   exact ⟨by rw [Hr.out]; rfl, hx⟩
  ·have Hr := Lib.hid (show kindErr o = 11 by unfold kindErr; rw [if_neg Hk.out, if_neg (by omega), if_neg (by omega), if_pos hk1, if_neg hnr])
   have Hd := Lib.hid (decF hnr)
   rw [hk1] at b5
   clear hk hk1 hnr
   go_wp2_with fail
   refine (opwithin_any w1 o.n 0 999).mono ?_
   rintro e w2 ⟨rfl, rfl⟩
   rw [Hd.out]
   go_wp2_with fail
   go_ret
   exact ⟨by rw [Hr.out]; rfl, hx⟩
set_option maxHeartbeats 2000000 in
theorem check_any (w : World) (o : OpR) (a : Option Addr) (c : Nat) (h : Rd w a (ds o.dots)) (hl : o.dots.length ≤ 1099511627776) (hks : o.key.length ≤ maxLen) (hts : o.text.length ≤ maxLen) :
  Calls Tryz.prog 100 #[o.v a c] w fun e w' => e = .returned (.int .i64 (checkOp o)) ∧ Ext no w w' := by
 go_enter Tryz.func100, Tryz.ntmps100
 unfold OpR.v
 go_upto_region 1 with fail
 have hb := Blk.lit w #[.int .i64 o.dot.dev, .int .i64 o.dot.ep, .int .i64 o.dot.seq, .int .i64 o.coll, .int .i64 o.ver, .int .i64 o.kind, .string (str o.key), .string (str o.text), .int .i64 o.n, .int .i64 o.time, .slice a o.dots.length c] 62
 have hx := Ext.alloc no w (.cells #[.int .i64 o.dot.dev, .int .i64 o.dot.ep, .int .i64 o.dot.seq, .int .i64 o.coll, .int .i64 o.ver, .int .i64 o.kind, .string (str o.key), .string (str o.text), .int .i64 o.n, .int .i64 o.time, .slice a o.dots.length c] 62)
 generalize w.alloc (.cells #[.int .i64 o.dot.dev, .int .i64 o.dot.ep, .int .i64 o.dot.seq, .int .i64 o.coll, .int .i64 o.ver, .int .i64 o.kind, .string (str o.key), .string (str o.text), .int .i64 o.n, .int .i64 o.time, .slice a o.dots.length c] 62) = w1 at *
 have b0 := hb.cell 0 _ rfl
 have b1 := hb.cell 1 _ rfl
 have b2 := hb.cell 2 _ rfl
 have b3 := hb.cell 3 _ rfl
 have b4 := hb.cell 4 _ rfl
 have b5 := hb.cell 5 _ rfl
 have b6 := hb.cell 6 _ rfl
 have b7 := hb.cell 7 _ rfl
 have b8 := hb.cell 8 _ rfl
 have b9 := hb.cell 9 _ rfl
 have b10 := hb.cell 10 _ rfl
 clear hb
 generalize w.heap.size = cb at *
 by_cases g0 : 0 ≤ o.dot.dev ∧ o.dot.dev ≤ 5
 rotate_left
 ·have Hr := Lib.hid (show checkOp o = 1 by unfold checkOp headOk; rw [if_pos (by intro hh; exact g0 hh.1.1.1.1.1)])
  have Hd := Lib.hid (decF g0)
  go_wp2_with fail
  refine (opwithin_any w1 o.dot.dev 0 5).mono ?_
  rintro e w2 ⟨rfl, rfl⟩
  rw [Hd.out]
  go_wp2_with fail
  go_ret
  exact ⟨by rw [Hr.out]; rfl, hx⟩
 have G0 := Lib.hid (decT g0)
 go_wp2_with fail
 refine (opwithin_any w1 o.dot.dev 0 5).mono ?_
 rintro e w2 ⟨rfl, rfl⟩
 rw [G0.out]
 by_cases g1 : 1 ≤ o.dot.ep ∧ o.dot.ep ≤ 1073741824
 rotate_left
 ·have Hr := Lib.hid (show checkOp o = 1 by unfold checkOp headOk; rw [if_pos (by intro hh; exact g1 hh.1.1.1.1.2)])
  have Hd := Lib.hid (decF g1)
  go_wp2_with fail
  refine (opwithin_any w1 o.dot.ep 1 1073741824).mono ?_
  rintro e w2 ⟨rfl, rfl⟩
  rw [Hd.out]
  go_wp2_with fail
  go_ret
  exact ⟨by rw [Hr.out]; rfl, hx⟩
 have G1 := Lib.hid (decT g1)
 go_wp2_with fail
 refine (opwithin_any w1 o.dot.ep 1 1073741824).mono ?_
 rintro e w2 ⟨rfl, rfl⟩
 rw [G1.out]
 by_cases g2 : 1 ≤ o.dot.seq ∧ o.dot.seq ≤ 1073741824
 rotate_left
 ·have Hr := Lib.hid (show checkOp o = 1 by unfold checkOp headOk; rw [if_pos (by intro hh; exact g2 hh.1.1.1.2)])
  have Hd := Lib.hid (decF g2)
  go_wp2_with fail
  refine (opwithin_any w1 o.dot.seq 1 1073741824).mono ?_
  rintro e w2 ⟨rfl, rfl⟩
  rw [Hd.out]
  go_wp2_with fail
  go_ret
  exact ⟨by rw [Hr.out]; rfl, hx⟩
 have G2 := Lib.hid (decT g2)
 go_wp2_with fail
 refine (opwithin_any w1 o.dot.seq 1 1073741824).mono ?_
 rintro e w2 ⟨rfl, rfl⟩
 rw [G2.out]
 by_cases g3 : 0 ≤ o.coll ∧ o.coll ≤ 2
 rotate_left
 ·have Hr := Lib.hid (show checkOp o = 1 by unfold checkOp headOk; rw [if_pos (by intro hh; exact g3 hh.1.1.2)])
  have Hd := Lib.hid (decF g3)
  go_wp2_with fail
  refine (opwithin_any w1 o.coll 0 2).mono ?_
  rintro e w2 ⟨rfl, rfl⟩
  rw [Hd.out]
  go_wp2_with fail
  go_ret
  exact ⟨by rw [Hr.out]; rfl, hx⟩
 have G3 := Lib.hid (decT g3)
 go_wp2_with fail
 refine (opwithin_any w1 o.coll 0 2).mono ?_
 rintro e w2 ⟨rfl, rfl⟩
 rw [G3.out]
 by_cases g4 : 1 ≤ o.ver ∧ o.ver ≤ 3
 rotate_left
 ·have Hr := Lib.hid (show checkOp o = 1 by unfold checkOp headOk; rw [if_pos (by intro hh; exact g4 hh.1.2)])
  have Hd := Lib.hid (decF g4)
  go_wp2_with fail
  refine (opwithin_any w1 o.ver 1 3).mono ?_
  rintro e w2 ⟨rfl, rfl⟩
  rw [Hd.out]
  go_wp2_with fail
  go_ret
  exact ⟨by rw [Hr.out]; rfl, hx⟩
 have G4 := Lib.hid (decT g4)
 go_wp2_with fail
 refine (opwithin_any w1 o.ver 1 3).mono ?_
 rintro e w2 ⟨rfl, rfl⟩
 rw [G4.out]
 by_cases g5 : 0 ≤ o.time ∧ o.time ≤ 1099511627776
 rotate_left
 ·have Hr := Lib.hid (show checkOp o = 1 by unfold checkOp headOk; rw [if_pos (by intro hh; exact g5 hh.2)])
  have Hd := Lib.hid (decF g5)
  go_wp2_with fail
  refine (opwithin_any w1 o.time 0 1099511627776).mono ?_
  rintro e w2 ⟨rfl, rfl⟩
  rw [Hd.out]
  go_wp2_with fail
  go_ret
  exact ⟨by rw [Hr.out]; rfl, hx⟩
 have G5 := Lib.hid (decT g5)
 go_wp2_with fail
 refine (opwithin_any w1 o.time 0 1099511627776).mono ?_
 rintro e w2 ⟨rfl, rfl⟩
 rw [G5.out]
 have hh : headOk o := ⟨⟨⟨⟨⟨g0, g1⟩, g2⟩, g3⟩, g4⟩, g5⟩
 clear g0 g1 g2 g3 g4 g5 G0 G1 G2 G3 G4 G5
 by_cases g6 : 1 ≤ o.kind ∧ o.kind ≤ 5
 rotate_left
 ·have Hr := Lib.hid (show checkOp o = 3 by unfold checkOp; rw [if_neg (fun h => h hh), if_pos g6])
  have Hd := Lib.hid (decF g6)
  go_wp2_with fail
  refine (opwithin_any w1 o.kind 1 5).mono ?_
  rintro e w2 ⟨rfl, rfl⟩
  rw [Hd.out]
  go_wp2_with fail
  go_ret
  exact ⟨by rw [Hr.out]; rfl, hx⟩
 have Hd := Lib.hid (decT g6)
 have G6 := Lib.hid g6
 clear g6
 go_wp2_with fail
 refine (opwithin_any w1 o.kind 1 5).mono ?_
 rintro e w2 ⟨rfl, rfl⟩
 rw [Hd.out]
 clear Hd
 go_wp2_with fail
 refine (optext_any w1 o.key hks).mono ?_
 rintro e w2 ⟨rfl, rfl⟩
 cases g7 : textOk o.key with
 | false =>
  have Hr := Lib.hid (show checkOp o = 5 by unfold checkOp; rw [if_neg (fun h => h hh), if_neg (fun h => h G6.out), if_pos (by rw [g7]; simp)])
  go_wp2_with fail
  go_ret
  exact ⟨by rw [Hr.out]; rfl, hx⟩
 | true =>
  go_wp2_with fail
  refine (optext_any w1 o.text hts).mono ?_
  rintro e w2 ⟨rfl, rfl⟩
  cases g8 : textOk o.text with
  | false =>
   have Hr := Lib.hid (show checkOp o = 5 by unfold checkOp; rw [if_neg (fun h => h hh), if_neg (fun h => h G6.out), if_pos (by rw [g8]; simp)])
   go_wp2_with fail
   go_ret
   exact ⟨by rw [Hr.out]; rfl, hx⟩
  | true =>
   have Hr := Lib.hid (show checkOp o = kindErr o by unfold checkOp; rw [if_neg (fun h => h hh), if_neg (fun h => h G6.out), if_neg (by rw [g7, g8]; simp)])
   go_wp2_with fail
   refine (kind_any w1 o a c (h.ext hx (fun _ _ h => h)) hl G6.out).mono ?_
   rintro e w2 ⟨rfl, hx2⟩
   go_wp2_with fail
   go_ret
   exact ⟨by rw [Hr.out]; rfl, hx.comp hx2⟩
end Go.Proofs.YtddobhihjljcgaaGreat
/- Walks of the law's own small functions: known, within. -/
namespace Go.Proofs.YtddobhihjljcgaaGreat
open Go.RowKit Go.Esc
set_option linter.unusedVariables false
set_option maxHeartbeats 400000 in
theorem within_any (a n : Int) (w : World) (h1 : 0 < n) (h2 : n ≤ 4611686018427387904) (h3 : I64ok a) :
  Calls Tryz.prog 53 #[.int .i64 a, .int .i64 n] w fun e w' => e = .returned (.int .i64 (a % n)) ∧ w = w' := by
 obtain ⟨h3, h4⟩ := h3
 have hb := Int.tmod_lt_of_pos a h1
 have hb' : -n ≤ a.tmod n := by
  have := tmod_pos a n h1
  have e1 := Int.emod_nonneg a (show n ≠ 0 by omega)
  have e2 := Int.emod_lt_of_pos a h1
  generalize a % n = q at *
  split at this <;> omega
 have he := tmod_pos a n h1
 have He := Lib.hid he
 clear he
 by_cases hn : a.tmod n < 0
 ·go_enter Tryz.func53, Tryz.ntmps53
  go_wp2
  go_ret
  exact ⟨by rw [He.out, if_pos (by omega)]; rfl, rfl⟩
 ·go_enter Tryz.func53, Tryz.ntmps53
  go_wp2
  go_ret
  exact ⟨by rw [He.out, if_neg (by omega)]; rfl, rfl⟩
end Go.Proofs.YtddobhihjljcgaaGreat
/- Slices of dots; Less of the document's chapter 9. -/
namespace Go.Proofs.YtddobhihjljcgaaGreat
open Go.RowKit Go.Esc
set_option linter.unusedVariables false
theorem TDots : SlT Tryz.prog 60 59 (.agg #[.int .i64 0, .int .i64 0, .int .i64 0]) 3 24 := ⟨Tryz.underlying60, by kernel_rfl, rfl, by decide⟩
theorem less_any (w : World) (x y : DotR) :
  Calls Tryz.prog 54 #[x.v, y.v] w fun e w' => e = .returned (.bool (x.lt y)) ∧ Ext no w w' := by
 obtain ⟨r, hr⟩ : ∃ r, r = x.lt y := ⟨_, rfl⟩
 have Hr := Lib.hid hr
 rw [← hr]
 clear hr
 go_enter Tryz.func54, Tryz.ntmps54
 unfold DotR.v
 go_upto_region 1 with fail
 have hb1 := Blk.lit w #[.int .i64 x.dev, .int .i64 x.ep, .int .i64 x.seq] 59
 have hx1 := Ext.alloc no w (.cells #[.int .i64 x.dev, .int .i64 x.ep, .int .i64 x.seq] 59)
 have hb2 := Blk.at (w.alloc (.cells #[.int .i64 x.dev, .int .i64 x.ep, .int .i64 x.seq] 59)) #[.int .i64 y.dev, .int .i64 y.ep, .int .i64 y.seq] 59 (w.heap.size + 1) (by simp)
 have hx2 := Ext.alloc no (w.alloc (.cells #[.int .i64 x.dev, .int .i64 x.ep, .int .i64 x.seq] 59)) (.cells #[.int .i64 y.dev, .int .i64 y.ep, .int .i64 y.seq] 59)
 have hb1' := hb1.ext (by simp) hx2 (fun h => h)
 replace hx1 := hx1.comp hx2
 clear hb1 hx2
 generalize (w.alloc (.cells #[.int .i64 x.dev, .int .i64 x.ep, .int .i64 x.seq] 59)).alloc (.cells #[.int .i64 y.dev, .int .i64 y.ep, .int .i64 y.seq] 59) = w1 at *
 have p0 := hb1'.cell 0 _ rfl
 have p1 := hb1'.cell 1 _ rfl
 have p2 := hb1'.cell 2 _ rfl
 have q0 := hb2.cell 0 _ rfl
 have q1 := hb2.cell 1 _ rfl
 have q2 := hb2.cell 2 _ rfl
 clear hb1' hb2
 by_cases h0 : x.dev = y.dev
 ·have c0 : (x.dev != y.dev) = false := by rw [bne_eq_false_iff_eq]; exact h0
  have H0 := Lib.hid h0
  clear h0
  by_cases h1 : x.ep = y.ep
  ·have c1 : (x.ep != y.ep) = false := by rw [bne_eq_false_iff_eq]; exact h1
   have H1 := Lib.hid h1
   clear h1
   go_wp2_with fail
   go_ret
   exact ⟨by rw [Hr.out]; unfold DotR.lt; rw [if_neg (by rw [H0.out]; simp), if_neg (by rw [H1.out]; simp)]; rfl, hx1⟩
  ·have c1 : (x.ep != y.ep) = true := by rw [bne_iff_ne]; exact h1
   have H1 := Lib.hid h1
   clear h1
   go_wp2_with fail
   go_ret
   exact ⟨by rw [Hr.out]; unfold DotR.lt; rw [if_neg (by rw [H0.out]; simp), if_pos H1.out]; rfl, hx1⟩
 ·have c0 : (x.dev != y.dev) = true := by rw [bne_iff_ne]; exact h0
  have H0 := Lib.hid h0
  clear h0
  go_wp2_with fail
  go_ret
  exact ⟨by rw [Hr.out]; unfold DotR.lt; rw [if_pos H0.out]; rfl, hx1⟩
end Go.Proofs.YtddobhihjljcgaaGreat
