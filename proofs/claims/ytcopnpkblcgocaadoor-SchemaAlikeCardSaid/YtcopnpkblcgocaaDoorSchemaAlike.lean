/- The walk of the law SchemaAlike. -/
import Derived.Test.YtcopnpkblcgocaaDoorScL
namespace Go.Esc
def xB (b : UInt8) : UInt8 := UInt8.ofNat (97 + b.toNat % 26)
def yB (b : UInt8) : UInt8 := if 128 ≤ b.toNat then UInt8.ofNat (65 + b.toNat % 26) else xB b
theorem xB_nat (b : UInt8) : (xB b).toNat = 97 + b.toNat % 26 := by unfold xB; rw [UInt8.toNat_ofNat']; omega
theorem yB_great {b : UInt8} (h : 128 ≤ b.toNat) : (yB b).toNat = 65 + b.toNat % 26 := by unfold yB; rw [if_pos h, UInt8.toNat_ofNat']; omega
theorem yB_small {b : UInt8} (h : ¬ 128 ≤ b.toNat) : yB b = xB b := if_neg h
theorem lowB_xB (b : UInt8) : lowB (xB b) = xB b := lowB_not (by rw [xB_nat]; omega)
theorem lowB_yB (b : UInt8) : lowB (yB b) = xB b := by
  by_cases h : 128 ≤ b.toNat
  · have h1 := yB_great h
    have h2 := (lowB_great (b := yB b) (by omega)).2
    exact UInt8.toNat_inj.1 (by rw [h2, h1, xB_nat]; omega)
  · rw [yB_small h, lowB_xB]
theorem xB_ne (b : UInt8) : xB b ≠ 32 := fun h => by have := xB_nat b; rw [h] at this; simp at this; omega
theorem low_xs (s : List UInt8) : low (s.map xB) = s.map xB := by unfold low; rw [List.map_map]; congr 1; funext b; exact lowB_xB b
theorem low_ys (s : List UInt8) : low (s.map yB) = s.map xB := by unfold low; rw [List.map_map]; congr 1; funext b; exact lowB_yB b
theorem trimL_rep (n : Nat) (x : List UInt8) : trimL (List.replicate n 32 ++ x) = trimL x := by
  induction n with
  | zero => rfl
  | succ n ih => rw [List.replicate_succ, List.cons_append, trimL_cons, if_pos rfl]; exact ih
theorem trimR_rep (n : Nat) (x : List UInt8) : trimR (x ++ List.replicate n 32) = trimR x := by
  unfold trimR
  rw [List.reverse_append, List.reverse_replicate, trimL_rep]
theorem trimL_xs (s : List UInt8) : trimL (s.map xB) = s.map xB := by
  cases s with
  | nil => rfl
  | cons b t => rw [List.map_cons, trimL_cons, if_neg (xB_ne b)]
theorem trimR_xs (s : List UInt8) : trimR (s.map xB) = s.map xB := by
  unfold trimR
  rw [← List.map_reverse, trimL_xs, List.map_reverse, List.reverse_reverse]
theorem trim_xs (s : List UInt8) (n m : Nat) : trim (List.replicate n 32 ++ s.map xB ++ List.replicate m 32) = s.map xB := by
  unfold trim
  rw [trimR_rep, trim_comm, trimL_rep, trimL_xs, trimR_xs]
theorem low_rep (n : Nat) : low (List.replicate n 32) = List.replicate n 32 := by unfold low; rw [List.map_replicate]; rfl
theorem alike (s : List UInt8) (n m : Nat) : up (s.map xB) 1 3 = s.map xB ∧ up (List.replicate n 32 ++ s.map yB ++ List.replicate m 32) 1 3 = s.map xB := by
  constructor
  · show trim (low (s.map xB)) = _
    rw [low_xs]
    have := trim_xs s 0 0
    simpa using this
  · show trim (low _) = _
    have e : low (List.replicate n 32 ++ s.map yB ++ List.replicate m 32) = List.replicate n 32 ++ s.map xB ++ List.replicate m 32 := by
      have h := low_ys s
      unfold low at *
      rw [List.map_append, List.map_append, h, List.map_replicate, List.map_replicate]
      rfl
    rw [e, trim_xs]
end Go.Esc
namespace Go.Proofs.YtcopnpkblcgocaaDoor
open Go.RowKit Go.Esc
set_option linter.unusedVariables false
set_option linter.unusedSimpArgs false

theorem str_sum (w : World) (x y : List UInt8) (h : x.length + y.length ≤ 1000000) : (Op.stringOp .add (str x) (str y)).run Tryd.prog w = .ok (.string (str (x ++ y))) w := by
  rw [run_string_add_sum w _ _ (by rw [str_size, str_size]; omega), str_add]

set_option maxRecDepth 100000 in
set_option maxHeartbeats 4000000 in
theorem alike_walk (w : World) (sa : Option Addr) (s : List UInt8) (sc : Nat) (a b : Int) (hs : Rd w sa (bs s)) (hsl : s.length ≤ sc) (hsc : sc ≤ maxLen) (ha : I64ok a) (hb : I64ok b) :
    Calls Tryd.prog 5 #[.slice sa s.length sc, .int .i64 a, .int .i64 b] w fun e w' => e = .returned (.bool true) ∧ Ext no w w' := by
  unfold maxLen at hsc
  have Ha := Lib.hid ha
  have Hb := Lib.hid hb
  clear ha hb
  by_cases h3 : 100 < s.length
  · have d1 : decide ((100 : Int) < s.length) = true := decT (by omega)
    go_enter Tryd.func5, Tryd.ntmps5
    go_wp2_with fail
    refine (known_any w).mono ?_
    rintro e w1 ⟨rfl, hx1⟩
    go_wp2_with fail
    go_ret
    exact ⟨rfl, hx1⟩
  have d1 : decide ((100 : Int) < s.length) = false := decF (by omega)
  go_enter Tryd.func5, Tryd.ntmps5
  go_wp2_with fail
  refine (known_any w).mono ?_
  rintro e w1 ⟨rfl, hx1⟩
  go_wp2_with fail
  go_loopw [7, 8, 9, 10] (fun s7 s8 s9 _ wr => ∃ (i : Nat) (X Y : List UInt8), i ≤ s.length ∧ s9 = .int .i64 i ∧ s7 = .string (str X) ∧ s8 = .string (str Y) ∧ X = (s.take i).map xB ∧ Y = (s.take i).map yB ∧ X.length ≤ 100 ∧ Y.length ≤ 100 ∧ Ext no w wr) (fun _ _ s9 _ _ => s.length - (intOf s9).toNat)
  case atStart => exact ⟨0, [], [], Nat.zero_le _, rfl, rfl, rfl, by simp, by simp, by simp, by simp, hx1⟩
  case round =>
    clear hx1
    obtain ⟨i, X, Y, hi, rfl, rfl, rfl, hX, hY, hXl, hYl, hx⟩ := hrel
    have HX := Lib.hid hX
    have HY := Lib.hid hY
    clear hX hY
    by_cases hlt : i < s.length
    · have e0 : decide ((i : Int) < s.length) = true := decT (by omega)
      obtain ⟨ad, rfl, _⟩ := hs.ne (by rw [bs_length]; omega)
      have hc := hx.keeps (hs.cell i (by rw [bs_length]; exact hlt)) (fun h => h)
      rw [show (bs s)[i]'(by rw [bs_length]; exact hlt) = .int .u8 s[i].toNat from by simp [bs, B8]] at hc
      have Htx := Lib.hid (show (s.take (i + 1)).map xB = X ++ [xB s[i]] by rw [HX.out, List.take_succ_eq_append_getElem hlt, List.map_append]; rfl)
      have Hty := Lib.hid (show (s.take (i + 1)).map yB = Y ++ [yB s[i]] by rw [HY.out, List.take_succ_eq_append_getElem hlt, List.map_append]; rfl)
      have hblt := s[i].toNat_lt
      generalize s[i] = c at *
      have hz := xB_nat c
      have Hzi := Lib.hid (show (97 + (c.toNat : Int) % 26) = ((xB c).toNat : Int) by rw [hz]; omega)
      have cv : ∀ (w : World) (z : UInt8), (convert 29 9 (.slice (some ⟨w.heap.size, 0, none⟩) 1 1)).run Tryd.prog (w.alloc (.cells #[.int .u8 z.toNat] 5 (0, 0))) = .ok (.string (str [z])) (w.alloc (.cells #[.int .u8 z.toNat] 5 (0, 0))) := fun w z => convStr _ _ 1 1 [z] rfl (Rd.lit w _ _ _)
      have sX := fun w z => str_sum w X [z] (by simp; omega)
      have sY := fun w z => str_sum w Y [z] (by simp; omega)
      go_upto_region 10 with fail
      rw [Hzi.out]
      have hzb : 97 ≤ (xB c).toNat ∧ (xB c).toNat ≤ 122 := by omega
      obtain ⟨hz1, hz2⟩ := hzb
      have Hy1 := Lib.hid (fun h : 128 ≤ c.toNat => show ((xB c).toNat : Int) - 32 = ((yB c).toNat : Int) by have := yB_great h; omega)
      have Hy2 := Lib.hid (fun h : ¬ 128 ≤ c.toNat => yB_small h)
      clear hz Hzi
      generalize xB c = z at *
      generalize yB c = y at *
      go_upto_region 11 with fail
      have hx2 := hx.comp (Ext.alloc no wr (.cells #[.int .u8 z.toNat] 5 (0, 0)))
      have hc2 := (Ext.alloc no wr (.cells #[.int .u8 z.toNat] 5 (0, 0))).keeps hc (fun h => h)
      clear hx hc
      generalize wr.alloc (.cells #[.int .u8 z.toNat] 5 (0, 0)) = wr2 at *
      have hlast : ∀ (v : UInt8) (wr3 : World), Hid (List.map yB (List.take (i + 1) s) = Y ++ [v]) → Ext no wr2 wr3 → ∃ (j : Nat) (X' Y' : List UInt8), j ≤ s.length ∧ (.int .i64 ((i : Int) + 1) : Value) = .int .i64 j ∧ (.string (str (X ++ [z])) : Value) = .string (str X') ∧ (.string (str (Y ++ [v])) : Value) = .string (str Y') ∧ X' = (s.take j).map xB ∧ Y' = (s.take j).map yB ∧ X'.length ≤ 100 ∧ Y'.length ≤ 100 ∧ Ext no w wr3 := fun v wr3 hv hx3 => by
        refine ⟨i + 1, _, _, by omega, by simp, rfl, rfl, Htx.out.symm, hv.out.symm, ?_, ?_, hx2.comp hx3⟩
        · rw [← Htx.out, List.length_map, List.length_take]; omega
        · rw [← hv.out, List.length_map, List.length_take]; omega
      by_cases hgr : 128 ≤ c.toNat
      · have g1 : decide ((128 : Int) ≤ c.toNat) = true := decT (by omega)
        go_upto_region 13 with fail
        rw [Hy1.out hgr]
        clear Hy1 Hy2
        go_wp2_with fail
        go_roundw
        case rel => exact hlast _ _ Hty (Ext.alloc _ _ _)
        case measure => simp only [intOf]; omega
      · have g1 : decide ((128 : Int) ≤ c.toNat) = false := decF (by omega)
        obtain rfl := Hy2.out hgr
        clear Hy1 Hy2
        go_wp2_with fail
        go_roundw
        case rel => exact hlast _ _ Hty (Ext.alloc _ _ _)
        case measure => simp only [intOf]; omega
    · have e0 : decide ((i : Int) < s.length) = false := decF (by omega)
      obtain rfl : i = s.length := by omega
      rw [List.take_length] at HX HY
      have hn0 := Int.emod_nonneg a (show (5 : Int) ≠ 0 by omega)
      have hn1 := Int.emod_lt_of_pos a (show (0 : Int) < 5 by omega)
      have hm0 := Int.emod_nonneg b (show (5 : Int) ≠ 0 by omega)
      have hm1 := Int.emod_lt_of_pos b (show (0 : Int) < 5 by omega)
      obtain ⟨n, hn⟩ : ∃ n : Nat, a % 5 = n := ⟨(a % 5).toNat, by omega⟩
      obtain ⟨m, hm⟩ : ∃ n : Nat, b % 5 = n := ⟨(b % 5).toNat, by omega⟩
      have hn5 : n < 5 := by omega
      have hm5 : m < 5 := by omega
      have Hn := Lib.hid hn
      have Hm := Lib.hid hm
      clear hn0 hn1 hm0 hm1 hn hm
      go_wp2_with fail
      go_loopw [8, 11] (fun s8 s11 wr => ∃ (k : Nat) (Z : List UInt8), k ≤ n ∧ s11 = .int .i64 k ∧ s8 = .string (str Z) ∧ Z = List.replicate k 32 ++ Y ∧ Ext no w wr) (fun _ s11 _ => n - (intOf s11).toNat)
      case atStart => exact ⟨0, Y, Nat.zero_le _, rfl, rfl, rfl, hx⟩
      case round =>
        clear hx
        obtain ⟨k, Z, hk, rfl, rfl, hZ, hx⟩ := hrel
        have hZl : Z.length = k + Y.length := by rw [hZ]; simp
        have HZ := Lib.hid hZ
        have HZl := Lib.hid hZl
        have sp : ∀ w, (Op.stringOp .add (⟨#[32]⟩ : ByteArray) (str Z)).run Tryd.prog w = .ok (.string (str ([32] ++ Z))) w := fun w => str_sum w [32] Z (by simp; omega)
        clear hZ hZl
        go_wp2_with fail
        refine (within_any a 5 _ (by omega) (by omega) Ha.out).mono ?_
        rintro e w3 ⟨rfl, rfl⟩
        rw [Hn.out]
        by_cases hk2 : k < n
        · have e1 : decide ((k : Int) < n) = true := decT (by omega)
          go_wp2_with fail
          go_roundw
          case rel => exact ⟨k + 1, _, by omega, by simp, rfl, by rw [HZ.out, List.replicate_succ]; rfl, hx⟩
          case measure => simp only [intOf]; omega
        · have e1 : decide ((k : Int) < n) = false := decF (by omega)
          obtain rfl : k = n := by omega
          go_wp2_with fail
          go_loopw [8, 12] (fun s8 s12 wr => ∃ (j : Nat) (V : List UInt8), j ≤ m ∧ s12 = .int .i64 j ∧ s8 = .string (str V) ∧ V = Z ++ List.replicate j 32 ∧ Ext no w wr) (fun _ s12 _ => m - (intOf s12).toNat)
          case atStart => exact ⟨0, Z, Nat.zero_le _, rfl, rfl, by simp, hx⟩
          case round =>
            clear hx
            obtain ⟨j, V, hj, rfl, rfl, hV, hx⟩ := hrel
            have hVl : V.length ≤ 110 := by rw [hV]; have := HZl.out; simp; omega
            have HV := Lib.hid hV
            have sp : ∀ w, (Op.stringOp .add (str V) (⟨#[32]⟩ : ByteArray)).run Tryd.prog w = .ok (.string (str (V ++ [32]))) w := fun w => str_sum w V [32] (by simp; omega)
            clear hV
            go_wp2_with fail
            refine (within_any b 5 _ (by omega) (by omega) Hb.out).mono ?_
            rintro e w3 ⟨rfl, rfl⟩
            rw [Hm.out]
            by_cases hj2 : j < m
            · have e1 : decide ((j : Int) < m) = true := decT (by omega)
              go_wp2_with fail
              go_roundw
              case rel => exact ⟨j + 1, _, by omega, by simp, rfl, by rw [HV.out, List.replicate_succ', List.append_assoc], hx⟩
              case measure => simp only [intOf]; omega
            · have e1 : decide ((j : Int) < m) = false := decF (by omega)
              obtain rfl : j = m := by omega
              have Hal := Lib.hid (show up X 1 3 = X ∧ up V 1 3 = X ∧ upErr 1 3 = 0 by
                have h := alike s k j
                have hV : V = List.replicate k 32 ++ List.map yB s ++ List.replicate j 32 := by rw [HV.out, HZ.out, HY.out]
                rw [← HX.out, ← hV] at h
                exact ⟨h.1, h.2, by decide⟩)
              go_wp2_with fail
              refine (up_any _ X (by omega) 1 3 ⟨by omega, by omega⟩ ⟨by omega, by omega⟩).mono ?_
              rintro e w4 ⟨rfl, hx4⟩
              rw [Hal.out.1, Hal.out.2.2]
              go_wp2_with fail
              refine (up_any _ V (by omega) 1 3 ⟨by omega, by omega⟩ ⟨by omega, by omega⟩).mono ?_
              rintro e w5 ⟨rfl, hx5⟩
              rw [Hal.out.2.1, Hal.out.2.2]
              have q := beqStrT (x := X) rfl
              go_wp2_with fail
              go_ret
              exact ⟨rfl, (hx.comp hx4).comp hx5⟩
end Go.Proofs.YtcopnpkblcgocaaDoor
