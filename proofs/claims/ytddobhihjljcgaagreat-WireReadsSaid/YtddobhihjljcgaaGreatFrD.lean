/- Walks of the reference of chapter 2: Crc, get, four, Frame, One. -/
import Derived.Test.YtddobhihjljcgaaGreatMA
namespace Go.Proofs.YtddobhihjljcgaaGreat
open Go.RowKit Go.Esc
set_option maxHeartbeats 400000 in
theorem rcrc_any (w : World) (a : Option Addr) (c : Nat) (l : List UInt8) (hrd : Rd w a (bs l)) (hl : l.length ≤ 1099511627776) :
  Calls Tryz.prog 24 #[.slice a l.length c] w fun e w' => e = .returned (.int .u32 (crc l)) ∧ w = w' := by
 go_enter Tryz.func24, Tryz.ntmps24
 go_wp2_with fail
 go_loop [3, 4] (fun s3 s4 => ∃ (k v : Nat), k ≤ l.length ∧ s4 = .int .i64 k ∧ s3 = .int .u32 v ∧ v < 4294967296 ∧ v = crcL 4294967295 (l.take k)) (fun _ s4 => l.length - (intOf s4).toNat)
 case atStart => exact ⟨0, 4294967295, Nat.zero_le _, rfl, rfl, by omega, by simp [crcL]⟩
 case round =>
  obtain ⟨k, v, hk, rfl, rfl, hv, hcr⟩ := hrel
  have Hcr := Lib.hid hcr
  clear hcr
  by_cases hlt : k < l.length
  ·obtain ⟨ad, rfl, _⟩ := hrd.ne (by simp; omega)
   have hcell := hrd.cell k (by simpa using hlt)
   rw [show (bs l)[k]'(by simpa using hlt) = .int .u8 l[k].toNat from by simp [bs, B8]] at hcell
   have hb := l[k].toNat_lt
   have hxl : v ^^^ l[k].toNat < 4294967296 := Nat.xor_lt_two_pow (n := 32) hv (by omega)
   have Hst := Lib.hid (show crcL 4294967295 (l.take (k + 1)) = crcB v l[k] by rw [List.take_succ_eq_append_getElem hlt, crcL_snoc, Hcr.out])
   have hx : bits .xor .u32 (v : Int) (l[k].toNat : Int) = ((v ^^^ l[k].toNat : Nat) : Int) := u32_xor_nat _ _ hv (by omega)
   generalize l[k] = b at *
   go_wp2_with fail
   go_loop [3, 5] (fun s3 s5 => ∃ (j u : Nat), j ≤ 8 ∧ s5 = .int .i64 j ∧ s3 = .int .u32 u ∧ u < 4294967296 ∧ u = bitN j (v ^^^ b.toNat)) (fun _ s5 => 8 - (intOf s5).toNat)
   case atStart => exact ⟨0, v ^^^ b.toNat, by omega, rfl, rfl, hxl, rfl⟩
   case round =>
    obtain ⟨j, u, hj, rfl, rfl, hu, hbn⟩ := hrel
    have Hbn := Lib.hid hbn
    clear hbn
    by_cases hlt8 : j < 8
    ·have hand : bits .and .u32 (u : Int) 1 = (u : Int) % 2 := by
      have := u32_and_nat u 1 hu (by omega)
      rw [Nat.and_one_is_mod] at this
      simpa using this
     have hbl := bit_lt hu
     by_cases h2 : u % 2 = 1
     ·have hx2 : bits .xor .u32 ((u : Int) / 2) 3988292384 = ((bit u : Nat) : Int) := by
       have := u32_xor_nat (u / 2) 3988292384 (by omega) (by omega)
       rw [bit_odd h2]; simpa using this
      have hb2 : ((u : Int) % 2 == 1) = true := by rw [beq_iff_eq]; omega
      clear h2
      go_wp2_with fail
      go_round
      case rel => exact ⟨j + 1, bit u, by omega, by go_num, rfl, hbl, by rw [Hbn.out]; rfl⟩
      case measure => simp [intOf]; omega
     ·have hb2 : ((u : Int) % 2 == 1) = false := by rw [beq_eq_false_iff_ne]; omega
      have hbe : ((u : Int) / 2) = ((bit u : Nat) : Int) := by rw [bit_even (by omega)]; simp
      clear h2
      go_wp2_with fail
      go_round
      case rel => exact ⟨j + 1, bit u, by omega, by go_num, rfl, hbl, by rw [Hbn.out]; rfl⟩
      case measure => simp [intOf]; omega
    ·obtain rfl : j = 8 := by omega
     go_wp2_with fail
     go_round
     case rel => exact ⟨k + 1, u, by omega, by go_num, rfl, hu, by rw [Hst.out, Hbn.out]; rfl⟩
     case measure => simp [intOf]; omega
  ·obtain rfl : k = l.length := by omega
   rw [List.take_length] at Hcr
   have hxo := xor_ones32 v hv
   go_wp2_with fail
   go_ret
   exact ⟨by rw [crc, ← Hcr.out]; rfl, rfl⟩
set_option maxHeartbeats 400000 in
theorem rget_any (w : World) (a : Option Addr) (c : Nat) (l : List UInt8) (hrd : Rd w a (bs l)) (h4 : 4 ≤ l.length) (hl : l.length ≤ 1099511627776) :
  Calls Tryz.prog 65 #[.slice a l.length c] w fun e w' => e = .returned (.int .u32 (rd4 l)) ∧ ∃ n, w' = w.drewN n := by
 obtain ⟨b, off, rfl, _⟩ := hrd.shape (by simp; omega)
 obtain ⟨x, y, z, t, r, hs⟩ := rd4_split l h4
 have hc0 := hrd.lookup 0 (by simp; omega)
 have hc1 := hrd.lookup 1 (by simp; omega)
 have hc2 := hrd.lookup 2 (by simp; omega)
 have hc3 := hrd.lookup 3 (by simp; omega)
 simp only [hs, bs, B8, List.map_cons, List.getElem_cons_zero, List.getElem_cons_succ] at hc0 hc1 hc2 hc3
 rw [Nat.add_zero] at hc0
 have hrd4 : rd4 l = num4 x y z t := by rw [hs]; rfl
 have i0 : (0 : Int) < l.length := by omega
 have i1 : (1 : Int) < l.length := by omega
 have i2 : (2 : Int) < l.length := by omega
 have i3 : (3 : Int) < l.length := by omega
 have bx := x.toNat_lt
 have bY := y.toNat_lt
 have bz := z.toNat_lt
 have bt := t.toNat_lt
 rw [hrd4]
 clear hs hrd4
 go_enter Tryz.func65, Tryz.ntmps65
 go_upto_region 1 with fail
 go_quiet (fail)
 go_wp2_with fail
 rw [or_num4]
 go_ret
 exact ⟨rfl, _, rfl⟩
theorem rcrc_q (w : World) (n : Nat) (a : Option Addr) (m c : Nat) (l : List UInt8) (hm : m = l.length) (hrd : Rd w a (bs l)) (hl : l.length ≤ 1099511627776) :
  Calls Tryz.prog 24 #[.slice a m c] (w.drewN n) fun e w' => e = .returned (.int .u32 (crc l)) ∧ ∃ m, w' = w.drewN m := by
 subst hm
 exact (rcrc_any _ a c l (hrd.drewN n) hl).mono fun e w' ⟨he, hw⟩ => ⟨he, n, hw.symm⟩
theorem rget_q (w : World) (n : Nat) (a : Option Addr) (m c : Nat) (l : List UInt8) (hm : m = l.length) (hrd : Rd w a (bs l)) (h4 : 4 ≤ l.length) (hl : l.length ≤ 1099511627776) :
  Calls Tryz.prog 65 #[.slice a m c] (w.drewN n) fun e w' => e = .returned (.int .u32 (rd4 l)) ∧ ∃ m, w' = w.drewN m := by
 subst hm
 exact Calls.quiet_of (rget_any _ a c l (hrd.drewN n) h4 hl)
set_option maxHeartbeats 400000 in
theorem rfour_any (w : World) (B : Nat) (a : Option Addr) (m c : Nat) (l : List UInt8) (n : Nat) (hn : n < 4294967296) (hm : m = l.length) (hown : Own w B a 1 m c (bs l)) (hB : B ≤ w.heap.size) (hl : l.length ≤ 1099511627776) :
  Calls Tryz.prog 25 #[.slice a m c, .int .u32 n] w fun e w' => ∃ a' c', e = .returned (.slice a' (m + 4) c') ∧ Own w' B a' 1 (m + 4) c' (bs (l ++ be4 n)) ∧ Ext (blk a) w w' := by
 subst hm
 have hbe : [Value.int .u8 ((n : Int) / 16777216), .int .u8 ((n : Int) / 65536 % 256), .int .u8 ((n : Int) / 256 % 256), .int .u8 ((n : Int) % 256)] = bs (be4 n) := by
  simp only [be4, bs, List.map_cons, List.map_nil, B8_b8 (n / 16777216) (by omega), B8_b8 (n / 65536 % 256) (by omega), B8_b8 (n / 256 % 256) (by omega), B8_b8 (n % 256) (by omega)]
  simp
 have Hbe := Lib.hid hbe
 clear hbe
 have hrd := Rd.lit w #[Value.int .u8 ((n : Int) / 16777216), .int .u8 ((n : Int) / 65536 % 256), .int .u8 ((n : Int) / 256 % 256), .int .u8 ((n : Int) % 256)] 5 (0, 0)
 go_enter Tryz.func25, Tryz.ntmps25
 go_wp2_with (at_builtin; refine wpList_append TBytes rfl rfl rfl (hown.alloc _) rfl hrd (by simp) ?c2 ?c3 ?c4 ?c5 ?_)
 case c2 => exact ⟨rfl, rfl, rfl, rfl⟩
 case c3 => unfold maxLen; omega
 case c4 => omega
 case c5 => omega
 intro a' c' w1 happ
 have hown1 := happ.own
 have hext1 := happ.ext
 clear happ
 go_wp2_with fail
 go_ret
 refine ⟨a', c', rfl, ?_, (Ext.alloc _ _ _).comp hext1⟩
 rw [bs_append, ← Hbe.out]
 exact hown1
set_option maxHeartbeats 400000 in
theorem rframe_any (w : World) (a : Option Addr) (c : Nat) (l : List UInt8) (hrd : Rd w a (bs l)) (hl : l.length ≤ 4194304) :
  Calls Tryz.prog 10 #[.slice a l.length c] w fun e w' => ∃ a' c', e = .returned (.tuple #[.slice a' (frame l).length c', .int .i64 0]) ∧ Own w' w.heap.size a' 1 (frame l).length c' (bs (frame l)) ∧ Ext no w w' := by
 have hlt := crc_lt l
 have hfn := frame_length l
 go_enter Tryz.func10, Tryz.ntmps10
 go_wp2_with fail
 refine (rcrc_any w a c l hrd (by omega)).mono ?_
 rintro e w2 ⟨rfl, rfl⟩
 go_wp2_with fail
 refine (rfour_any w w.heap.size none 0 0 [] l.length (by omega) rfl (Own.nil _ _ _) (Nat.le_refl _) (by simp)).mono ?_
 rintro e w1 ⟨a1, c1, rfl, hown1, hext1⟩
 have hx1 : Ext no w w1 := hext1.mono (fun k _ ⟨ad, h, _⟩ => by cases h)
 have hs1 := hx1.size
 go_wp2_with fail
 refine (rfour_any w1 w.heap.size a1 4 c1 (be4 l.length) (crc l) hlt rfl hown1 hs1 (by simp [be4_length])).mono ?_
 rintro e w2 ⟨a2, c2, rfl, hown2, hext2⟩
 have hx2 : Ext no w w2 := Ext.ofBelow (hx1.belowAll.trans (hown1.below hext2 hs1)) (Nat.le_refl _)
 have hs2 := hx2.size
 go_wp2_with (at_builtin; refine wpList_append TBytes rfl rfl rfl hown2 rfl (hrd.ext hx2 (fun _ _ h => h)) (by simp) (bs_one _) ?c1 ?c2 hs2 ?_)
 case c1 => unfold maxLen; omega
 case c2 => omega
 intro a3 c3 w3 happ
 have hown3 := happ.own
 have hx3 : Ext no w w3 := Ext.ofBelow (hx2.belowAll.trans (hown2.below happ.ext hs2)) (Nat.le_refl _)
 clear happ
 go_wp2_with fail
 go_ret2
 have hfl : bs (be4 l.length ++ be4 (crc l)) ++ bs l = bs (frame l) := by rw [← bs_append, frame, List.append_assoc]
 have hn : 4 + 4 + l.length = (frame l).length := by omega
 rw [hfl] at hown3
 rw [← hn]
 exact ⟨a3, c3, rfl, hown3, hx3⟩
set_option maxHeartbeats 400000 in
theorem rone_any (w : World) (a : Option Addr) (c : Nat) (l : List UInt8) (hrd : Rd w a (bs l)) (hl : l.length ≤ 1099511627776) (hlc : l.length ≤ c) :
  Calls Tryz.prog 32 #[.slice a l.length c] w fun e w' => ∃ a' c', e = .returned (.tuple #[.slice a' (one l).1.length c', .int .i64 (one l).2]) ∧ Rd w' a' (bs (one l).1) ∧ (∀ ad, a' = some ad → w.heap.size ≤ ad.block) ∧ (one l).1.length ≤ c' ∧ c' ≤ maxLen ∧ Ext no w w' := by
 by_cases h8 : l.length < 8
 ·have ho : one l = ([], 8) := by unfold one; rw [if_pos h8]
  rw [ho]
  clear ho
  go_enter Tryz.func32, Tryz.ntmps32
  go_wp2_with fail
  go_ret2
  exact ⟨none, 0, rfl, Rd.nil _ _, fun ad h => (by cases h), Nat.zero_le _, Nat.zero_le _, Ext.refl _ _⟩
 ·have hrest : Rd w (cutAt a c 8 1) (bs (l.drop 8)) := by
   have := hrd.cut c 8 1 (fun _ => by simp; omega)
   rw [bs_drop] at this; exact this
  have hsum : Rd w (cutAt a c 4 1) (bs (l.drop 4)) := by
   have := hrd.cut c 4 1 (fun _ => by simp; omega)
   rw [bs_drop] at this; exact this
  have cut8 : ∀ w, (Instr.sliceAt 37 (.slice a l.length c) (some (.int .i64 8)) none none).run Tryz.prog w = .ok (.slice (cutAt a c 8 1) (l.length - 8) (c - 8)) w := fun w => run_cut_l TBytes w a l.length c .i64 8 (by omega)
  have cut4 : ∀ w, (Instr.sliceAt 37 (.slice a l.length c) (some (.int .i64 4)) none none).run Tryz.prog w = .ok (.slice (cutAt a c 4 1) (l.length - 4) (c - 4)) w := fun w => run_cut_l TBytes w a l.length c .i64 4 (by omega)
  have hn := rd4_lt l
  have hs := rd4_lt (l.drop 4)
  have hc := crc_lt (l.drop 8)
  obtain ⟨o, ho⟩ : ∃ o, o = one l := ⟨_, rfl⟩
  rw [← ho]
  have Ho := Lib.hid ho
  clear ho
  go_enter Tryz.func32, Tryz.ntmps32
  go_wp2_with fail
  refine (rget_any w a c l hrd (by omega) hl).mono ?_
  rintro e w1 ⟨rfl, nq, rfl⟩
  have hx1 := Ext.drewN no w nq
  have hrest1 := hrest.drewN nq
  have hsum1 := hsum.drewN nq
  clear hrest hsum
  generalize w.drewN nq = w1 at *
  by_cases h1 : 4194304 < rd4 l
  ·have Hoo := Lib.hid (show one l = ([], 5) by unfold one; rw [if_neg h8, if_pos h1])
   go_wp2_with fail
   go_ret2
   rw [Ho.out, Hoo.out]
   exact ⟨none, 0, rfl, Rd.nil _ _, fun ad h => (by cases h), Nat.zero_le _, Nat.zero_le _, hx1⟩
  by_cases h2 : l.length - 8 < rd4 l
  ·have Hoo := Lib.hid (show one l = ([], 8) by unfold one; rw [if_neg h8, if_neg h1, if_pos h2])
   go_wp2_with fail
   go_ret2
   rw [Ho.out, Hoo.out]
   exact ⟨none, 0, rfl, Rd.nil _ _, fun ad h => (by cases h), Nat.zero_le _, Nat.zero_le _, hx1⟩
  by_cases h3 : rd4 l < l.length - 8
  ·have Hoo := Lib.hid (show one l = ([], 9) by unfold one; rw [if_neg h8, if_neg h1, if_neg h2, if_pos h3])
   go_wp2_with fail
   go_ret2
   rw [Ho.out, Hoo.out]
   exact ⟨none, 0, rfl, Rd.nil _ _, fun ad h => (by cases h), Nat.zero_le _, Nat.zero_le _, hx1⟩
  have hl8 : (l.drop 8).length ≤ 1099511627776 := by simp; omega
  have hl4 : (l.drop 4).length ≤ 1099511627776 := by simp; omega
  have hl44 : 4 ≤ (l.drop 4).length := by simp; omega
  have Hoo := Lib.hid (show one l = if crc (l.drop 8) = rd4 (l.drop 4) then (l.drop 8, 0) else ([], 10) by unfold one; rw [if_neg h8, if_neg h1, if_neg h2, if_neg h3])
  go_upto_region 10 with fail
  go_quiet (first | (go_at_call 65; exact rget_q _ _ _ _ _ (l.drop 4) (by simp) hsum1 hl44 hl4) | (go_at_call 24; exact rcrc_q _ _ _ _ _ (l.drop 8) (by simp) hrest1 hl8))
  have hx2 := hx1.comp (Ext.drewN no w1 nq)
  have hrest2 := hrest1.drewN nq
  generalize w1.drewN nq = w2 at *
  by_cases hq : crc (l.drop 8) = rd4 (l.drop 4)
  ·have hb : ((crc (l.drop 8) : Int) != (rd4 (l.drop 4) : Int)) = false := by simp [hq]
   rw [if_pos hq] at Hoo
   clear hq
   have hz : Own (w2.alloc (.cells #[] 5)) w2.heap.size (some ⟨w2.heap.size, 0, none⟩) 1 0 0 [] := Own.fresh w2 _ _ _ _ _ _ _ _ (Nat.le_refl _) (by simp) (Nat.le_refl _) (Nat.zero_le _) (by simp) (by simp) (.inl (Nat.le_refl _))
   go_wp2_with (at_builtin; refine wpList_append TBytes rfl rfl rfl hz rfl (hrest2.alloc _) (by simp) (bs_one _) ?c1 ?c2 (by simp) ?_)
   case c1 => unfold maxLen; omega
   case c2 => omega
   intro a3 c3 w3 happ
   have hown3 := happ.own
   have hx3 : Ext no w2 w3 := Ext.ofBelow (((Below.refl _ _).alloc (Nat.le_refl _) _).trans (hz.below happ.ext (by simp))) (Nat.le_refl _)
   rw [Nat.zero_add, List.nil_append] at hown3
   clear happ hz
   go_wp2_with fail
   go_ret2
   rw [Ho.out, Hoo.out]
   exact ⟨a3, c3, by rw [List.length_drop]; simp, hown3.rd, fun ad h => Nat.le_trans hx2.size (hown3.base ad h).1, by have := hown3.nc; simpa using this, hown3.cm, hx2.comp hx3⟩
  ·have hb : ((crc (l.drop 8) : Int) != (rd4 (l.drop 4) : Int)) = true := by simp; omega
   rw [if_neg hq] at Hoo
   clear hq
   go_wp2_with fail
   go_ret2
   rw [Ho.out, Hoo.out]
   exact ⟨none, 0, rfl, Rd.nil _ _, fun ad h => (by cases h), Nat.zero_le _, Nat.zero_le _, hx2⟩
end Go.Proofs.YtddobhihjljcgaaGreat
