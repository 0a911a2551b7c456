/- Walks of the package frames: Crc, four, number. -/
import Derived.Test.YtpljcnjkdjblmaaSl
import Derived.Test.YtpljcnjkdjblmaaFrA
import Derived.Laws.BitsAll
import Derived.BigQuiet
import Derived.Deep.DeepCutAuto
import Derived.Outline
namespace Go.Proofs.Ytpljcnjkdjblmaa
open Go.RowKit Go.Esc

theorem wraps_u32 (n : Int) (h₀ : 0 ≤ n) (h₁ : n < 2 ^ 32) : IntKind.u32.wrap n = n := by rw [IntKind.wrap_u32']; omega
theorem xor_ones32 (x : Nat) (h : x < 4294967296) : bits .xor .u32 IntKind.u32.max (x : Int) = ((4294967295 - x : Nat) : Int) := by
  have h0 : IntKind.u32.max = ((4294967295 : Nat) : Int) := rfl
  rw [h0, u32_xor_nat _ _ (by omega) h]
  congr 1
  have h2 : (BitVec.allOnes 32 ^^^ BitVec.ofNat 32 x).toNat = 4294967295 - x := by
    rw [BitVec.allOnes_xor, BitVec.toNat_not, BitVec.toNat_ofNat]
    omega
  rw [BitVec.toNat_xor, BitVec.toNat_ofNat, Nat.mod_eq_of_lt h] at h2
  exact h2
theorem or_num4 (x y z t : UInt8) : bits .or .u32 (bits .or .u32 (bits .or .u32 ((x.toNat : Int) * 16777216) ((y.toNat : Int) * 65536)) ((z.toNat : Int) * 256)) (t.toNat : Int) = ((num4 x y z t : Nat) : Int) := by
  have bx := x.toNat_lt
  have bY := y.toNat_lt
  have bz := z.toNat_lt
  have bt := t.toNat_lt
  have e1 := bits_join .u32 32 (by decide) wraps_u32 24 ((x.toNat : Int) * 16777216) ((y.toNat : Int) * 65536) (by omega) (by first | omega | (simp; omega)) (by first | (simp; omega) | simp) (by omega) (by first | omega | (simp; omega)) (by first | omega | (simp; omega))
  have e2 := bits_join .u32 32 (by decide) wraps_u32 16 ((x.toNat : Int) * 16777216 + (y.toNat : Int) * 65536) ((z.toNat : Int) * 256) (by omega) (by first | omega | (simp; omega)) (by first | (simp; omega) | simp) (by omega) (by first | omega | (simp; omega)) (by first | omega | (simp; omega))
  have e3 := bits_join .u32 32 (by decide) wraps_u32 8 ((x.toNat : Int) * 16777216 + (y.toNat : Int) * 65536 + (z.toNat : Int) * 256) (t.toNat : Int) (by omega) (by first | omega | (simp; omega)) (by first | (simp; omega) | simp) (by omega) (by first | omega | (simp; omega)) (by first | omega | (simp; omega))
  rw [e1, e2, e3]
  unfold num4
  omega

set_option maxHeartbeats 400000 in
theorem fcrc_any (w : World) (a : Option Addr) (c : Nat) (l : List UInt8) (hrd : Rd w a (bs l)) (hl : l.length ≤ 1099511627776) :
    Calls Try.prog 59 #[.slice a l.length c] w fun e w' => e = .returned (.int .u32 (crc l)) ∧ w = w' := by
  go_enter Try.func59, Try.ntmps59
  go_wp2_with fail
  go_loop [3, 8] (fun s3 s8 => ∃ (k v : Nat), k ≤ l.length ∧ s8 = .int .i64 k ∧ s3 = .int .u32 v ∧ v < 4294967296 ∧ v = crcL 4294967295 (l.take k)) (fun _ s8 => l.length - (intOf s8).toNat)
  case atStart => exact ⟨0, 4294967295, Nat.zero_le _, rfl, rfl, by omega, by simp [crcL]⟩
  case round =>
    obtain ⟨k, v, hk, rfl, rfl, hv, hcr⟩ := hrel
    have Hcr := Lib.hid hcr
    clear hcr
    by_cases hlt : k < l.length
    · obtain ⟨ad, rfl, _⟩ := hrd.ne (by simp; omega)
      have hcell := hrd.cell k (by simpa using hlt)
      rw [show (bs l)[k]'(by simpa using hlt) = .int .u8 l[k].toNat from by simp [bs, B8]] at hcell
      have hb := l[k].toNat_lt
      have hxl : v ^^^ l[k].toNat < 4294967296 := Nat.xor_lt_two_pow (n := 32) hv (by omega)
      have Hst := Lib.hid (show crcL 4294967295 (l.take (k + 1)) = crcB v l[k] by rw [List.take_succ_eq_append_getElem hlt, crcL_snoc, Hcr.out])
      have hx : bits .xor .u32 (v : Int) (l[k].toNat : Int) = ((v ^^^ l[k].toNat : Nat) : Int) := u32_xor_nat _ _ hv (by omega)
      generalize l[k] = b at *
      go_wp2_with fail
      go_loop [3, 16] (fun s3 s16 => ∃ (j u : Nat), j ≤ 8 ∧ s16 = .int .i64 j ∧ s3 = .int .u32 u ∧ u < 4294967296 ∧ u = bitN j (v ^^^ b.toNat)) (fun _ s16 => 8 - (intOf s16).toNat)
      case atStart => exact ⟨0, v ^^^ b.toNat, by omega, rfl, rfl, hxl, rfl⟩
      case round =>
        obtain ⟨j, u, hj, rfl, rfl, hu, hbn⟩ := hrel
        have Hbn := Lib.hid hbn
        clear hbn
        by_cases hlt8 : j < 8
        · have h2 : u % 2 ≤ 1 := by omega
          have hx2 : bits .xor .u32 ((u : Int) / 2) (3988292384 * ((u : Int) % 2)) = ((bit u : Nat) : Int) := by
            have := u32_xor_nat (u / 2) (3988292384 * (u % 2)) (by omega) (by omega)
            unfold bit; simpa using this
          have hand : bits .and .u32 (u : Int) 1 = (u : Int) % 2 := by
            have := u32_and_nat u 1 hu (by omega)
            rw [Nat.and_one_is_mod] at this
            simpa using this
          have hbl := bit_lt hu
          go_wp2_with fail
          go_round
          case rel => exact ⟨j + 1, bit u, by omega, by go_num, rfl, hbl, by rw [Hbn.out]; rfl⟩
          case measure => simp [intOf]; omega
        · obtain rfl : j = 8 := by omega
          go_wp2_with fail
          go_round
          case rel => exact ⟨k + 1, u, by omega, by go_num, rfl, hu, by rw [Hst.out, Hbn.out]; rfl⟩
          case measure => simp [intOf]; omega
    · obtain rfl : k = l.length := by omega
      rw [List.take_length] at Hcr
      have hxo := xor_ones32 v hv
      go_wp2_with fail
      go_ret
      exact ⟨by rw [crc, ← Hcr.out]; rfl, rfl⟩

set_option maxHeartbeats 400000 in
theorem four_any (w : World) (n : Nat) (hn : n < 4294967296) :
    Calls Try.prog 78 #[.int .u32 n] w fun e w' => ∃ a c, e = .returned (.slice a 4 c) ∧ Own w' w.heap.size a 1 4 c (bs (be4 n)) ∧ Ext no w w' := by
  go_enter Try.func78, Try.ntmps78
  go_wp2_with fail
  go_ret
  refine ⟨_, 4, rfl, ?_, Ext.alloc no _ _⟩
  refine Own.fresh w _ _ _ _ _ _ _ _ (Nat.le_refl _) (by simp [be4_length]) (Nat.le_refl _) (by unfold maxLen; omega) rfl ?_ (.inl (Nat.le_refl _))
  simp only [be4, bs, List.map_cons, List.map_nil, B8_b8 (n / 16777216) (by omega), B8_b8 (n / 65536 % 256) (by omega), B8_b8 (n / 256 % 256) (by omega), B8_b8 (n % 256) (by omega)]
  simp

set_option maxHeartbeats 400000 in
theorem fnum_any (w : World) (a : Option Addr) (c : Nat) (l : List UInt8) (hrd : Rd w a (bs l)) (h4 : 4 ≤ l.length) (hl : l.length ≤ 1099511627776) :
    Calls Try.prog 58 #[.slice a l.length c] w fun e w' => e = .returned (.int .u32 (rd4 l)) ∧ ∃ n, w' = w.drewN n := by
  obtain ⟨b, off, rfl, _⟩ := hrd.shape (by simp; omega)
  obtain ⟨x, y, z, t, r, hs⟩ := rd4_split l h4
  have hc0 := hrd.lookup 0 (by simp; omega)
  have hc1 := hrd.lookup 1 (by simp; omega)
  have hc2 := hrd.lookup 2 (by simp; omega)
  have hc3 := hrd.lookup 3 (by simp; omega)
  simp only [hs, bs, B8, List.map_cons, List.getElem_cons_zero, List.getElem_cons_succ] at hc0 hc1 hc2 hc3
  rw [Nat.add_zero] at hc0
  have hrd4 : rd4 l = num4 x y z t := by rw [hs]; rfl
  have i0 : (0 : Int) < l.length := by omega
  have i1 : (1 : Int) < l.length := by omega
  have i2 : (2 : Int) < l.length := by omega
  have i3 : (3 : Int) < l.length := by omega
  have bx := x.toNat_lt
  have bY := y.toNat_lt
  have bz := z.toNat_lt
  have bt := t.toNat_lt
  rw [hrd4]
  clear hs hrd4
  go_enter Try.func58, Try.ntmps58
  go_upto_region 1 with fail
  go_quiet (fail)
  go_wp2_with fail
  rw [or_num4]
  go_ret
  exact ⟨rfl, _, rfl⟩

theorem fcrc_q (w : World) (n : Nat) (a : Option Addr) (m c : Nat) (l : List UInt8) (hm : m = l.length) (hrd : Rd w a (bs l)) (hl : l.length ≤ 1099511627776) :
    Calls Try.prog 59 #[.slice a m c] (w.drewN n) fun e w' => e = .returned (.int .u32 (crc l)) ∧ ∃ m, w' = w.drewN m := by
  subst hm
  exact (fcrc_any _ a c l (hrd.drewN n) hl).mono fun e w' ⟨he, hw⟩ => ⟨he, n, hw.symm⟩
theorem fnum_q (w : World) (n : Nat) (a : Option Addr) (m c : Nat) (l : List UInt8) (hm : m = l.length) (hrd : Rd w a (bs l)) (h4 : 4 ≤ l.length) (hl : l.length ≤ 1099511627776) :
    Calls Try.prog 58 #[.slice a m c] (w.drewN n) fun e w' => e = .returned (.int .u32 (rd4 l)) ∧ ∃ m, w' = w.drewN m := by
  subst hm
  exact Calls.quiet_of (fnum_any _ a c l (hrd.drewN n) h4 hl)
end Go.Proofs.Ytpljcnjkdjblmaa
