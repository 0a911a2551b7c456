/- Walks of the reference of chapter 1: Int, Text, Ints. -/
import Derived.Test.YtddobhihjljcgaaMA
import Derived.Deep.DeepCutAuto
import Derived.Deep.CutBlock
namespace Go.Proofs.Ytddobhihjljcgaa
open Go.RowKit Go.Esc

set_option maxHeartbeats 1000000 in
theorem rint_any (w : World) (B : Nat) (a : Option Addr) (c : Nat) (n0 : Nat) (xs : List Value) (n : Int) (ho : Own w B a 1 n0 c xs) (hB : B ≤ w.heap.size) (hl : n0 ≤ 549755813888) (hn : I64ok n) :
    Calls Try.prog 89 #[.slice a n0 c, .int .i64 n] w fun e w' => ∃ a' c', e = .returned (.slice a' (n0 + (encI n).length) c') ∧ App w w' B 1 a n0 c xs a' c' (encI n).length (bs (encI n)) := by
  have hz := zig_lt n hn.1 hn.2
  have Hrl := Lib.hid (row_length (zig n) hz).1
  obtain ⟨hn1, hn2⟩ := hn
  unfold encI
  obtain ⟨u, hu⟩ : ∃ u, zig n = u := ⟨_, rfl⟩
  rw [hu] at hz Hrl ⊢
  have Hu := Lib.hid hu
  clear hu
  go_enter Try.func89, Try.ntmps89
  go_upto_if 13 with fail
  go_cut [5] (fun s5 wx => s5 = .int .u64 u ∧ wx = w)
  case first =>
    rcases Int.lt_or_le n 0 with hneg | hneg
    · go_wp2_with fail
      go_meet
      have hu : bits BinOp.xor IntKind.u64 IntKind.u64.max (IntKind.u64.wrap (IntKind.u64.wrap n * 2)) = (u : Int) := by
        have h1 : IntKind.u64.wrap (IntKind.u64.wrap n * 2) = ((18446744073709551616 + 2 * n).toNat : Int) := by simp only [IntKind.wrap_u64]; omega
        rw [h1, xor_ones _ (by omega)]
        rw [← Hu.out]; unfold zig; rw [if_pos (by omega)]; omega
      exact ⟨by rw [hu], rfl⟩
    · go_wp2_with fail
      go_meet
      have hu : IntKind.u64.wrap (IntKind.u64.wrap n * 2) = (u : Int) := by rw [← Hu.out]; unfold zig; rw [if_neg (by omega)]; simp only [IntKind.wrap_u64]; omega
      exact ⟨by rw [← hu], rfl⟩
  case rest =>
    obtain ⟨rfl, rfl⟩ := hcut
    go_upto_block 0 with fail
    go_cut [6] (fun s6 wx => (∃ k : Nat, 1 ≤ k ∧ k ≤ 10 ∧ s6 = .int .i64 k ∧ (k = 1 ∨ 0 < u / 2 ^ (7 * (k - 1))) ∧ u / 2 ^ (7 * k) = 0) ∧ wx = wc)
    case first =>
      go_wp2_with fail
      go_loop [6] (fun t => ∃ k : Nat, 1 ≤ k ∧ k ≤ 10 ∧ t = .int .i64 k ∧ (k = 1 ∨ 0 < u / 2 ^ (7 * (k - 1)))) (fun t => 10 - (intOf t).toNat)
      case atStart => exact ⟨1, by omega, by omega, rfl, .inl rfl⟩
      case round =>
        obtain ⟨k, h1, h10, rfl, hk⟩ := hrel
        by_cases hlt : k < 10 ∧ 0 < u / 2 ^ (7 * k)
        · have hd : decide ((k : Int) < 10) = true := by simp; omega
          have hb : ((u : Int) / 2 ^ (7 * k) != 0) = true := by
            have := hlt.2
            have e : ((u / 2 ^ (7 * k) : Nat) : Int) = (u : Int) / 2 ^ (7 * k) := by simp
            rw [← e, bne_iff_ne]; omega
          have hlt1 := hlt.1
          have Hlt2 := Lib.hid hlt.2
          have Hk := Lib.hid hk
          clear hlt hk
          go_wp2_with fail
          go_round
          case rel => exact ⟨k + 1, by omega, by omega, by go_num, .inr Hlt2.out⟩
          case measure => simp [intOf]; omega
        · have hzero : u / 2 ^ (7 * k) = 0 := by
            by_cases h : k < 10
            · exact Nat.eq_zero_of_not_pos fun h' => hlt ⟨h, h'⟩
            · obtain rfl : k = 10 := by omega
              exact Nat.div_eq_of_lt (by omega)
          have hb : ((u : Int) / 2 ^ (7 * k) != 0) = false := by
            have e : ((u / 2 ^ (7 * k) : Nat) : Int) = (u : Int) / 2 ^ (7 * k) := by simp
            rw [← e, hzero]; rfl
          have Hk := Lib.hid hk
          have Hz := Lib.hid hzero
          clear hlt hk hzero
          by_cases hlt : k < 10
          · have hd : decide ((k : Int) < 10) = true := by simp; omega
            go_wp2_with fail
            go_meet
            exact ⟨⟨k, h1, h10, rfl, Hk.out, Hz.out⟩, rfl⟩
          · have hd : decide ((k : Int) < 10) = false := by simp; omega
            go_wp2_with fail
            go_meet
            exact ⟨⟨k, h1, h10, rfl, Hk.out, Hz.out⟩, rfl⟩
    case rest =>
      obtain ⟨⟨k, h1, h10, rfl, hk, hzero⟩, rfl⟩ := hcut
      have Hk := Lib.hid hk
      have Hz := Lib.hid hzero
      clear hk hzero
      have hlb : ∀ ad, a = some ad → ad.block < wc.heap.size := fun ad h => (ho.base ad h).2.1
      go_wp2_with fail
      go_loopw [0, 7, 8] (fun s0 s7 _ wr => ∃ (j : Nat) (a' : Option Addr) (c' : Nat), j ≤ k ∧ s7 = .int .i64 ((j : Int) - 1) ∧ s0 = .slice a' (n0 + (wrote u j).length) c' ∧
          App wc wr B 1 a n0 c xs a' c' (wrote u j).length (bs (wrote u j))) (fun _ s7 _ _ => (intOf s7 + 1).toNat)
      case atStart =>
        have hw0 : wrote u k = [] := by rw [wrote_pos u (by omega)]; exact topDigs_zero u k Hz.out
        exact ⟨k, a, c, Nat.le_refl _, by go_num, by rw [hw0]; rfl, by rw [hw0]; exact App.start ho⟩
      case round =>
        obtain ⟨j, a', c', hj, rfl, rfl, happ⟩ := hrel
        by_cases hj0 : j = 0
        · subst hj0
          go_wp2_with fail
          go_ret
          rw [wrote_zero] at happ
          exact ⟨a', c', by rw [← wrote_zero]; rfl, happ⟩
        · obtain ⟨m, rfl⟩ : ∃ m, j = m + 1 := ⟨j - 1, by omega⟩
          rw [show (((m + 1 : Nat) : Int) - 1) = m from by omega]
          clear hj0
          have hjl := wrote_len u (m + 1) hz
          have hx := and127 ((u : Int) / 2 ^ (7 * m) % 256) (by omega) (by omega)
          rw [show (u : Int) / 2 ^ (7 * m) % 256 % 128 = (u : Int) / 2 ^ (7 * m) % 128 from by omega] at hx
          have hlen := happ.own.len
          by_cases hone : m = 0
          · subst hone
            have hx0 := and127 ((u : Int) % 256) (by omega) (by omega)
            rw [show (u : Int) % 256 % 128 = (u : Int) % 128 from by omega] at hx0
            go_wp2_with (at_builtin; refine wpList_append TBytes rfl rfl rfl (happ.own.alloc _) rfl (Rd.one wr _ _ _) (by simp) ?c1 ?c2 ?c3 ?c4 ?_)
            case c1 => intro v hv; simp at hv; subst hv; rfl
            case c2 => simp only [Nat.zero_add] at hjl ⊢; unfold maxLen; omega
            case c3 => simp only [Nat.zero_add] at hjl ⊢; omega
            case c4 => have := happ.ext.size; simp; omega
            intro a2 c2 w2 happ2
            have hap3 := happ.trans (App.pre (Ext.alloc no _ _) happ2) hlb
            clear happ happ2
            go_wp2_with fail
            go_roundw
            case rel =>
              have e1 : wrote u 0 = wrote u 1 ++ [b8 (u % 128)] := wrote_one u
              refine ⟨0, a2, c2, by omega, by go_num, by rw [e1, List.length_append]; rfl, hap3.cast ?_ ?_⟩
              · rw [e1, List.length_append]; rfl
              · rw [e1, bs_append]; simp only [bs, List.map_cons, List.map_nil, B8_b8 (u % 128) (by omega)]; rfl
            case measure => simp [intOf]
          · have hor := or128 ((u : Int) / 2 ^ (7 * m) % 128) (by omega) (by omega)
            go_wp2_with (at_builtin; refine wpList_append TBytes rfl rfl rfl (happ.own.alloc _) rfl (Rd.one wr _ _ _) (by simp) ?d1 ?d2 ?d3 ?d4 ?_)
            case d1 => intro v hv; simp at hv; subst hv; rfl
            case d2 => unfold maxLen; omega
            case d3 => omega
            case d4 => have := happ.ext.size; simp; omega
            intro a2 c2 w2 happ2
            have hap3 := happ.trans (App.pre (Ext.alloc no _ _) happ2) hlb
            clear happ happ2
            go_wp2_with fail
            go_roundw
            case rel =>
              have hpos : 0 < u / 2 ^ (7 * m) := by
                rcases Hk.out with h | h
                · omega
                · have h2 : u / 2 ^ (7 * (k - 1)) ≤ u / 2 ^ (7 * m) := Nat.div_le_div_left (Nat.pow_le_pow_right (by decide) (by omega)) (Nat.pow_pos (by decide))
                  exact Nat.lt_of_lt_of_le h h2
              have e1 := wrote_step u m (by omega) hpos
              refine ⟨m, a2, c2, by omega, by go_num, by rw [e1, List.length_append]; rfl, hap3.cast ?_ ?_⟩
              · rw [e1, List.length_append]; rfl
              · rw [e1, bs_append]; simp only [bs, List.map_cons, List.map_nil, B8_b8 (u / 2 ^ (7 * m) % 128 + 128) (by omega)]
                congr 3
            case measure => simp [intOf]
set_option maxHeartbeats 400000 in
theorem rtext_any (w : World) (B : Nat) (a : Option Addr) (c : Nat) (n0 : Nat) (xs : List Value) (t : List UInt8) (ho : Own w B a 1 n0 c xs) (hB : B ≤ w.heap.size) (hl : n0 ≤ 274877906944) (hs : t.length ≤ 274877906944) :
    Calls Try.prog 66 #[.slice a n0 c, .string (str t)] w fun e w' => ∃ a' c', e = .returned (.slice a' (n0 + (encT t).length) c') ∧ App w w' B 1 a n0 c xs a' c' (encT t).length (bs (encT t)) := by
  have hn : I64ok t.length := ⟨by omega, by omega⟩
  have hz := zig_lt t.length hn.1 hn.2
  have hr : (encI t.length).length ≤ 10 := (row_length (zig t.length) hz).1
  have hsz := str_size t
  have hlb : ∀ ad, a = some ad → ad.block < w.heap.size := fun ad h => (ho.base ad h).2.1
  go_enter Try.func66, Try.ntmps66
  go_wp2_with fail
  refine (rint_any w B a c n0 xs t.length ho hB (by omega) hn).mono ?_
  rintro e w1 ⟨a1, c1, rfl, happ⟩
  go_wp2_with (at_builtin; refine wpList_append_string TBytes (by exact Try.underlying9) rfl rfl rfl happ.own rfl ?c1 ?c2 ?c3 ?_)
  case c1 => unfold maxLen; omega
  case c2 => omega
  case c3 => have := happ.ext.size; omega
  intro a2 c2 w2 happ2
  rw [str_list] at happ2
  have hap3 := happ.trans happ2 hlb
  clear happ happ2
  go_wp2_with fail
  go_ret
  have e1 : encT t = encI t.length ++ t := rfl
  refine ⟨a2, c2, ?_, hap3.cast (by rw [e1, List.length_append]) (by rw [e1, bs_append])⟩
  rw [e1, List.length_append, ← Nat.add_assoc]; rfl

end Go.Proofs.Ytddobhihjljcgaa
