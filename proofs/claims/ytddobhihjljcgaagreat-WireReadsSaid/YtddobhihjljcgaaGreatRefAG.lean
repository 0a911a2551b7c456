/- The texts RefA RefA2 RefB RefC RefD RefE RefF RefG in one. -/
import Derived.Test.YtddobhihjljcgaaGreatMA
import Derived.Deep.DeepCutAuto
import Derived.Deep.CutBlock
import Derived.Test.YtddobhihjljcgaaGreatCodeEI
import Derived.Deep.LoopGhost
import Derived.BigQuiet
/- Walks of the reference of chapter 1: Int, Text, Ints. -/
namespace Go.Proofs.YtddobhihjljcgaaGreat
open Go.RowKit Go.Esc
set_option maxHeartbeats 1000000 in
theorem rint_any (w : World) (B : Nat) (a : Option Addr) (c : Nat) (n0 : Nat) (xs : List Value) (n : Int) (ho : Own w B a 1 n0 c xs) (hB : B ≤ w.heap.size) (hl : n0 ≤ 549755813888) (hn : I64ok n) :
  Calls Tryz.prog 21 #[.slice a n0 c, .int .i64 n] w fun e w' => ∃ a' c', e = .returned (.slice a' (n0 + (encI n).length) c') ∧ App w w' B 1 a n0 c xs a' c' (encI n).length (bs (encI n)) := by
 have hz := zig_lt n hn.1 hn.2
 have Hrl := Lib.hid (row_length (zig n) hz).1
 obtain ⟨hn1, hn2⟩ := hn
 unfold encI
 obtain ⟨u, hu⟩ : ∃ u, zig n = u := ⟨_, rfl⟩
 rw [hu] at hz Hrl ⊢
 have Hu := Lib.hid hu
 clear hu
 go_enter Tryz.func21, Tryz.ntmps21
 go_upto_if 13 with fail
 go_cut [5] (fun s5 wx => s5 = .int .u64 u ∧ wx = w)
 case first =>
  rcases Int.lt_or_le n 0 with hneg | hneg
  ·go_wp2_with fail
   go_meet
   have hu : bits BinOp.xor IntKind.u64 IntKind.u64.max (IntKind.u64.wrap (IntKind.u64.wrap n * 2)) = (u : Int) := by
    have h1 : IntKind.u64.wrap (IntKind.u64.wrap n * 2) = ((18446744073709551616 + 2 * n).toNat : Int) := by simp only [IntKind.wrap_u64]; omega
    rw [h1, xor_ones _ (by omega)]
    rw [← Hu.out]; unfold zig; rw [if_pos (by omega)]; omega
   exact ⟨by rw [hu], rfl⟩
  ·go_wp2_with fail
   go_meet
   have hu : IntKind.u64.wrap (IntKind.u64.wrap n * 2) = (u : Int) := by rw [← Hu.out]; unfold zig; rw [if_neg (by omega)]; simp only [IntKind.wrap_u64]; omega
   exact ⟨by rw [← hu], rfl⟩
 case rest =>
  obtain ⟨rfl, rfl⟩ := hcut
  go_upto_block 0 with fail
  go_cut [6] (fun s6 wx => (∃ k : Nat, 1 ≤ k ∧ k ≤ 10 ∧ s6 = .int .i64 k ∧ (k = 1 ∨ 0 < u / 2 ^ (7 * (k - 1))) ∧ u / 2 ^ (7 * k) = 0) ∧ wx = wc)
  case first =>
   go_wp2_with fail
   go_loop [6] (fun t => ∃ k : Nat, 1 ≤ k ∧ k ≤ 10 ∧ t = .int .i64 k ∧ (k = 1 ∨ 0 < u / 2 ^ (7 * (k - 1)))) (fun t => 10 - (intOf t).toNat)
   case atStart => exact ⟨1, by omega, by omega, rfl, .inl rfl⟩
   case round =>
    obtain ⟨k, h1, h10, rfl, hk⟩ := hrel
    by_cases hlt : k < 10 ∧ 0 < u / 2 ^ (7 * k)
    ·have hd : decide ((k : Int) < 10) = true := by simp; omega
     have hb : ((u : Int) / 2 ^ (7 * k) != 0) = true := by
      have := hlt.2
      have e : ((u / 2 ^ (7 * k) : Nat) : Int) = (u : Int) / 2 ^ (7 * k) := by simp
      rw [← e, bne_iff_ne]; omega
     have hlt1 := hlt.1
     have Hlt2 := Lib.hid hlt.2
     have Hk := Lib.hid hk
     clear hlt hk
     go_wp2_with fail
     go_round
     case rel => exact ⟨k + 1, by omega, by omega, by go_num, .inr Hlt2.out⟩
     case measure => simp [intOf]; omega
    ·have hzero : u / 2 ^ (7 * k) = 0 := by
      by_cases h : k < 10
      ·exact Nat.eq_zero_of_not_pos fun h' => hlt ⟨h, h'⟩
      ·obtain rfl : k = 10 := by omega
       exact Nat.div_eq_of_lt (by omega)
     have hb : ((u : Int) / 2 ^ (7 * k) != 0) = false := by
      have e : ((u / 2 ^ (7 * k) : Nat) : Int) = (u : Int) / 2 ^ (7 * k) := by simp
      rw [← e, hzero]; rfl
     have Hk := Lib.hid hk
     have Hz := Lib.hid hzero
     clear hlt hk hzero
     by_cases hlt : k < 10
     ·have hd : decide ((k : Int) < 10) = true := by simp; omega
      go_wp2_with fail
      go_meet
      exact ⟨⟨k, h1, h10, rfl, Hk.out, Hz.out⟩, rfl⟩
     ·have hd : decide ((k : Int) < 10) = false := by simp; omega
      go_wp2_with fail
      go_meet
      exact ⟨⟨k, h1, h10, rfl, Hk.out, Hz.out⟩, rfl⟩
  case rest =>
   obtain ⟨⟨k, h1, h10, rfl, hk, hzero⟩, rfl⟩ := hcut
   have Hk := Lib.hid hk
   have Hz := Lib.hid hzero
   clear hk hzero
   have hlb : ∀ ad, a = some ad → ad.block < wc.heap.size := fun ad h => (ho.base ad h).2.1
   go_wp2_with fail
   go_loopw [0, 7, 8] (fun s0 s7 _ wr => ∃ (j : Nat) (a' : Option Addr) (c' : Nat), j ≤ k ∧ s7 = .int .i64 ((j : Int) - 1) ∧ s0 = .slice a' (n0 + (wrote u j).length) c' ∧
     App wc wr B 1 a n0 c xs a' c' (wrote u j).length (bs (wrote u j))) (fun _ s7 _ _ => (intOf s7 + 1).toNat)
   case atStart =>
    have hw0 : wrote u k = [] := by rw [wrote_pos u (by omega)]; exact topDigs_zero u k Hz.out
    exact ⟨k, a, c, Nat.le_refl _, by go_num, by rw [hw0]; rfl, by rw [hw0]; exact App.start ho⟩
   case round =>
    obtain ⟨j, a', c', hj, rfl, rfl, happ⟩ := hrel
    by_cases hj0 : j = 0
    ·subst hj0
     go_wp2_with fail
     go_ret
     rw [wrote_zero] at happ
     exact ⟨a', c', by rw [← wrote_zero]; rfl, happ⟩
    ·obtain ⟨m, rfl⟩ : ∃ m, j = m + 1 := ⟨j - 1, by omega⟩
     rw [show (((m + 1 : Nat) : Int) - 1) = m from by omega]
     clear hj0
     have hjl := wrote_len u (m + 1) hz
     have hx := and127 ((u : Int) / 2 ^ (7 * m) % 256) (by omega) (by omega)
     rw [show (u : Int) / 2 ^ (7 * m) % 256 % 128 = (u : Int) / 2 ^ (7 * m) % 128 from by omega] at hx
     have hlen := happ.own.len
     by_cases hone : m = 0
     ·subst hone
      have hx0 := and127 ((u : Int) % 256) (by omega) (by omega)
      rw [show (u : Int) % 256 % 128 = (u : Int) % 128 from by omega] at hx0
      go_wp2_with (at_builtin; refine wpList_append TBytes rfl rfl rfl (happ.own.alloc _) rfl (Rd.one wr _ _ _) (by simp) ?c1 ?c2 ?c3 ?c4 ?_)
      case c1 => intro v hv; simp at hv; subst hv; rfl
      case c2 => simp only [Nat.zero_add] at hjl ⊢; unfold maxLen; omega
      case c3 => simp only [Nat.zero_add] at hjl ⊢; omega
      case c4 => have := happ.ext.size; simp; omega
      intro a2 c2 w2 happ2
      have hap3 := happ.trans (App.pre (Ext.alloc no _ _) happ2) hlb
      clear happ happ2
      go_wp2_with fail
      go_roundw
      case rel =>
       have e1 : wrote u 0 = wrote u 1 ++ [b8 (u % 128)] := wrote_one u
       refine ⟨0, a2, c2, by omega, by go_num, by rw [e1, List.length_append]; rfl, hap3.cast ?_ ?_⟩
       ·rw [e1, List.length_append]; rfl
       ·rw [e1, bs_append]; simp only [bs, List.map_cons, List.map_nil, B8_b8 (u % 128) (by omega)]; rfl
      case measure => simp [intOf]
     ·have hor := or128 ((u : Int) / 2 ^ (7 * m) % 128) (by omega) (by omega)
      go_wp2_with (at_builtin; refine wpList_append TBytes rfl rfl rfl (happ.own.alloc _) rfl (Rd.one wr _ _ _) (by simp) ?d1 ?d2 ?d3 ?d4 ?_)
      case d1 => intro v hv; simp at hv; subst hv; rfl
      case d2 => unfold maxLen; omega
      case d3 => omega
      case d4 => have := happ.ext.size; simp; omega
      intro a2 c2 w2 happ2
      have hap3 := happ.trans (App.pre (Ext.alloc no _ _) happ2) hlb
      clear happ happ2
      go_wp2_with fail
      go_roundw
      case rel =>
       have hpos : 0 < u / 2 ^ (7 * m) := by
        rcases Hk.out with h | h
        ·omega
        ·have h2 : u / 2 ^ (7 * (k - 1)) ≤ u / 2 ^ (7 * m) := Nat.div_le_div_left (Nat.pow_le_pow_right (by decide) (by omega)) (Nat.pow_pos (by decide))
         exact Nat.lt_of_lt_of_le h h2
       have e1 := wrote_step u m (by omega) hpos
       refine ⟨m, a2, c2, by omega, by go_num, by rw [e1, List.length_append]; rfl, hap3.cast ?_ ?_⟩
       ·rw [e1, List.length_append]; rfl
       ·rw [e1, bs_append]; simp only [bs, List.map_cons, List.map_nil, B8_b8 (u / 2 ^ (7 * m) % 128 + 128) (by omega)]
        congr 3
      case measure => simp [intOf]
set_option maxHeartbeats 400000 in
theorem rtext_any (w : World) (B : Nat) (a : Option Addr) (c : Nat) (n0 : Nat) (xs : List Value) (t : List UInt8) (ho : Own w B a 1 n0 c xs) (hB : B ≤ w.heap.size) (hl : n0 ≤ 274877906944) (hs : t.length ≤ 274877906944) :
  Calls Tryz.prog 50 #[.slice a n0 c, .string (str t)] w fun e w' => ∃ a' c', e = .returned (.slice a' (n0 + (encT t).length) c') ∧ App w w' B 1 a n0 c xs a' c' (encT t).length (bs (encT t)) := by
 have hn : I64ok t.length := ⟨by omega, by omega⟩
 have hz := zig_lt t.length hn.1 hn.2
 have hr : (encI t.length).length ≤ 10 := (row_length (zig t.length) hz).1
 have hsz := str_size t
 have hlb : ∀ ad, a = some ad → ad.block < w.heap.size := fun ad h => (ho.base ad h).2.1
 go_enter Tryz.func50, Tryz.ntmps50
 go_wp2_with fail
 refine (rint_any w B a c n0 xs t.length ho hB (by omega) hn).mono ?_
 rintro e w1 ⟨a1, c1, rfl, happ⟩
 go_wp2_with (at_builtin; refine wpList_append_string TBytes (by exact Tryz.underlying9) rfl rfl rfl happ.own rfl ?c1 ?c2 ?c3 ?_)
 case c1 => unfold maxLen; omega
 case c2 => omega
 case c3 => have := happ.ext.size; omega
 intro a2 c2 w2 happ2
 rw [str_list] at happ2
 have hap3 := happ.trans happ2 hlb
 clear happ happ2
 go_wp2_with fail
 go_ret
 have e1 : encT t = encI t.length ++ t := rfl
 refine ⟨a2, c2, ?_, hap3.cast (by rw [e1, List.length_append]) (by rw [e1, bs_append])⟩
 rw [e1, List.length_append, ← Nat.add_assoc]; rfl
end Go.Proofs.YtddobhihjljcgaaGreat
/- Walk: escrowref1.Ints. -/
namespace Go.Proofs.YtddobhihjljcgaaGreat
open Go.RowKit Go.Esc
set_option maxHeartbeats 400000 in
theorem rints_any (w : World) (B : Nat) (a b : Option Addr) (c cb : Nat) (n0 : Nat) (xs : List Value) (t : List Int) (ho : Own w B a 1 n0 c xs) (hB : B ≤ w.heap.size) (hl : n0 ≤ 274877906944)
  (hrd : Rd w b (is t)) (hbn : 0 < t.length → ∀ ad, b = some ad → ¬ blk a ad.block) (ht : t.length ≤ 17179869184) (hok : ∀ n ∈ t, I64ok n) :
  Calls Tryz.prog 51 #[.slice a n0 c, .slice b t.length cb] w fun e w' => ∃ a' c', e = .returned (.slice a' (n0 + (encL t).length) c') ∧ App w w' B 1 a n0 c xs a' c' (encL t).length (bs (encL t)) := by
 have hn : I64ok t.length := ⟨by omega, by omega⟩
 have hlb : ∀ ad, a = some ad → ad.block < w.heap.size := fun ad h => (ho.base ad h).2.1
 have hsm : ∀ k, (encLk t k).length ≤ 10 + k * 10 := encLk_length t hn hok
 go_enter Tryz.func51, Tryz.ntmps51
 go_wp2_with fail
 refine (rint_any w B a c n0 xs t.length ho hB (by omega) hn).mono ?_
 rintro e w1 ⟨a1, c1, rfl, happ⟩
 go_wp2_with fail
 go_loopw [0, 5] (fun s0 s5 wr => ∃ (k : Nat) (a' : Option Addr) (c' : Nat), k ≤ t.length ∧ s5 = .int .i64 k ∧ s0 = .slice a' (n0 + (encLk t k).length) c' ∧
   App w wr B 1 a n0 c xs a' c' (encLk t k).length (bs (encLk t k))) (fun _ s5 _ => t.length - (intOf s5).toNat)
 case atStart =>
  have e0 : encLk t 0 = encI t.length := by simp [encLk]
  exact ⟨0, a1, c1, Nat.zero_le _, rfl, by rw [e0], by rw [e0]; exact happ⟩
 case round =>
  clear happ
  obtain ⟨k, a', c', hk, rfl, rfl, happ⟩ := hrel
  by_cases hlt : k < t.length
  ·obtain ⟨ad, rfl, _⟩ := hrd.ne (by simp; omega)
   have hc := happ.ext.keeps (hrd.cell k (by simpa using hlt)) (by rw [add_block]; exact hbn (by omega) ad rfl)
   have hk1 := hsm k
   rw [show (is t)[k]'(by simpa using hlt) = .int .i64 t[k] from by simp [is, I64]] at hc
   go_wp2_with fail
   refine (rint_any wr B a' c' _ _ t[k] happ.own (by have := happ.ext.size; omega) (by omega) (hok _ (by simp))).mono ?_
   rintro e w2 ⟨a2, c2, rfl, happ2⟩
   have hap3 := happ.trans happ2 hlb
   clear happ happ2
   go_wp2_with fail
   go_roundw
   case rel =>
    have e1 := encLk_succ t k hlt
    refine ⟨k + 1, a2, c2, by omega, by go_num, ?_, hap3.cast ?_ ?_⟩
    ·rw [e1, List.length_append, ← Nat.add_assoc]
    ·rw [e1, List.length_append]
    ·rw [e1, bs_append]
   case measure => simp [intOf]; omega
  ·obtain rfl : k = t.length := by omega
   go_wp2_with fail
   go_ret
   rw [encLk_all] at happ
   exact ⟨a', c', by rw [← encLk_all]; rfl, happ⟩
end Go.Proofs.YtddobhihjljcgaaGreat
/- Walks of the document's reader: New, Int, Fail, End. -/
namespace Go.Proofs.YtddobhihjljcgaaGreat
open Go.RowKit Go.Esc
set_option linter.unusedVariables false
theorem _root_.Go.Esc.Rd.extB {S : Nat → Prop} {w w' : World} {a : Option Addr} {b : List UInt8} (h : Rd w a (bs b)) (hx : Ext S w w') (hs : b ≠ [] → ∀ ad, a = some ad → ¬ S ad.block) : Rd w' a (bs b) := by
 cases b with
 | nil => exact Rd.nil _ _
 | cons x b => exact h.ext hx (hs (by simp))
theorem _root_.Go.Esc.Rd.low {w : World} {a : Option Addr} {b : List UInt8} (h : Rd w a (bs b)) (hb : b ≠ []) (ad : Addr) (ha : a = some ad) : ad.block < w.heap.size := by
 obtain ⟨ad', h1, h2⟩ := h.ne (by cases b with | nil => exact absurd rfl hb | cons x b => simp)
 rw [ha] at h1
 cases h1
 exact h2
/-- A reader of the document's lies in block g; of its bytes b these are left; this error. -/
structure XRdr (w : World) (g : Nat) (a : Option Addr) (c : Nat) (b : List UInt8) (l : List UInt8) (er : Int) : Prop where
 sl : w.cell? ⟨g, 0, none⟩ = some (.slice a b.length c)
 pos : ∃ p : Nat, p ≤ b.length ∧ w.cell? ⟨g, 1, none⟩ = some (.int .i64 p) ∧ l = b.drop p
 err : w.cell? ⟨g, 2, none⟩ = some (.int .i64 er)
 fr : ∀ j, w.frozen? ⟨g, j, none⟩ = false
 rd : Rd w a (bs b)
 cap : b.length ≤ c
 cm : c ≤ maxLen
 sep : b ≠ [] → ∀ ad, a = some ad → ad.block ≠ g
theorem XRdr.lt {w : World} {g : Nat} {a : Option Addr} {c : Nat} {b l : List UInt8} {er : Int} (h : XRdr w g a c b l er) : g < w.heap.size := World.block_lt_of_cell? w _ h.err
theorem XRdr.ext {S : Nat → Prop} {w w' : World} {g : Nat} {a : Option Addr} {c : Nat} {b l : List UInt8} {er : Int} (h : XRdr w g a c b l er) (hx : Ext S w w') (hg : ¬ S g) (hs : b ≠ [] → ∀ ad, a = some ad → ¬ S ad.block) : XRdr w' g a c b l er := by
 obtain ⟨p, h1, h2, h3⟩ := h.pos
 exact ⟨hx.keeps h.sl hg, ⟨p, h1, hx.keeps h2 hg, h3⟩, hx.keeps h.err hg, fun j => by rw [hx.frozen (p := ⟨g, j, none⟩) h.lt hg]; exact h.fr j, h.rd.extB hx hs, h.cap, h.cm, h.sep⟩
theorem XRdr.no {w w' : World} {g : Nat} {a : Option Addr} {c : Nat} {b l : List UInt8} {er : Int} (h : XRdr w g a c b l er) (hx : Ext no w w') : XRdr w' g a c b l er := h.ext hx (fun h => h) (fun _ _ _ h => h)
theorem XRdr.setErr {w : World} {g : Nat} {a : Option Addr} {c : Nat} {b l : List UInt8} {er : Int} (h : XRdr w g a c b l er) (k : Int) : XRdr (w.setCell ⟨g, 2, none⟩ (.int .i64 k)) g a c b l k := by
 obtain ⟨p, h1, h2, h3⟩ := h.pos
 refine ⟨?_, ⟨p, h1, ?_, h3⟩, World.cell?_setCell_same _ _ _ h.err, fun j => ?_, h.rd.extB (Ext.setCell (S := just g) _ _ _ rfl) h.sep, h.cap, h.cm, h.sep⟩
 ·rw [World.cell?_setCell_other _ _ _ _ (by simp)]; exact h.sl
 ·rw [World.cell?_setCell_other _ _ _ _ (by simp)]; exact h2
 ·have := World.frozen?_setCells g [.int .i64 k] 2 w ⟨g, j, none⟩
  exact this.trans (h.fr j)
theorem XRdr.setPos {w : World} {g : Nat} {a : Option Addr} {c : Nat} {b l : List UInt8} {er : Int} (h : XRdr w g a c b l er) (p : Nat) (hp : p ≤ b.length) : XRdr (w.setCell ⟨g, 1, none⟩ (.int .i64 p)) g a c b (b.drop p) er := by
 obtain ⟨p0, h1, h2, h3⟩ := h.pos
 refine ⟨?_, ⟨p, hp, World.cell?_setCell_same _ _ _ h2, rfl⟩, ?_, fun j => ?_, h.rd.extB (Ext.setCell (S := just g) _ _ _ rfl) h.sep, h.cap, h.cm, h.sep⟩
 ·rw [World.cell?_setCell_other _ _ _ _ (by simp)]; exact h.sl
 ·rw [World.cell?_setCell_other _ _ _ _ (by simp)]; exact h.err
 ·have := World.frozen?_setCells g [.int .i64 p] 1 w ⟨g, j, none⟩
  exact this.trans (h.fr j)
theorem xnew_any (w : World) (a : Option Addr) (c : Nat) (b : List UInt8) (hrd : Rd w a (bs b)) (hc : b.length ≤ c) (hm : c ≤ maxLen) :
  Calls Tryz.prog 33 #[.slice a b.length c] w fun e w' => e = .returned (.pointer (some ⟨w.heap.size, 0, none⟩)) ∧ XRdr w' w.heap.size a c b b 0 ∧ Ext no w w' := by
 go_enter Tryz.func33, Tryz.ntmps33
 go_wp2_with fail
 go_ret
 have hxa : Ext no w (w.alloc (.cells #[.slice a b.length c, .int .i64 0, .int .i64 0] 122)) := Ext.alloc _ _ _
 exact ⟨rfl, ⟨by simp, ⟨0, Nat.zero_le _, by simp, by simp⟩, by simp, fun j => by simp, hrd.ext hxa (fun _ _ h => h), hc, hm, fun hb ad ha => by have := hrd.low hb ad ha; omega⟩, hxa⟩
theorem xfail_any (w : World) (g : Nat) {a : Option Addr} {c : Nat} {b : List UInt8} (l : List UInt8) (er k : Int) (h : XRdr w g a c b l er) :
  Calls Tryz.prog 35 #[.pointer (some ⟨g, 0, none⟩), .int .i64 k] w fun e w' => e = .returned (.tuple #[]) ∧ XRdr w' g a c b l (fails er k) ∧ Ext (just g) w w' := by
 have hc := h.err
 have hf := h.fr 2
 by_cases h0 : er = 0
 ·subst h0
  go_enter Tryz.func35, Tryz.ntmps35
  go_wp2_with fail
  go_end0
  exact ⟨rfl, h.setErr k, Ext.setCell _ _ _ rfl⟩
 ·have hb : (er == 0) = false := by rw [beq_eq_false_iff_ne]; exact h0
  have H0 := Lib.hid h0
  clear h0
  go_enter Tryz.func35, Tryz.ntmps35
  go_wp2_with fail
  go_end0
  exact ⟨rfl, by unfold fails; rw [if_neg H0.out]; exact h, Ext.refl _ _⟩
theorem xend_any (w : World) (g : Nat) {a : Option Addr} {c : Nat} {b : List UInt8} (s : RS) (h : XRdr w g a c b s.l s.e) :
  Calls Tryz.prog 37 #[.pointer (some ⟨g, 0, none⟩)] w fun e w' => e = .returned (.int .i64 (rEnd s)) ∧ Ext no w w' := by
 have h1 := h.sl
 have hc := h.err
 obtain ⟨p, hp, h2, hl⟩ := h.pos
 by_cases h0 : s.e = 0
 ·have hb : (s.e == 0) = true := by rw [beq_iff_eq]; exact h0
  by_cases hpl : p < b.length
  ·have hl' : decide (p < b.length) = true := by rw [decide_eq_true_eq]; omega
   have hr : rEnd s = 9 := by unfold rEnd; rw [if_pos ⟨h0, by rw [hl]; simp; omega⟩]
   have Hr := Lib.hid hr
   clear h0 hr hl hpl
   go_enter Tryz.func37, Tryz.ntmps37
   go_upto_region 1 with fail
   go_quiet (fail)
   go_wp2_with fail
   go_ret
   exact ⟨by rw [Hr.out]; rfl, Ext.drewN no _ _⟩
  ·have hl' : decide (p < b.length) = false := by rw [decide_eq_false_iff_not]; omega
   have hr : rEnd s = s.e := by unfold rEnd; rw [if_neg (fun hh => by have := hh.2; rw [hl] at this; simp at this; omega)]
   have Hr := Lib.hid hr
   clear h0 hr hl hpl
   go_enter Tryz.func37, Tryz.ntmps37
   go_upto_region 1 with fail
   go_quiet (fail)
   go_wp2_with fail
   go_ret
   exact ⟨by rw [Hr.out]; rfl, Ext.drewN no _ _⟩
 ·have hb : (s.e == 0) = false := by rw [beq_eq_false_iff_ne]; exact h0
  have hr : rEnd s = s.e := by unfold rEnd; rw [if_neg (fun hh => h0 hh.1)]
  have Hr := Lib.hid hr
  clear h0 hr
  go_enter Tryz.func37, Tryz.ntmps37
  go_upto_region 1 with fail
  go_quiet (fail)
  go_wp2_with fail
  go_ret
  exact ⟨by rw [Hr.out]; rfl, Ext.drewN no _ _⟩
end Go.Proofs.YtddobhihjljcgaaGreat
/- Walks of the document's reader: Int. -/
namespace Go.Proofs.YtddobhihjljcgaaGreat
open Go.RowKit Go.Esc
set_option linter.unusedVariables false
theorem sgn_odd' (v : Nat) (x : Int) (hx : x = (v : Int)) (h : (x % 2 == 1) = true) : sgn v = -1 - x / 2 := by
 rw [sgn_odd v x hx h]; omega
theorem and1 (x : Int) (h0 : 0 ≤ x) (h1 : x < 18446744073709551616) : bits .and .u64 x 1 = x % 2 := bits_mask .u64 64 (by decide) wraps_u64 1 (by decide) x h0 (by simpa using h1)
set_option maxHeartbeats 1000000 in
theorem xint_skip (w : World) (g : Nat) {a : Option Addr} {c : Nat} {b l : List UInt8} {er : Int} (h : XRdr w g a c b l er) (h0 : er ≠ 0) :
  Calls Tryz.prog 34 #[.pointer (some ⟨g, 0, none⟩)] w fun e w' => e = .returned (.int .i64 0) ∧ Ext no w w' := by
 have h1 := h.sl
 have hc := h.err
 have hb : (er == 0) = false := by rw [beq_eq_false_iff_ne]; exact h0
 clear h0
 go_enter Tryz.func34, Tryz.ntmps34
 go_upto_region 3 with fail
 go_loopw [3, 4, 5] (fun s3 s4 _ wr => s3 = .int .u64 0 ∧ s4 = .int .i64 0 ∧ wr = w) (fun _ _ _ _ => 0)
 case atStart => exact ⟨rfl, rfl, rfl⟩
 case round =>
  obtain ⟨rfl, rfl, rfl⟩ := hrel
  go_upto_region 4 with fail
  go_quiet (fail)
  go_wp2_with fail
  go_ret
  exact ⟨rfl, Ext.drewN no _ _⟩
set_option maxRecDepth 100000 in
set_option maxHeartbeats 1000000 in
theorem xint_ok (w : World) (g : Nat) {a : Option Addr} {c : Nat} {b l : List UInt8} (h : XRdr w g a c b l 0) :
  Calls Tryz.prog 34 #[.pointer (some ⟨g, 0, none⟩)] w fun e w' => ∃ r, Ext (just g) w w' ∧
   ((∃ u, scan 0 true l = (.inr u, r) ∧ e = .returned (.int .i64 (sgn u)) ∧ XRdr w' g a c b r 0) ∨ (∃ k : Nat, scan 0 true l = (.inl k, r) ∧ e = .returned (.int .i64 0) ∧ XRdr w' g a c b r k)) := by
 have hcap := h.cap
 have hcm := h.cm
 unfold maxLen at hcm
 go_enter Tryz.func34, Tryz.ntmps34
 go_upto_region 3 with fail
 go_loopg [3, 4, 5] l.length (fun k s3 s4 _ wr => ∃ (u : Nat) (i : Nat) (l' : List UInt8), k = l'.length ∧ s3 = .int .u64 u ∧ s4 = .int .i64 i ∧ i + l'.length ≤ b.length ∧ u < 18446744073709551616 ∧ scan 0 true l = scan u (i == 0) l' ∧ XRdr wr g a c b l' 0 ∧ Ext (just g) w wr)
 case atStart => 
  obtain ⟨p, hp, _, hl⟩ := h.pos
  exact ⟨0, 0, l, rfl, rfl, rfl, by rw [hl]; simp, by omega, rfl, h, Ext.refl _ _⟩
 case round =>
  clear h
  obtain ⟨u, i, l', rfl, rfl, rfl, hil, hu, hsc, hr, hx⟩ := hrel
  have h1 := hr.sl
  have hc := hr.err
  have hf1 := hr.fr 1
  have hf2 := hr.fr 2
  obtain ⟨p, hp, h2, hl⟩ := hr.pos
  have hll : l'.length = b.length - p := by rw [hl]; simp
  cases l' with
  | nil =>
   have hpb : decide (b.length ≤ p) = true := by rw [decide_eq_true_eq]; simp at hll; omega
   have Hl := Lib.hid hl
   have Hsc := Lib.hid hsc
   clear hl hll hsc hil
   go_upto_region 4 with fail
   go_quiet (fail)
   go_wp2_with fail
   go_ret
   exact ⟨[], (hx.comp (Ext.drewN _ _ _)).comp (Ext.setCell _ _ _ rfl), .inr ⟨8, Hsc.out, rfl, (hr.no (Ext.drewN no _ _)).setErr 8⟩⟩
  | cons x r =>
   have hpb : decide (b.length ≤ p) = false := by rw [decide_eq_false_iff_not]; simp at hll; omega
   have hp1 : p + 1 ≤ b.length := by simp at hll; omega
   have hc8 : x.toNat < 256 := x.toNat_lt
   have hxp : b[p]'(by omega) = x ∧ r = b.drop (p + 1) := by
    rw [List.drop_eq_getElem_cons (by omega)] at hl
    simp only [List.cons.injEq] at hl
    exact ⟨hl.1.symm, hl.2⟩
   obtain ⟨bb, off, rfl, _⟩ := hr.rd.shape (by simp; omega)
   have hcell := hr.rd.lookup p (by simp; omega)
   rw [show (bs b)[p]'(by simp; omega) = .int .u8 x.toNat from by simp [bs, B8, hxp.1]] at hcell
   have Hr9 := Lib.hid (show ∀ wq, Ext no wr wq → XRdr (wq.setCell ⟨g, 1, none⟩ (.int .i64 ((p + 1 : Nat) : Int))) g (some ⟨bb, off, none⟩) c b r 0 from fun wq hq => by
    have := (hr.no hq).setPos (p + 1) (by omega)
    rwa [← hxp.2] at this)
   have hne : bb ≠ g := hr.sep (by rintro rfl; simp at hp1) _ rfl
   clear hl hll hxp
   have Hsc := Lib.hid hsc
   have Hu := Lib.hid hu
   simp only [List.length_cons] at hil
   clear hsc hu
   go_upto_region 4 with fail
   go_quiet (fail)
   go_upto_region 8 with fail
   go_quiet (fail)
   go_upto_region 10 with fail
   generalize hw2 : World.setCell _ _ _ = w2
   have hr2 : XRdr w2 g (some ⟨bb, off, none⟩) c b r 0 := by rw [← hw2]; exact Hr9.out _ (Ext.drewN no _ _)
   have hx2 : Ext (just g) w w2 := by rw [← hw2]; exact hx.comp ((Ext.drewN (just g) _ _).comp (Ext.setCell _ _ _ rfl))
   have hc2 := hr2.err
   have hf22 := hr2.fr 2
   have hx3 : ∀ v, Ext (just g) w (w2.setCell ⟨g, 2, none⟩ v) := fun v => hx2.comp (Ext.setCell _ _ _ rfl)
   clear hw2 hr hx Hr9 h1 h2 hc hf1 hf2 hcell
   by_cases hbad : ((i == 0) = true ∧ x.toNat = 128) ∨ 144115188075855871 < u
   ·have hsc2 : scan 0 true l = (.inl 10, r) := by rw [Hsc.out, scan, if_pos hbad]
    have Hs2 := Lib.hid hsc2
    clear hsc2
    rcases hbad with ⟨hi0, h128⟩ | hbig
    ·have hi0' : ((i : Int) == 0) = true := by rw [beq_iff_eq] at hi0 ⊢; omega
     have hb1 : ((x.toNat : Int) == 128) = true := by rw [beq_iff_eq]; omega
     clear h128 hi0
     go_wp2_with fail
     go_ret
     exact ⟨r, hx3 _, .inr ⟨10, Hs2.out, rfl, hr2.setErr 10⟩⟩
    ·have hb2 : (!(u : Int) / 144115188075855872 == 0) = true := by rw [Bool.not_eq_true', beq_eq_false_iff_ne]; omega
     by_cases hi0 : i = 0
     ·have hi0' : ((i : Int) == 0) = true := by rw [beq_iff_eq]; omega
      by_cases h128 : x.toNat = 128
      ·have hb1 : ((x.toNat : Int) == 128) = true := by rw [beq_iff_eq]; omega
       clear h128 hi0
       go_wp2_with fail
       go_ret
       exact ⟨r, hx3 _, .inr ⟨10, Hs2.out, rfl, hr2.setErr 10⟩⟩
      ·have hb1 : ((x.toNat : Int) == 128) = false := by rw [beq_eq_false_iff_ne]; omega
       clear h128 hi0
       go_wp2_with fail
       go_ret
       exact ⟨r, hx3 _, .inr ⟨10, Hs2.out, rfl, hr2.setErr 10⟩⟩
     ·have hi0' : ((i : Int) == 0) = false := by rw [beq_eq_false_iff_ne]; omega
      clear hi0
      go_wp2_with fail
      go_ret
      exact ⟨r, hx3 _, .inr ⟨10, Hs2.out, rfl, hr2.setErr 10⟩⟩
   ·have hsc2 : scan u (i == 0) (x :: r) = if x.toNat < 128 then (.inr (u * 128 + x.toNat % 128), r) else scan (u * 128 + x.toNat % 128) false r := by rw [scan, if_neg hbad]
    have hb2 : (!(u : Int) / 144115188075855872 == 0) = false := by rw [Bool.not_eq_false', beq_iff_eq]; omega
    have hor := or7 ((u : Int) * 128) ((x.toNat : Int) % 128) (by omega) (by omega) (by omega) (by omega) (by omega)
    have hand := and127 (x.toNat : Int) (by omega) (by omega)
    have hand1 := and1 ((u : Int) * 128 + (x.toNat : Int) % 128) (by omega) (by omega)
    have hv : u * 128 + x.toNat % 128 < 18446744073709551616 := by omega
    have hcast : ((u : Int) * 128 + (x.toNat : Int) % 128) = ((u * 128 + x.toNat % 128 : Nat) : Int) := by omega
    have hule : (u : Int) ≤ 144115188075855871 := by omega
    have hcase : (((i : Int) == 0) = true ∧ ((x.toNat : Int) == 128) = false) ∨ ((i : Int) == 0) = false := by
     by_cases hi0 : i = 0
     ·refine .inl ⟨by rw [beq_iff_eq]; omega, ?_⟩
      rw [beq_eq_false_iff_ne]
      intro h
      exact hbad (.inl ⟨by rw [beq_iff_eq]; exact hi0, by omega⟩)
     ·exact .inr (by rw [beq_eq_false_iff_ne]; omega)
    have Hv := Lib.hid hv
    have Hcast := Lib.hid hcast
    have Hsc2 := Lib.hid hsc2
    clear hbad hv hcast hsc2
    by_cases hc : x.toNat < 128
    ·have hsc3 : scan 0 true l = (.inr (u * 128 + x.toNat % 128), r) := by rw [Hsc.out, Hsc2.out, if_pos hc]
     have Hsc3 := Lib.hid hsc3
     clear hsc3
     rcases hcase with ⟨hi0, hb1⟩ | hi0
     all_goals
      go_wp2_with fail
      all_goals
       go_ret
       refine ⟨r, hx2, .inl ⟨_, Hsc3.out, ?_, hr2⟩⟩
       first
        | (rw [sgn_odd _ _ Hcast.out (by assumption)]; rfl)
        | (rw [sgn_even _ _ Hcast.out (by assumption)]; rfl)
        | (rw [sgn_odd' _ _ Hcast.out (by assumption)]; rfl)
    ·have hsc3 : scan 0 true l = scan (u * 128 + x.toNat % 128) false r := by rw [Hsc.out, Hsc2.out, if_neg hc]
     have Hsc3 := Lib.hid hsc3
     clear hsc3
     rcases hcase with ⟨hi0, hb1⟩ | hi0
     all_goals
      go_wp2_with fail
      go_roundg r.length
      case measure => simp
      case rel => exact ⟨_, i + 1, r, rfl, by rw [← Hcast.out], by go_num, by omega, Hv.out, Hsc3.out, hr2, hx2⟩
end Go.Proofs.YtddobhihjljcgaaGreat
/- Walks of the document's reader: Int, length, Text, Ints. -/
namespace Go.Proofs.YtddobhihjljcgaaGreat
open Go.RowKit Go.Esc
set_option linter.unusedVariables false
theorem xint_any (w : World) (g : Nat) {a : Option Addr} {c : Nat} {b : List UInt8} (s : RS) (h : XRdr w g a c b s.l s.e) :
  Calls Tryz.prog 34 #[.pointer (some ⟨g, 0, none⟩)] w fun e w' => e = .returned (.int .i64 (rInt s).1) ∧ XRdr w' g a c b (rInt s).2.l (rInt s).2.e ∧ Ext (just g) w w' := by
 by_cases h0 : s.e = 0
 ·rw [h0] at h
  refine (xint_ok w g h).mono ?_
  rintro e w' ⟨r, hx, ⟨u, hsc, rfl, hr⟩ | ⟨k, hsc, rfl, hr⟩⟩
  ·rw [rInt_ok h0 hsc]; exact ⟨rfl, hr, hx⟩
  ·rw [rInt_err h0 hsc]; exact ⟨rfl, hr, hx⟩
 ·refine (xint_skip w g h h0).mono ?_
  rintro e w' ⟨rfl, hx⟩
  rw [rInt_skip h0]
  exact ⟨rfl, h.no hx, hx.mono (fun _ _ h => h.elim)⟩
/-- What length leaves. -/
def XLen (w : World) (g : Nat) (a : Option Addr) (c : Nat) (b : List UInt8) (l : List UInt8) (e : Ending) (w' : World) : Prop :=
 ∃ r, Ext (just g) w w' ∧ ((∃ n : Nat, n ≤ 65535 ∧ rLen l = (.inr n, r) ∧ e = .returned (.int .i64 n) ∧ XRdr w' g a c b r 0) ∨ (∃ k : Nat, k ≠ 0 ∧ rLen l = (.inl k, r) ∧ e = .returned (.int .i64 0) ∧ XRdr w' g a c b r k))
set_option maxHeartbeats 1000000 in
theorem xlen_ok (w : World) (g : Nat) {a : Option Addr} {c : Nat} {b l : List UInt8} (h : XRdr w g a c b l 0) :
  Calls Tryz.prog 101 #[.pointer (some ⟨g, 0, none⟩)] w (XLen w g a c b l) := by
 go_enter Tryz.func101, Tryz.ntmps101
 go_wp2_with fail
 refine (xint_ok w g h).mono ?_
 rintro e w' ⟨r, hx, ⟨u, hsc, rfl, hr⟩ | ⟨k, hsc, rfl, hr⟩⟩
 ·have hc := hr.err
  have hf := hr.fr 2
  have Hsc := Lib.hid hsc
  clear hsc h
  have hx3 : ∀ v, Ext (just g) w (w'.setCell ⟨g, 2, none⟩ v) := fun v => hx.comp (Ext.setCell _ _ _ rfl)
  by_cases hn : sgn u < 0
  ·have hb1 : decide (sgn u < 0) = true := decide_eq_true hn
   have Hb := Lib.hid (rLen_many_of Hsc.out (by omega))
   clear hn
   go_wp2_with fail
   go_ret
   exact ⟨r, hx3 _, .inr ⟨4, by decide, Hb.out, rfl, hr.setErr 4⟩⟩
  ·have hb1 : decide (sgn u < 0) = false := decide_eq_false hn
   by_cases hm : 65535 < sgn u
   ·have hb2 : decide (65535 < sgn u) = true := decide_eq_true hm
    have Hb := Lib.hid (rLen_many_of Hsc.out (by omega))
    clear hn hm
    go_wp2_with fail
    go_ret
    exact ⟨r, hx3 _, .inr ⟨4, by decide, Hb.out, rfl, hr.setErr 4⟩⟩
   ·have hb2 : decide (65535 < sgn u) = false := decide_eq_false hm
    have Hb := Lib.hid (rLen_ok_of Hsc.out (by omega) (by omega))
    obtain ⟨n, hn2, hn3⟩ : ∃ n : Nat, sgn u = n ∧ n ≤ 65535 := ⟨(sgn u).toNat, by omega, by omega⟩
    have Hn := Lib.hid hn2
    clear hn hm
    rw [hn2] at hb1 hb2 ⊢
    clear hn2
    go_wp2_with fail
    go_ret
    have := Hb.out
    rw [Hn.out] at this
    exact ⟨r, hx, .inl ⟨n, hn3, this, rfl, hr⟩⟩
 ·have hc := hr.err
  have hk0 : ((k : Int) == 0) = false := by
   rw [beq_eq_false_iff_ne]
   rcases scan_err l 0 true k r hsc with rfl | rfl <;> decide
  have hk : k ≠ 0 := by rintro rfl; simp at hk0
  have Hb := Lib.hid (rLen_err_of hsc)
  clear hsc h
  go_wp2_with fail
  go_ret
  exact ⟨r, hx, .inr ⟨k, hk, Hb.out, rfl, hr⟩⟩
set_option maxHeartbeats 1000000 in
theorem xlen_skip (w : World) (g : Nat) {a : Option Addr} {c : Nat} {b l : List UInt8} {er : Int} (h : XRdr w g a c b l er) (h0 : er ≠ 0) :
  Calls Tryz.prog 101 #[.pointer (some ⟨g, 0, none⟩)] w fun e w' => e = .returned (.int .i64 0) ∧ Ext no w w' := by
 have hb : (er == 0) = false := by rw [beq_eq_false_iff_ne]; exact h0
 have H0 := Lib.hid h0
 clear h0
 go_enter Tryz.func101, Tryz.ntmps101
 go_wp2_with fail
 refine (xint_skip w g h H0.out).mono ?_
 rintro e w' ⟨rfl, hx⟩
 have hr := h.no hx
 have hc := hr.err
 go_wp2_with fail
 go_ret
 exact ⟨rfl, hx⟩
end Go.Proofs.YtddobhihjljcgaaGreat
/- Walks of the document's reader: Text, Ints. -/
namespace Go.Proofs.YtddobhihjljcgaaGreat
open Go.RowKit Go.Esc
set_option linter.unusedVariables false
set_option maxHeartbeats 1000000 in
theorem xtext_skip (w : World) (g : Nat) {a : Option Addr} {c : Nat} {b l : List UInt8} {er : Int} (h : XRdr w g a c b l er) (h0 : er ≠ 0) :
  Calls Tryz.prog 85 #[.pointer (some ⟨g, 0, none⟩)] w fun e w' => e = .returned (.string (str [])) ∧ Ext no w w' := by
 have hb : (er == 0) = false := by rw [beq_eq_false_iff_ne]; exact h0
 have H0 := Lib.hid h0
 clear h0
 go_enter Tryz.func85, Tryz.ntmps85
 go_wp2_with fail
 refine (xlen_skip w g h H0.out).mono ?_
 rintro e w' ⟨rfl, hx⟩
 have hr := h.no hx
 have hc := hr.err
 go_upto_region 2 with fail
 go_quiet (fail)
 go_wp2_with fail
 go_ret
 exact ⟨rfl, hx.comp (Ext.drewN no _ _)⟩
set_option maxHeartbeats 1000000 in
theorem xtext_ok (w : World) (g : Nat) {a : Option Addr} {c : Nat} {b : List UInt8} (s : RS) (h0 : s.e = 0) (h : XRdr w g a c b s.l 0) :
  Calls Tryz.prog 85 #[.pointer (some ⟨g, 0, none⟩)] w fun e w' => e = .returned (.string (str (rText s).1)) ∧ XRdr w' g a c b (rText s).2.l (rText s).2.e ∧ Ext (just g) w w' := by
 have H0 := Lib.hid h0
 clear h0
 go_enter Tryz.func85, Tryz.ntmps85
 go_wp2_with fail
 refine (xlen_ok w g h).mono ?_
 rintro e w' ⟨r, hx, ⟨n, hn, hlen, rfl, hr⟩ | ⟨k, hk, hlen, rfl, hr⟩⟩
 ·have h1 := hr.sl
  have hc := hr.err
  have hf1 := hr.fr 1
  have hf2 := hr.fr 2
  obtain ⟨p, hp, h2, hl⟩ := hr.pos
  have hll : r.length = b.length - p := by rw [hl]; simp
  have hcap := hr.cap
  have hcm := hr.cm
  unfold maxLen at hcm
  have Hlen := Lib.hid hlen
  have Hl := Lib.hid hl
  clear hlen hl
  by_cases hnr : n ≤ r.length
  ·have Hres := Lib.hid (rText_ok H0.out Hlen.out hnr)
   have hb1 : decide ((b.length : Int) - p < n) = false := by rw [decide_eq_false_iff_not]; omega
   have Hll := Lib.hid hll
   have hpn : p + n ≤ b.length := by omega
   clear hll hnr
   go_upto_region 2 with fail
   go_quiet (fail)
   go_upto_region 7 with fail
   generalize hw2 : World.setCell _ _ _ = w2
   have hrd : r.drop n = b.drop (p + n) := by rw [Hl.out, List.drop_drop]
   have hr2 : XRdr w2 g a c b (r.drop n) 0 := by
    rw [← hw2, hrd]
    exact (hr.no (Ext.drewN no _ _)).setPos (p + n) hpn
   have hx2 : Ext (just g) w w2 := by rw [← hw2]; exact hx.comp ((Ext.drewN (just g) _ _).comp (Ext.setCell _ _ _ rfl))
   have hp2 : w2.cell? ⟨g, 1, none⟩ = some (.int .i64 ((p : Int) + n)) := by
    rw [← hw2]; exact World.cell?_setCell_same _ _ _ h2
   have htk : (r.take n).length = p + n - p := by rw [List.length_take, Hll.out]; omega
   have hrt : Rd w2 (cutAt a c p 1) (bs (r.take n)) := by
    have := (hr2.rd.cutAt c p 1 (fun e => by rw [bs_length]; omega)).take n
    rwa [Nat.mul_one, bs_drop, ← Hl.out, bs_take] at this
   have hs2 := hr2.sl
   have hS0 : (fun x : World => x.cell? ⟨g, 0, none⟩ = some (.slice a b.length c) ∧ x.cell? ⟨g, 1, none⟩ = some (.int .i64 ((p : Int) + n)) ∧ Rd x (cutAt a c p 1) (bs (r.take n))) w2.drew := ⟨hs2, hp2, hrt.drew⟩
   have Htk := Lib.hid htk
   clear hw2 hr hx htk h1 h2 hc hf1 hf2 h hb1 hrd
   --<A
   refine wp_region_E [3, 7, 13, 15] (fun x => x.cell? ⟨g, 0, none⟩ = some (.slice a b.length c) ∧ x.cell? ⟨g, 1, none⟩ = some (.int .i64 ((p : Int) + n)) ∧ Rd x (cutAt a c p 1) (bs (r.take n))) (by kernel_rfl) ?_
   refine wpE_take 0 (v := ?_) rfl (by kernel_rfl) (by kernel_rfl) (by kernel_rfl) (fun _ _ _ h => h) hS0 (by rfl) ?_ ?_
   rotate_left
   ·(intro wq; go_simp; try with_reducible rfl)
   simp only [pz]
   refine wpE_take 1 (v := ?_) rfl (by kernel_rfl) (by kernel_rfl) (by kernel_rfl) (fun _ _ _ h => h) hS0 (by rfl) ?_ ?_
   rotate_left
   ·(intro wq; go_simp; try with_reducible rfl)
   simp only [pz]
   refine wpE_take 2 (v := ?_) rfl (by kernel_rfl) (by kernel_rfl) (by kernel_rfl) (fun _ _ _ h => h) hS0 (by rfl) ?_ ?_
   rotate_left
   ·(intro wq; go_simp; try with_reducible rfl)
   simp only [pz]
   refine wpE_look 3 (v := .slice a b.length c) rfl rfl (by kernel_rfl) (by kernel_rfl) (by kernel_rfl) (by kernel_rfl) (fun _ _ _ h => h) hS0 (by rfl) (fun w hS => by have hc := hS.1; go_simp) ?_
   simp only [pz]
   refine wpE_take 4 (v := ?_) rfl (by kernel_rfl) (by kernel_rfl) (by kernel_rfl) (fun _ _ _ h => h) hS0 (by rfl) ?_ ?_
   rotate_left
   ·(intro wq; go_simp; try with_reducible rfl)
   simp only [pz]
   refine wpE_take 5 (v := ?_) rfl (by kernel_rfl) (by kernel_rfl) (by kernel_rfl) (fun _ _ _ h => h) hS0 (by rfl) ?_ ?_
   rotate_left
   ·(intro wq; go_simp; try with_reducible rfl)
   simp only [pz]
   refine wpE_take 6 (v := ?_) rfl (by kernel_rfl) (by kernel_rfl) (by kernel_rfl) (fun _ _ _ h => h) hS0 (by rfl) ?_ ?_
   rotate_left
   ·(intro wq; go_simp; try with_reducible rfl)
   simp only [pz]
   refine wpE_look 7 (v := .int .i64 ((p : Int) + n)) rfl rfl (by kernel_rfl) (by kernel_rfl) (by kernel_rfl) (by kernel_rfl) (fun _ _ _ h => h) hS0 (by rfl) (fun w hS => by have hc := hS.2.1; go_simp) ?_
   simp only [pz]
   refine wpE_take 8 (v := ?_) rfl (by kernel_rfl) (by kernel_rfl) (by kernel_rfl) (fun _ _ _ h => h) hS0 (by rfl) ?_ ?_
   rotate_left
   ·(intro wq; go_simp; try with_reducible rfl)
   simp only [pz]
   refine wpE_take 9 (v := .int .i64 p) rfl (by kernel_rfl) (by kernel_rfl) (by kernel_rfl) (fun _ _ _ h => h) hS0 (by rfl) (by intro wq; go_simp; rw [IntKind.wrap_i64]; omega) ?_
   simp only [pz]
   refine wpE_take 10 (v := ?_) rfl (by kernel_rfl) (by kernel_rfl) (by kernel_rfl) (fun _ _ _ h => h) hS0 (by rfl) ?_ ?_
   rotate_left
   ·(intro wq; go_simp; try with_reducible rfl)
   simp only [pz]
   refine wpE_take 11 (v := ?_) rfl (by kernel_rfl) (by kernel_rfl) (by kernel_rfl) (fun _ _ _ h => h) hS0 (by rfl) ?_ ?_
   rotate_left
   ·(intro wq; go_simp; try with_reducible rfl)
   simp only [pz]
   refine wpE_take 12 (v := ?_) rfl (by kernel_rfl) (by kernel_rfl) (by kernel_rfl) (fun _ _ _ h => h) hS0 (by rfl) ?_ ?_
   rotate_left
   ·(intro wq; go_simp; try with_reducible rfl)
   simp only [pz]
   refine wpE_look 13 (v := .int .i64 ((p : Int) + n)) rfl rfl (by kernel_rfl) (by kernel_rfl) (by kernel_rfl) (by kernel_rfl) (fun _ _ _ h => h) hS0 (by rfl) (fun w hS => by have hc := hS.2.1; go_simp) ?_
   simp only [pz]
   refine wpE_take 14 (v := .slice (cutAt a c p 1) (p + n - p) (c - p)) rfl (by kernel_rfl) (by kernel_rfl) (by kernel_rfl) (fun _ _ _ h => h) hS0 (by rfl) (fun _ => yields_cut_lh TBytes rfl rfl rfl rfl p (p + n) rfl (by omega) (by omega) (by omega)) ?_
   simp only [pz]
   refine wpE_look 15 rfl rfl (by kernel_rfl) (by kernel_rfl) (by kernel_rfl) (by kernel_rfl) (fun _ _ _ h => h) hS0 (by rfl) (fun w hS => yields_string (by exact Tryz.underlying37) (by exact Tryz.underlying5) (by exact Tryz.underlying9) rfl rfl (Htk.out.symm) (hS.2.2)) ?_
   simp only [pz]
   refine wpE_take 16 (v := ?_) rfl (by kernel_rfl) (by kernel_rfl) (by kernel_rfl) (fun _ _ _ h => h) hS0 (by rfl) ?_ ?_
   rotate_left
   ·(intro wq; go_simp; try with_reducible rfl)
   simp only [pz]
   refine wpE_done (by kernel_rfl) ?_ _
   go_wp2_with fail
   go_ret
   rw [Hres.out]
   exact ⟨rfl, hr2.no (Ext.drew no _), hx2.comp (Ext.drew _ _)⟩
   -->A
  ·have hb1 : decide ((b.length : Int) - p < n) = true := by rw [decide_eq_true_eq]; omega
   have Hres := Lib.hid (rText_cut H0.out Hlen.out (by omega))
   clear hnr hll
   go_upto_region 2 with fail
   go_quiet (fail)
   go_wp2_with fail
   go_ret
   rw [Hres.out]
   exact ⟨rfl, (hr.no (Ext.drewN no _ _)).setErr 8, hx.comp ((Ext.drewN (just g) _ _).comp (Ext.setCell _ _ _ rfl))⟩
 ·have hc := hr.err
  have hb : ((k : Int) == 0) = false := by rw [beq_eq_false_iff_ne]; omega
  have Hres := Lib.hid (rText_err H0.out hlen)
  clear hk hlen
  go_upto_region 2 with fail
  go_quiet (fail)
  go_wp2_with fail
  go_ret
  rw [Hres.out]
  exact ⟨rfl, hr.no (Ext.drewN no _ _), hx.comp (Ext.drewN (just g) _ _)⟩
end Go.Proofs.YtddobhihjljcgaaGreat
/- Walks of the document's reader: Ints. -/
namespace Go.Proofs.YtddobhihjljcgaaGreat
open Go.RowKit Go.Esc
set_option linter.unusedVariables false
theorem xtext_any (w : World) (g : Nat) {a : Option Addr} {c : Nat} {b : List UInt8} (s : RS) (h : XRdr w g a c b s.l s.e) :
  Calls Tryz.prog 85 #[.pointer (some ⟨g, 0, none⟩)] w fun e w' => e = .returned (.string (str (rText s).1)) ∧ XRdr w' g a c b (rText s).2.l (rText s).2.e ∧ Ext (just g) w w' := by
 by_cases h0 : s.e = 0
 ·rw [h0] at h
  exact xtext_ok w g s h0 h
 ·refine (xtext_skip w g h h0).mono ?_
  rintro e w' ⟨rfl, hx⟩
  rw [rText_skip h0]
  exact ⟨rfl, h.no hx, hx.mono (fun _ _ h => h.elim)⟩
end Go.Proofs.YtddobhihjljcgaaGreat
/- Walks: Ints of the reader of escrowref1. -/
namespace Go.Proofs.YtddobhihjljcgaaGreat
open Go.RowKit Go.Esc
set_option linter.unusedVariables false
def XIntsEnd (s : RS) (w : World) (g : Nat) (a : Option Addr) (c : Nat) (b : List UInt8) (e : Ending) (w' : World) : Prop :=
 ∃ a' c', e = .returned (.slice a' (rInts s).1.length c') ∧ Own w' w.heap.size a' 1 (rInts s).1.length c' (is (rInts s).1) ∧ XRdr w' g a c b (rInts s).2.l (rInts s).2.e ∧ Ext (just g) w w'
set_option maxHeartbeats 1000000 in
theorem xints_skip (w : World) (g : Nat) {a : Option Addr} {c : Nat} {b l : List UInt8} {er : Int} (h : XRdr w g a c b l er) (h0 : er ≠ 0) :
  Calls Tryz.prog 86 #[.pointer (some ⟨g, 0, none⟩)] w fun e w' => e = .returned (.slice none 0 0) ∧ Ext no w w' := by
 have hb : (er == 0) = false := by rw [beq_eq_false_iff_ne]; exact h0
 have H0 := Lib.hid h0
 clear h0
 go_enter Tryz.func86, Tryz.ntmps86
 go_wp2_with fail
 refine (xlen_skip w g h H0.out).mono ?_
 rintro e w' ⟨rfl, hx⟩
 have hr := h.no hx
 have hc := hr.err
 go_wp2_with fail
 go_loopw [4, 5] (fun _ s5 wr => s5 = .int .i64 0 ∧ wr = w') (fun _ _ _ => 0)
 case atStart => exact ⟨rfl, rfl⟩
 case round =>
  obtain ⟨rfl, rfl⟩ := hrel
  go_wp2_with fail
  go_ret
  exact ⟨rfl, hx⟩
set_option maxHeartbeats 2000000 in
theorem xints_ok (w : World) (g : Nat) {a : Option Addr} {c : Nat} {b : List UInt8} (s : RS) (h0 : s.e = 0) (h : XRdr w g a c b s.l 0) :
  Calls Tryz.prog 86 #[.pointer (some ⟨g, 0, none⟩)] w (XIntsEnd s w g a c b) := by
 have H0 := Lib.hid h0
 have hg := h.lt
 have ha := h.rd.low
 clear h0
 go_enter Tryz.func86, Tryz.ntmps86
 go_wp2_with fail
 refine (xlen_ok w g h).mono ?_
 rintro e w' ⟨r, hx, ⟨n, hn, hlen, rfl, hr⟩ | ⟨q, hq, hlen, rfl, hr⟩⟩
 ·have Hlen := Lib.hid hlen
  have hsz := hx.size
  clear hlen h
  go_wp2_with fail
  go_loopw [4, 5] (fun s4 s5 wr => ∃ (k : Nat) (acc : List Int) (l' : List UInt8) (a' : Option Addr) (c' : Nat) (q : Nat), k ≤ n ∧ s5 = .int .i64 k ∧ s4 = .slice a' k c' ∧ acc.length = k ∧ XRdr wr g a c b l' q ∧ Own wr w.heap.size a' 1 k c' (is acc) ∧ Ext (just g) w wr ∧ w.heap.size ≤ wr.heap.size ∧
   (if q = 0 then rNums n [] r = rNums (n - k) acc l' else rNums n [] r = (.inl q, l'))) (fun _ s5 _ => n - (intOf s5).toNat)
  case atStart => exact ⟨0, [], r, none, 0, 0, Nat.zero_le _, rfl, rfl, rfl, hr, Own.nil _ _ _, hx, hsz, by rw [if_pos rfl, Nat.sub_zero]⟩
  case round =>
   clear hr hx hsz
   obtain ⟨k, acc, l', a', c', q, hk, rfl, rfl, hacc, hr, hown, hx, hsz, hrel⟩ := hrel
   have hc := hr.err
   by_cases hq : q = 0
   ·subst hq
    rw [if_pos rfl] at hrel
    by_cases hlt : k < n
    ·have Hrel := Lib.hid hrel
     have Hacc := Lib.hid hacc
     clear hrel hacc
     go_wp2_with fail
     refine (xint_ok wr g hr).mono ?_
     rintro e w1 ⟨r', hx1, hcase⟩
     have hown1 := hown.ext hx1 (fun ad hh h => by have := (hown.base ad hh).1; simp only [Esc.just] at h; omega)
     have hs1 := hx1.size
     obtain ⟨v, q', rfl, hr1, hrel'⟩ : ∃ (v : Int) (q' : Nat), e = .returned (.int .i64 v) ∧ XRdr w1 g a c b r' q' ∧ (if q' = 0 then rNums n [] r = rNums (n - (k + 1)) (acc ++ [v]) r' else rNums n [] r = (.inl q', r')) := by
      rcases hcase with ⟨u, hsc, rfl, hr1⟩ | ⟨q', hsc, rfl, hr1⟩
      ·exact ⟨sgn u, 0, rfl, hr1, by rw [if_pos rfl, Hrel.out, rNums_step hlt hsc]⟩
      ·have hq0 : q' ≠ 0 := by rcases scan_err l' 0 true q' r' hsc with rfl | rfl <;> decide
       exact ⟨0, q', rfl, hr1, by rw [if_neg hq0, Hrel.out, rNums_stop hlt hsc]⟩
     have Hrel' := Lib.hid hrel'
     have hx01 := hx.comp hx1
     have hrd := Rd.one w1 (.int .i64 v) 3 (0, 0)
     clear hcase hrel' hr hx hx1 hown hc
     go_wp2_with (at_builtin; refine wpList_append TInts rfl rfl rfl (hown1.alloc _) rfl hrd (by simp) (by intro v hv; simp at hv; subst hv; rfl) (by unfold maxLen; omega) (by omega) (by simp; omega) ?_)
     intro a2 c2 w2 happ
     have hxa : Ext (blk a') w1 w2 := (Ext.alloc _ _ _).comp happ.ext
     have hnb : ∀ i, i < w.heap.size → ¬ blk a' i := fun i hi => hown1.notBlk hi
     have hr2 := hr1.ext hxa (hnb _ hg) (fun hb ad hh => hnb _ (ha hb ad hh))
     have hx02 := hx01.trans hxa (fun i hi h => (hnb i hi h).elim)
     have hown2 := happ.own
     have hs2 := hxa.size
     rw [show is acc ++ [Value.int .i64 v] = is (acc ++ [v]) from by simp [is, I64]] at hown2
     clear happ hxa hown1 hrd hr1 hx01
     go_wp2_with fail
     go_roundw
     case rel => exact ⟨k + 1, acc ++ [v], r', a2, c2, q', by omega, by go_num, by go_num, by simp [Hacc.out], hr2, hown2, hx02, by omega, Hrel'.out⟩
     case measure => simp [intOf]; omega
    ·obtain rfl : k = n := by omega
     rw [Nat.sub_self] at hrel
     have Hres := Lib.hid (rInts_ok H0.out Hlen.out (show rNums k [] r = (.inr acc, l') from hrel))
     have Hacc := Lib.hid hacc
     clear hrel hacc
     go_wp2_with fail
     go_ret
     exact ⟨a', c', by rw [Hres.out]; show _ = Ending.returned (.slice a' acc.length c'); rw [Hacc.out]; rfl, by rw [Hres.out]; show Own _ _ _ 1 acc.length _ _; rw [Hacc.out]; exact hown, by rw [Hres.out]; exact hr, hx⟩
   ·rw [if_neg hq] at hrel
    have hb : ((q : Int) == 0) = false := by rw [beq_eq_false_iff_ne]; omega
    have Hres := Lib.hid (rInts_bad H0.out Hlen.out hrel)
    clear hrel hq
    by_cases hlt : k < n
    ·go_wp2_with fail
     go_ret
     exact ⟨none, 0, by rw [Hres.out]; rfl, by rw [Hres.out]; exact Own.nil _ _ _, by rw [Hres.out]; exact hr, hx⟩
    ·go_wp2_with fail
     go_ret
     exact ⟨none, 0, by rw [Hres.out]; rfl, by rw [Hres.out]; exact Own.nil _ _ _, by rw [Hres.out]; exact hr, hx⟩
 ·have hc := hr.err
  have hb : ((q : Int) == 0) = false := by rw [beq_eq_false_iff_ne]; omega
  have Hres := Lib.hid (rInts_err H0.out hlen)
  clear hq hlen h
  go_wp2_with fail
  go_loopw [4, 5] (fun _ s5 wr => s5 = .int .i64 0 ∧ wr = w') (fun _ _ _ => 0)
  case atStart => exact ⟨rfl, rfl⟩
  case round =>
   obtain ⟨rfl, rfl⟩ := hrel
   go_wp2_with fail
   go_ret
   exact ⟨none, 0, by rw [Hres.out]; rfl, by rw [Hres.out]; exact Own.nil _ _ _, by rw [Hres.out]; exact hr, hx⟩
theorem xints_any (w : World) (g : Nat) {a : Option Addr} {c : Nat} {b : List UInt8} (s : RS) (h : XRdr w g a c b s.l s.e) :
  Calls Tryz.prog 86 #[.pointer (some ⟨g, 0, none⟩)] w (XIntsEnd s w g a c b) := by
 by_cases h0 : s.e = 0
 ·rw [h0] at h
  exact xints_ok w g s h0 h
 ·refine (xints_skip w g h h0).mono ?_
  rintro e w' ⟨rfl, hx⟩
  refine ⟨none, 0, ?_, ?_, ?_, hx.mono (fun _ _ h => h.elim)⟩
  ·rw [rInts_skip h0]; rfl
  ·rw [rInts_skip h0]; exact Own.nil _ _ _
  ·rw [rInts_skip h0]; exact h.no hx
end Go.Proofs.YtddobhihjljcgaaGreat
