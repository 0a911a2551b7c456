/- The texts CodeA CodeB CodeC CodeD Str in one. -/
import Derived.Test.YtpljcnjkdjblmaaRows
import Derived.Test.YtpljcnjkdjblmaaKA
import Derived.Lib.Strings
/- Walks of the package code: row, turned, Int, Text, Ints. -/
namespace Go.Proofs.Ytpljcnjkdjblmaa
open Go.RowKit Go.Esc

theorem TInts : SlT Try.prog 46 3 (.int .i64 0) 1 8 := ⟨Try.underlying46, by kernel_rfl, rfl, by decide⟩

/-- What the list reads after k swaps of a reversal. -/
def Swapped (xs ys : List Value) (k : Nat) : Prop := ys.length = xs.length ∧ ∀ t, t < xs.length → ys[t]? = if t < k ∨ xs.length ≤ t + k then xs[xs.length - 1 - t]? else xs[t]?

theorem Swapped.start (xs : List Value) : Swapped xs xs 0 := ⟨rfl, fun t ht => by rw [if_neg (by omega)]⟩
theorem Swapped.step {xs ys : List Value} {k : Nat} (h : Swapped xs ys k) (hk : k + k + 1 < xs.length) (u v : Value) (hu : ys[k]? = some u) (hv : ys[xs.length - 1 - k]? = some v) :
    Swapped xs ((ys.set k v).set (xs.length - 1 - k) u) (k + 1) := by
  obtain ⟨h1, h2⟩ := h
  refine ⟨by simp [h1], fun t ht => ?_⟩
  have a := h2 k (by omega)
  have b := h2 (xs.length - 1 - k) (by omega)
  rw [if_neg (by omega)] at a
  rw [if_neg (by omega)] at b
  by_cases e1 : t = xs.length - 1 - k
  · subst e1
    rw [List.getElem?_set_self (by simp [h1]; omega), if_pos (by omega), ← hu, a]
    congr 1; omega
  · rw [List.getElem?_set_ne (Ne.symm e1)]
    by_cases e2 : t = k
    · subst e2
      rw [List.getElem?_set_self (by omega), if_pos (by omega), ← hv, b]
    · rw [List.getElem?_set_ne (Ne.symm e2), h2 t ht]
      by_cases c : t < k ∨ xs.length ≤ t + k
      · rw [if_pos c, if_pos (by omega)]
      · rw [if_neg c, if_neg (by omega)]
theorem Swapped.stop {xs ys : List Value} {k : Nat} (h : Swapped xs ys k) (hk : xs.length ≤ k + k + 1) : ys = xs.reverse := by
  apply List.ext_getElem?
  intro t
  by_cases ht : t < xs.length
  · rw [h.2 t ht, List.getElem?_reverse ht]
    by_cases c : t < k ∨ xs.length ≤ t + k
    · rw [if_pos c]
    · rw [if_neg c]; congr 1; omega
  · rw [List.getElem?_eq_none (by have := h.1; omega), List.getElem?_eq_none (by simp; omega)]

set_option maxHeartbeats 400000 in
theorem reverse_any (w : World) {B n c : Nat} {a : Option Addr} {xs : List Value} (ho : Own w B a 1 n c xs) (hone : ∀ u ∈ xs, ∃ q, u = .int .u8 q) :
    Calls Try.prog 80 #[.slice a n c] w fun e w' => e = .returned (.tuple #[]) ∧ Own w' B a 1 n c xs.reverse ∧ Ext (blk a) w w' := by
  have hn : n ≤ 9223372036854775807 := by have := ho.nc; have := ho.cm; unfold maxLen at this; omega
  have hlen : xs.length = n := by have := ho.len; omega
  go_enter Try.func80, Try.ntmps80
  go_wp2_with fail
  go_loopw [2, 3] (fun i j wr => ∃ (k : Nat) (ys : List Value), k ≤ n ∧ i = .int .i64 k ∧ j = .int .i64 ((n : Int) - 1 - k) ∧ Own wr B a 1 n c ys ∧ Swapped xs ys k ∧ (∀ u ∈ ys, ∃ q, u = .int .u8 q) ∧ Ext (blk a) w wr)
    (fun i _ _ => (n : Nat) - (intOf i).toNat)
  case atStart => exact ⟨0, xs, Nat.zero_le _, rfl, by go_num, ho, Swapped.start xs, hone, Ext.refl _ _⟩
  case round =>
    obtain ⟨k, ys, hk, rfl, rfl, hown, hsw, hint, hext⟩ := hrel
    by_cases hlt : k + k + 1 < n
    · have hyl : ys.length = n := by rw [hsw.1, hlen]
      obtain ⟨ad, rfl, _⟩ := hown.rd.ne (by omega)
      obtain ⟨_, _, hsp⟩ := hown.base ad rfl
      obtain ⟨b, off, sp⟩ := ad
      simp only at hsp
      subst hsp
      obtain ⟨q1, hq1⟩ := hint ys[k] (by simp)
      obtain ⟨q2, hq2⟩ := hint ys[n - 1 - k] (by simp)
      have c1 := hown.rd.cell k (by omega)
      have c2 := hown.rd.cell (n - 1 - k) (by omega)
      rw [hq1, Addr.add_lit] at c1
      rw [hq2, Addr.add_lit] at c2
      have f1 : wr.frozen? ⟨b, off + k, none⟩ = false := by
        obtain ⟨_, e, _, f⟩ := hown.can k (by have := hown.nc; omega)
        cases e; rwa [Addr.add_lit] at f
      have f2 : wr.frozen? ⟨b, off + (n - 1 - k), none⟩ = false := by
        obtain ⟨_, e, _, f⟩ := hown.can (n - 1 - k) (by have := hown.nc; omega)
        cases e; rwa [Addr.add_lit] at f
      have i1 : (k : Int) < n := by omega
      have i2 : (0 : Int) ≤ (n : Int) - 1 - k := by omega
      have i3 : (n : Int) - 1 - k < n := by omega
      have i4 : ((n : Int) - 1 - k).toNat = n - 1 - k := by omega
      have Hsw := Lib.hid hsw
      clear hsw
      go_wp2_with fail
      go_region
      go_wp2_with fail
      go_roundw
      case rel =>
        have hown2 := (hown.set k (by omega) (.int .u8 q2)).set (n - 1 - k) (by omega) (.int .u8 q1)
        rw [Addr.add_lit, Addr.add_lit] at hown2
        refine ⟨k + 1, _, by omega, by go_num, by go_num, ?_, Hsw.out.step (by omega) (.int .u8 q1) (.int .u8 q2) ?_ ?_, ?_, ?_⟩
        · rw [hlen]; exact hown2.drew
        · rw [← hq1]; simp
        · rw [hlen, ← hq2]; simp
        · intro u hu
          rcases List.mem_or_eq_of_mem_set hu with h | h
          · rcases List.mem_or_eq_of_mem_set h with h | h
            · exact hint u h
            · exact ⟨_, h⟩
          · exact ⟨_, h⟩
        · exact hext.comp ((((Ext.drew _ _).comp (Ext.setCell _ _ _ ⟨_, rfl, rfl⟩))).comp (Ext.setCell _ _ _ ⟨_, rfl, rfl⟩))
      case measure => simp [intOf]; omega
    · go_wp2_with fail
      go_end0
      refine ⟨rfl, ?_, hext⟩
      rw [← hsw.stop (by omega)]
      exact hown

set_option maxHeartbeats 400000 in
theorem row_any (u : Nat) (hu : u < 18446744073709551616) (w : World) :
    Calls Try.prog 73 #[.int .u64 u] w fun e w' => ∃ a c, e = .returned (.slice a (row u).length c) ∧ Own w' w.heap.size a 1 (row u).length c (bs (row u)) ∧ Ext no w w' := by
  have hu0 : (0 : Int) ≤ u := by omega
  go_enter Try.func73, Try.ntmps73
  go_wp2_with fail
  go_loopw [0, 3] (fun s0 s3 wr => ∃ (v : Nat) (l : List UInt8) (a : Option Addr) (c : Nat), v < 144115188075855872 ∧ s0 = .int .u64 v ∧ s3 = .slice a l.length c ∧ Own wr w.heap.size a 1 l.length c (bs l) ∧
      revRow u = l ++ hiRev v ∧ Below w.heap.size w wr) (fun s0 _ _ => (intOf s0).toNat)
  case atStart =>
    refine ⟨u / 128, [b8 (u % 128)], _, _, by omega, by go_num, rfl, ?_, rfl, (Below.refl _ _).alloc (Nat.le_refl _) _⟩
    exact Own.fresh w _ _ _ _ _ _ _ _ (Nat.le_refl _) (by simp) (Nat.le_refl _) (by unfold maxLen; simp) (by simp) (by simp [bs, B8_b8 (u % 128) (by omega)]) (.inl (Nat.le_refl _))
  case round =>
    obtain ⟨v, l, a, c, hv, rfl, rfl, hown, hrev, hbel⟩ := hrel
    have hl : l.length ≤ 10 := by
      have := (row_length u hu).1
      rw [row, List.length_reverse, hrev, List.length_append] at this
      omega
    by_cases hz : v = 0
    · subst hz
      have Hrev := Lib.hid hrev
      clear hrev
      go_wp2_with (go_at_call 80; refine (reverse_any _ hown (bs_int _)).mono ?_; rintro e w1 ⟨rfl, hown1, hext1⟩)
      go_ret
      have hrow : row u = l.reverse := by rw [row, Hrev.out, hiRev_zero, List.append_nil]
      refine ⟨a, c, ?_, ?_, ?_⟩
      · rw [hrow, List.length_reverse]; rfl
      · rw [hrow, List.length_reverse, ← bs_reverse]; exact hown1
      · exact Ext.ofBelow (hbel.trans (hown.below hext1 hbel.size)) (Nat.le_refl _)
    · have hv0 : 0 < v := by omega
      have hor := or128 ((v : Int) % 128) (by omega) (by omega)
      have hrd := Rd.one wr (.int .u8 ((v : Int) % 128 + 128)) 5 (0, 0)
      have Hrev := Lib.hid hrev
      clear hrev hz
      go_wp2_with (at_builtin; refine wpList_append TBytes rfl rfl rfl (hown.ext (Ext.alloc no _ _) (fun _ _ h => h)) rfl hrd (by simp) ?c2 ?c3 ?c4 ?c5 ?_)
      case c2 => intro u hu; simp at hu; subst hu; rfl
      case c3 => unfold maxLen; omega
      case c4 => omega
      case c5 => have := hbel.size; simp; omega
      intro a' c' w1 happ
      have hown1 := happ.own
      have hext1 := happ.ext
      clear happ
      go_wp2_with fail
      go_roundw
      case rel =>
        refine ⟨v / 128, l ++ [b8 (v % 128 + 128)], a', c', by omega, by go_num, by simp, ?_, ?_, ?_⟩
        · rw [List.length_append, List.length_singleton, bs_append]
          have : bs [b8 (v % 128 + 128)] = [.int .u8 ((v : Int) % 128 + 128)] := by simp only [bs, List.map_cons, List.map_nil, B8_b8 (v % 128 + 128) (by omega)]; congr 2
          rw [this]
          exact hown1
        · rw [Hrev.out, hiRev_pos hv0]; simp
        · exact hbel.trans (((Below.refl _ _).alloc hbel.size _).trans ((hown.alloc _).below hext1 (by have := hbel.size; simp; omega)))
      case measure => simp [intOf]; omega
end Go.Proofs.Ytpljcnjkdjblmaa

/- Walks of the package code: turned, Grow, Concat, Clone, Int. -/
namespace Go.Proofs.Ytpljcnjkdjblmaa
open Go.RowKit Go.Esc

set_option maxHeartbeats 400000 in
theorem turned_any (n : Int) (w : World) (h1 : -9223372036854775808 ≤ n) (h2 : n ≤ 9223372036854775807) :
    Calls Try.prog 74 #[.int .i64 n] w fun e w' => e = .returned (.int .u64 (zig n)) ∧ w = w' := by
  by_cases hn : n < 0
  · have ho := or1 (-(n + 1) * 2) (by omega) (by omega) (by omega)
    go_enter Try.func74, Try.ntmps74
    go_wp2
    go_ret
    have hz : (-(n + 1) * 2 + 1 : Int) = ((zig n : Nat) : Int) := by unfold zig; rw [if_pos (by omega)]; omega
    exact ⟨by rw [← hz]; rfl, rfl⟩
  · have hn0 : 0 ≤ n := by omega
    go_enter Try.func74, Try.ntmps74
    go_wp2
    go_ret
    have hz : (n * 2 : Int) = ((zig n : Nat) : Int) := by unfold zig; rw [if_neg (by omega)]; omega
    exact ⟨by rw [← hz]; rfl, rfl⟩

end Go.Proofs.Ytpljcnjkdjblmaa

/- Walks of the package code: Clone, Int, Text, Ints. -/
namespace Go.Proofs.Ytpljcnjkdjblmaa
open Go.RowKit Go.Esc

set_option maxHeartbeats 400000 in
theorem int_any (w : World) (a : Option Addr) (c : Nat) (l : List UInt8) (n : Int) (hrd : Rd w a (bs l)) (hl : l.length ≤ 549755813888) (hn : I64ok n) :
    Calls Try.prog 54 #[.slice a l.length c, .int .i64 n] w fun e w' => ∃ a' c', e = .returned (.slice a' (l ++ encI n).length c') ∧ Own w' w.heap.size a' 1 (l ++ encI n).length c' (bs (l ++ encI n)) ∧ Ext no w w' := by
  have hz := zig_lt n hn.1 hn.2
  have hr := (row_length (zig n) hz).1
  have hf : flat [⟨a, l, c⟩, ⟨none, row (zig n), 0⟩] = l ++ encI n := by simp [flat, encI]
  have Hf := Lib.hid hf
  clear hf
  go_enter Try.func54, Try.ntmps54
  go_wp2_with fail
  refine (turned_any n w hn.1 hn.2).mono ?_
  rintro e w1 ⟨rfl, rfl⟩
  go_wp2_with fail
  refine (row_any (zig n) hz w).mono ?_
  rintro e w1 ⟨a1, c1, rfl, hown1, hext1⟩
  go_wp2_with fail
  refine (concat_any _ _ 2 [⟨a, l, c⟩, ⟨a1, row (zig n), c1⟩] (by simp) (Rd.lit w1 _ _ _) ?_ ?_).mono ?_
  · intro p hp
    simp only [List.mem_cons, List.not_mem_nil, or_false] at hp
    rcases hp with rfl | rfl
    · exact (hrd.ext hext1 (fun _ _ h => h)).alloc _
    · exact hown1.rd.alloc _
  · have : (flat [⟨a, l, c⟩, ⟨a1, row (zig n), c1⟩]).length = l.length + (row (zig n)).length := by simp [flat]
    rw [this]; omega
  · rintro e w2 ⟨a2, c2, rfl, hown2, hext2⟩
    go_wp2_with fail
    go_ret
    have hfl : flat [⟨a, l, c⟩, ⟨a1, row (zig n), c1⟩] = l ++ encI n := Hf.out
    rw [hfl] at hown2
    refine ⟨a2, c2, ?_, hown2.mono (by have := hext1.size; simp; omega), (hext1.comp (Ext.alloc no _ _)).comp hext2⟩
    rw [← hfl]; rfl
end Go.Proofs.Ytpljcnjkdjblmaa

/- Walks of the package code: Text, Ints. -/
namespace Go.Proofs.Ytpljcnjkdjblmaa
open Go.RowKit Go.Esc

set_option maxHeartbeats 400000 in
theorem text_any (w : World) (a : Option Addr) (c : Nat) (l t : List UInt8) (hrd : Rd w a (bs l)) (hl : l.length ≤ 274877906944) (hs : t.length ≤ 274877906944) :
    Calls Try.prog 55 #[.slice a l.length c, .string (str t)] w fun e w' => ∃ a' c', e = .returned (.slice a' (l ++ encT t).length c') ∧ Own w' w.heap.size a' 1 (l ++ encT t).length c' (bs (l ++ encT t)) ∧ Ext no w w' := by
  have hn : I64ok t.length := ⟨by omega, by omega⟩
  have hz := zig_lt t.length hn.1 hn.2
  have hr := (row_length (zig t.length) hz).1
  have hll : (l ++ encI t.length).length ≤ 274877906964 := by rw [List.length_append, encI]; omega
  have hsz := str_size t

  go_enter Try.func55, Try.ntmps55
  go_wp2_with fail
  refine (int_any w a c l t.length hrd (by omega) hn).mono ?_
  rintro e w1 ⟨a1, c1, rfl, hown1, hext1⟩
  generalize hm : l ++ encI t.length = m at *
  have Hm := Lib.hid hm
  clear hm
  go_wp2_with (first
    | (with_reducible show wpList _ _ _ _ _ _; refine wpList_bytes_of (by exact Try.underlying9) (by exact Try.underlying37) (by exact Try.underlying5) rfl rfl rfl w1.heap.size (Nat.le_refl _) ?c1 ?_))
  case c1 => rw [hsz]; unfold maxLen; omega
  intro a2 c2 w2 hown2 hext2
  rw [str_list] at hown2
  go_wp2_with fail
  refine (concat_any _ _ 2 [⟨a1, m, c1⟩, ⟨a2, t, c2⟩] (by simp) (Rd.lit w2 _ _ _) ?_ ?_).mono ?_
  · intro p hp
    simp only [List.mem_cons, List.not_mem_nil, or_false] at hp
    rcases hp with rfl | rfl
    · exact (hown1.rd.ext hext2 (fun _ _ h => h)).alloc _
    · exact hown2.rd.alloc _
  · have : (flat [⟨a1, m, c1⟩, ⟨a2, t, c2⟩]).length = m.length + t.length := by simp [flat]
    rw [this]; omega
  · rintro e w3 ⟨a3, c3, rfl, hown3, hext3⟩
    go_wp2_with fail
    go_ret
    have hf : flat [⟨a1, m, c1⟩, ⟨a2, t, c2⟩] = l ++ encT t := by simp [flat, encT, ← Hm.out]
    rw [hf] at hown3
    refine ⟨a3, c3, ?_, hown3.mono (by have := hext1.size; have := hext2.size; simp; omega), ((hext1.comp hext2).comp (Ext.alloc no _ _)).comp hext3⟩
    rw [← hf]; rfl

end Go.Proofs.Ytpljcnjkdjblmaa

/- Bytes as strings; strings compared. -/
namespace Go.Proofs.Ytpljcnjkdjblmaa
open Go.RowKit Go.Esc

theorem convStr (w : World) (a : Option Addr) (n c : Nat) (l : List UInt8) (hn : n = l.length) (h : Rd w a (bs l)) : (convert 37 9 (.slice a n c)).run Try.prog w = .ok (.string (str l)) w := by
  subst hn; exact run_string_of Try.underlying37 Try.underlying5 Try.underlying9 h
theorem toList_str (l : List UInt8) : (str l).toList = l := by rw [ByteArray.toList_eq]; rfl
theorem beqStrT {x y : List UInt8} (h : x = y) : ((str x).toList == (str y).toList) = true := by rw [toList_str, toList_str, beq_iff_eq]; exact h
theorem beqStrF {x y : List UInt8} (h : x ≠ y) : ((str x).toList == (str y).toList) = false := by rw [toList_str, toList_str, beq_eq_false_iff_ne]; exact h

theorem str_take (l : List UInt8) (n : Nat) : (str l).extract 0 n = str (l.take n) := by
  rw [← str_of ((str l).extract 0 n), Lib.extract_data]
  rfl

theorem str_add (x y : List UInt8) : str x ++ str y = str (x ++ y) := by
  rw [← str_of (str x ++ str y)]
  simp [str]

theorem str_index (w : World) (s : List UInt8) (j : Nat) (b : UInt8) (h : s[j]? = some b) : (Instr.index 9 (.string (str s)) (.int .i64 j)).run Try.prog w = .ok (.int .u8 b.toNat) w := by
  obtain ⟨hj, hb⟩ := List.getElem?_eq_some_iff.1 h
  rw [run_index_string w _ _ _ _ Try.underlying9, dif_pos ⟨by omega, by rw [str_size]; omega⟩]
  simp only [Int.toNat_natCast]
  rw [← hb]; rfl
theorem beqEmptyT {x : List UInt8} (h : x = []) : (str x).toList.isEmpty = true := by rw [toList_str, h]; rfl
theorem beqEmptyF {x : List UInt8} (h : x ≠ []) : (str x).toList.isEmpty = false := by rw [toList_str, List.isEmpty_eq_false_iff]; exact h


end Go.Proofs.Ytpljcnjkdjblmaa
