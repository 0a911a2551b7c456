/- Walks of the package slices, for bytes: Grow, Concat, Clone. -/
import Derived.Test.YtpljcnjkdjblmaaRows
import Derived.Test.YtpljcnjkdjblmaaBase
import Derived.Test.YtpljcnjkdjblmaaPlainA
namespace Go.Proofs.Ytpljcnjkdjblmaa
open Go.RowKit Go.Esc

theorem TBytes : SlT Try.prog 37 5 (.int .u8 0) 1 1 := ⟨Try.underlying37, by kernel_rfl, rfl, by decide⟩

set_option maxHeartbeats 400000 in
theorem grow_nil (n : Nat) (w : World) (hn : n ≤ 70368744177664) :
    Calls Try.prog 79 #[.slice none 0 0, .int .i64 n] w fun e w' => ∃ a c, e = .returned (.slice a 0 c) ∧ Own w' w.heap.size a 1 0 c [] ∧ Ext no w w' := by
  by_cases h0 : n = 0
  · subst h0
    go_enter Try.func79, Try.ntmps79
    go_wp2_with fail
    go_ret
    exact ⟨none, 0, rfl, Own.nil _ _ _, Ext.refl _ _⟩
  · have hpos : 0 < n := by omega
    clear h0
    go_enter Try.func79, Try.ntmps79
    go_wp2_with (at_builtin; refine wpList_append_zeros TBytes rfl rfl Try.underlying3 rfl rfl w.heap.size (Nat.le_refl _) ?c1 ?c2 hpos ?_)
    case c1 => unfold maxLen; omega
    case c2 => omega
    intro c w1 hown hext
    go_wp2_with fail
    go_ret
    exact ⟨_, c, rfl, hown, hext⟩

set_option maxHeartbeats 400000 in
theorem concat_any (w : World) (oa : Option Addr) (oc : Nat) (L : List Part) (hL : L.length ≤ 1000) (hrd : Rd w oa (L.map Part.v)) (hp : ∀ p ∈ L, Rd w p.a (bs p.l)) (htot : (flat L).length ≤ 1099511627776) :
    Calls Try.prog 72 #[.slice oa L.length oc] w fun e w' => ∃ a c, e = .returned (.slice a (flat L).length c) ∧ Own w' w.heap.size a 1 (flat L).length c (bs (flat L)) ∧ Ext no w w' := by
  go_enter Try.func72, Try.ntmps72
  go_wp2_with fail
  go_loop [3, 5, 11] (fun size _ i => ∃ k : Nat, k ≤ L.length ∧ i = .int .i64 k ∧ size = .int .i64 (flat (L.take k)).length) (fun _ _ i => L.length - (intOf i).toNat)
  case atStart => exact ⟨0, Nat.zero_le _, rfl, rfl⟩
  case round =>
    obtain ⟨k, hk, rfl, rfl⟩ := hrel
    by_cases hlt : k < L.length
    · obtain ⟨ad, rfl, _⟩ := hrd.ne (by simp; omega)
      have hc := hrd.cell k (by simpa using hlt)
      rw [List.getElem_map, Part.v] at hc
      have ht := flat_take_le L k
      have ht1 := flat_take_le L (k + 1)
      have hs := congrArg List.length (flat_take_succ L k hlt)
      rw [List.length_append] at hs
      have hs0 : ((flat (L.take k)).length : Int) + (L[k].l.length : Int) ≤ 1099511627776 := by omega
      have Hs := Lib.hid hs
      clear hs
      go_wp2_with fail
      go_round
      case rel => exact ⟨k + 1, by omega, by go_num, by rw [Hs.out]; go_num⟩
      case measure => simp [intOf]; omega
    · obtain rfl : k = L.length := by omega
      rw [List.take_length]
      go_wp2_with (go_at_call 79; refine (grow_nil _ _ (by omega)).mono ?_; rintro e w1 ⟨a, c, rfl, hown, hext⟩)
      go_loopw [6, 8, 27] (fun v _ i wr => ∃ (k : Nat) (a : Option Addr) (c : Nat), k ≤ L.length ∧ i = .int .i64 k ∧ v = .slice a (flat (L.take k)).length c ∧ Own wr w.heap.size a 1 (flat (L.take k)).length c (bs (flat (L.take k))) ∧ Ext no w wr)
        (fun _ _ i _ => L.length - (intOf i).toNat)
      case atStart => exact ⟨0, _, _, Nat.zero_le _, rfl, rfl, hown, hext⟩
      case round =>
        clear hown hext
        obtain ⟨k, a, c, hk, rfl, rfl, hown, hext⟩ := hrel
        by_cases hlt : k < L.length
        · obtain ⟨ad, rfl, _⟩ := hrd.ne (by simp; omega)
          have hc := hext.keeps (hrd.cell k (by simpa using hlt)) (fun h => h)
          rw [List.getElem_map, Part.v] at hc
          have hpk := (hp L[k] (by simp)).ext hext (fun _ _ h => h)
          have ht := flat_take_le L k
          have ht1 := flat_take_le L (k + 1)
          have hs := congrArg List.length (flat_take_succ L k hlt)
          rw [List.length_append] at hs
          have hsz := hext.size
          have hle : (flat (L.take k)).length + L[k].l.length ≤ 1099511627776 := by omega
          have Hs := Lib.hid hs
          clear hs
          go_wp2_with (at_builtin; refine wpList_append TBytes rfl rfl rfl hown rfl hpk (by simp) (bs_one _) ?c1 ?c2 (by omega) ?_)
          case c1 => unfold maxLen; omega
          case c2 => omega
          intro a' c' w1 happ
          have hown1 := happ.own
          have hext1 := happ.ext
          clear happ
          go_wp2_with fail
          go_roundw
          case rel =>
            refine ⟨k + 1, a', c', by omega, by go_num, by rw [Hs.out], ?_, ?_⟩
            · rw [Hs.out, flat_take_succ L k hlt, bs_append]; exact hown1
            · exact Ext.ofBelow ((hext.belowAll).trans (hown.below hext1 hext.size)) (Nat.le_refl _)
          case measure => simp [intOf]; omega
        · obtain rfl : k = L.length := by omega
          rw [List.take_length] at hown ⊢
          go_wp2_with fail
          go_ret
          exact ⟨a, c, rfl, hown, hext⟩

theorem eqNil (w : World) (a : Option Addr) (n c : Nat) : (binOp .eql 37 (.slice a n c) (.slice none 0 0)).run Try.prog w = .ok (.bool a.isNone) w :=
  Lib.run_eql_slice_nil w _ _ a n c 0 0 Try.underlying37

set_option maxHeartbeats 400000 in
theorem clone_any (w : World) (a : Option Addr) (c : Nat) (l : List UInt8) (hrd : Rd w a (bs l)) (hl : l.length ≤ 70368744177664) :
    Calls Try.prog 60 #[.slice a l.length c] w fun e w' => ∃ a' c', e = .returned (.slice a' l.length c') ∧ Own w' w.heap.size a' 1 l.length c' (bs l) ∧ Ext no w w' := by
  have hq0 := eqNil w none 0 c
  have hq := eqNil w a l.length c
  cases a with
  | none =>
    have h0 : l = [] := by
      cases l with
      | nil => rfl
      | cons x xs => obtain ⟨_, h, _⟩ := hrd 0 _ rfl; cases h
    subst h0
    go_enter Try.func60, Try.ntmps60
    go_wp2_with fail
    go_ret
    exact ⟨none, 0, rfl, Own.nil _ _ _, Ext.refl _ _⟩
  | some ad =>
    have hz : Own (w.alloc (.cells #[] 5)) w.heap.size (some ⟨w.heap.size, 0, none⟩) 1 0 0 [] := Own.fresh w _ _ _ _ _ _ _ _ (Nat.le_refl _) (by simp) (Nat.le_refl _) (Nat.zero_le _) (by simp) (by simp) (.inl (Nat.le_refl _))
    go_enter Try.func60, Try.ntmps60
    go_wp2_with (at_builtin; refine wpList_append TBytes rfl rfl rfl hz rfl (hrd.alloc _) (by simp) (bs_one _) ?c1 ?c2 (by simp) ?_)
    case c1 => unfold maxLen; omega
    case c2 => omega
    intro a' c' w1 happ
    have hown := happ.own
    have hext := happ.ext
    rw [Nat.zero_add, List.nil_append] at hown
    go_wp2_with fail
    go_ret
    exact ⟨a', c', rfl, hown, Ext.ofBelow (((Below.refl _ _).alloc (Nat.le_refl _) _).trans (hz.below hext (by simp))) (Nat.le_refl _)⟩


theorem _root_.Go.Esc.Rd.cutB {w : World} {a : Option Addr} {l : List UInt8} (h : Rd w a (bs l)) (c k : Nat) (hc : l.length ≤ c) : Rd w (cutAt a c k 1) (bs (l.drop k)) := by
  have := h.cut c k 1 (fun e => by rw [bs_length]; omega)
  rw [show (bs l).drop (k * 1) = bs (l.drop k) from by rw [Nat.mul_one, bs_drop]] at this
  exact this
theorem _root_.Go.Esc.Ext.drewN (S : Nat → Prop) (w : World) (n : Nat) : Ext S w (w.drewN n) := ⟨rfl, rfl, rfl, Nat.le_refl _, fun _ _ _ => rfl⟩
theorem _root_.Go.Esc.Rd.drewN {w : World} {a : Option Addr} {cs : List Value} (h : Rd w a cs) (n : Nat) : Rd (w.drewN n) a cs := h.ext (Ext.drewN no w n) (fun _ _ h => h)
end Go.Proofs.Ytpljcnjkdjblmaa
