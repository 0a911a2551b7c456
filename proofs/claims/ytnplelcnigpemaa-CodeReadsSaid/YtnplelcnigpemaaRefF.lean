/- Walks of the document's reader: Ints. -/
import Derived.Test.YtnplelcnigpemaaRefE
namespace Go.Proofs.Ytnplelcnigpemaa
open Go.RowKit Go.Esc
set_option linter.unusedVariables false

theorem xtext_any (w : World) (g : Nat) {a : Option Addr} {c : Nat} {b : List UInt8} (s : RS) (h : XRdr w g a c b s.l s.e) :
    Calls Try.prog 27 #[.pointer (some ⟨g, 0, none⟩)] w fun e w' => e = .returned (.string (str (rText s).1)) ∧ XRdr w' g a c b (rText s).2.l (rText s).2.e ∧ Ext (just g) w w' := by
  by_cases h0 : s.e = 0
  · rw [h0] at h
    exact xtext_ok w g s h0 h
  · refine (xtext_skip w g h h0).mono ?_
    rintro e w' ⟨rfl, hx⟩
    rw [rText_skip h0]
    exact ⟨rfl, h.no hx, hx.mono (fun _ _ h => h.elim)⟩

def XIntsEnd (s : RS) (w : World) (g : Nat) (a : Option Addr) (c : Nat) (b : List UInt8) (e : Ending) (w' : World) : Prop :=
  ∃ a' c', e = .returned (.slice a' (rInts s).1.length c') ∧ Rd w' a' (is (rInts s).1) ∧ XRdr w' g a c b (rInts s).2.l (rInts s).2.e ∧ Ext (just g) w w'

set_option maxHeartbeats 1000000 in
theorem xints_skip (w : World) (g : Nat) {a : Option Addr} {c : Nat} {b l : List UInt8} {er : Int} (h : XRdr w g a c b l er) (h0 : er ≠ 0) :
    Calls Try.prog 29 #[.pointer (some ⟨g, 0, none⟩)] w fun e w' => e = .returned (.slice none 0 0) ∧ Ext no w w' := by
  have hb : (er == 0) = false := by rw [beq_eq_false_iff_ne]; exact h0
  have H0 := Lib.hid h0
  clear h0
  go_enter Try.func29, Try.ntmps29
  go_wp2_with fail
  refine (xlen_skip w g h H0.out).mono ?_
  rintro e w' ⟨rfl, hx⟩
  have hr := h.no hx
  have hc := hr.err
  go_wp2_with fail
  go_loopw [4, 5] (fun _ s5 wr => s5 = .int .i64 0 ∧ wr = w') (fun _ _ _ => 0)
  case atStart => exact ⟨rfl, rfl⟩
  case round =>
    obtain ⟨rfl, rfl⟩ := hrel
    go_wp2_with fail
    go_ret
    exact ⟨rfl, hx⟩

set_option maxHeartbeats 2000000 in
theorem xints_ok (w : World) (g : Nat) {a : Option Addr} {c : Nat} {b : List UInt8} (s : RS) (h0 : s.e = 0) (h : XRdr w g a c b s.l 0) :
    Calls Try.prog 29 #[.pointer (some ⟨g, 0, none⟩)] w (XIntsEnd s w g a c b) := by
  have H0 := Lib.hid h0
  have hg := h.lt
  have ha := h.rd.low
  clear h0
  go_enter Try.func29, Try.ntmps29
  go_wp2_with fail
  refine (xlen_ok w g h).mono ?_
  rintro e w' ⟨r, hx, ⟨n, hn, hlen, rfl, hr⟩ | ⟨q, hq, hlen, rfl, hr⟩⟩
  · have Hlen := Lib.hid hlen
    have hsz := hx.size
    clear hlen h
    go_wp2_with fail
    go_loopw [4, 5] (fun s4 s5 wr => ∃ (k : Nat) (acc : List Int) (l' : List UInt8) (a' : Option Addr) (c' : Nat) (q : Nat), k ≤ n ∧ s5 = .int .i64 k ∧ s4 = .slice a' k c' ∧ acc.length = k ∧ XRdr wr g a c b l' q ∧ Own wr w.heap.size a' 1 k c' (is acc) ∧ Ext (just g) w wr ∧ w.heap.size ≤ wr.heap.size ∧
      (if q = 0 then rNums n [] r = rNums (n - k) acc l' else rNums n [] r = (.inl q, l'))) (fun _ s5 _ => n - (intOf s5).toNat)
    case atStart => exact ⟨0, [], r, none, 0, 0, Nat.zero_le _, rfl, rfl, rfl, hr, Own.nil _ _ _, hx, hsz, by rw [if_pos rfl, Nat.sub_zero]⟩
    case round =>
      clear hr hx hsz
      obtain ⟨k, acc, l', a', c', q, hk, rfl, rfl, hacc, hr, hown, hx, hsz, hrel⟩ := hrel
      have hc := hr.err
      by_cases hq : q = 0
      · subst hq
        rw [if_pos rfl] at hrel
        by_cases hlt : k < n
        · have Hrel := Lib.hid hrel
          have Hacc := Lib.hid hacc
          clear hrel hacc
          go_wp2_with fail
          refine (xint_ok wr g hr).mono ?_
          rintro e w1 ⟨r', hx1, hcase⟩
          have hown1 := hown.ext hx1 (fun ad hh h => by have := (hown.base ad hh).1; simp only [Esc.just] at h; omega)
          have hs1 := hx1.size
          obtain ⟨v, q', rfl, hr1, hrel'⟩ : ∃ (v : Int) (q' : Nat), e = .returned (.int .i64 v) ∧ XRdr w1 g a c b r' q' ∧ (if q' = 0 then rNums n [] r = rNums (n - (k + 1)) (acc ++ [v]) r' else rNums n [] r = (.inl q', r')) := by
            rcases hcase with ⟨u, hsc, rfl, hr1⟩ | ⟨q', hsc, rfl, hr1⟩
            · exact ⟨sgn u, 0, rfl, hr1, by rw [if_pos rfl, Hrel.out, rNums_step hlt hsc]⟩
            · have hq0 : q' ≠ 0 := by rcases scan_err l' 0 true q' r' hsc with rfl | rfl <;> decide
              exact ⟨0, q', rfl, hr1, by rw [if_neg hq0, Hrel.out, rNums_stop hlt hsc]⟩
          have Hrel' := Lib.hid hrel'
          have hx01 := hx.comp hx1
          have hrd := Rd.one w1 (.int .i64 v) 3 (0, 0)
          clear hcase hrel' hr hx hx1 hown hc
          go_wp2_with (at_builtin; refine wpList_append TInts rfl rfl rfl (hown1.alloc _) rfl hrd (by simp) (by intro v hv; simp at hv; subst hv; rfl) (by unfold maxLen; omega) (by omega) (by simp; omega) ?_)
          intro a2 c2 w2 happ
          have hxa : Ext (blk a') w1 w2 := (Ext.alloc _ _ _).comp happ.ext
          have hnb : ∀ i, i < w.heap.size → ¬ blk a' i := fun i hi => hown1.notBlk hi
          have hr2 := hr1.ext hxa (hnb _ hg) (fun hb ad hh => hnb _ (ha hb ad hh))
          have hx02 := hx01.trans hxa (fun i hi h => (hnb i hi h).elim)
          have hown2 := happ.own
          have hs2 := hxa.size
          rw [show is acc ++ [Value.int .i64 v] = is (acc ++ [v]) from by simp [is, I64]] at hown2
          clear happ hxa hown1 hrd hr1 hx01
          go_wp2_with fail
          go_roundw
          case rel => exact ⟨k + 1, acc ++ [v], r', a2, c2, q', by omega, by go_num, by go_num, by simp [Hacc.out], hr2, hown2, hx02, by omega, Hrel'.out⟩
          case measure => simp [intOf]; omega
        · obtain rfl : k = n := by omega
          rw [Nat.sub_self] at hrel
          have Hres := Lib.hid (rInts_ok H0.out Hlen.out (show rNums k [] r = (.inr acc, l') from hrel))
          have Hacc := Lib.hid hacc
          clear hrel hacc
          go_wp2_with fail
          go_ret
          exact ⟨a', c', by rw [Hres.out]; show _ = Ending.returned (.slice a' acc.length c'); rw [Hacc.out]; rfl, by rw [Hres.out]; exact hown.rd, by rw [Hres.out]; exact hr, hx⟩
      · rw [if_neg hq] at hrel
        have hb : ((q : Int) == 0) = false := by rw [beq_eq_false_iff_ne]; omega
        have Hres := Lib.hid (rInts_bad H0.out Hlen.out hrel)
        clear hrel hq
        by_cases hlt : k < n
        · go_wp2_with fail
          go_ret
          exact ⟨none, 0, by rw [Hres.out]; rfl, by rw [Hres.out]; exact Rd.nil _ _, by rw [Hres.out]; exact hr, hx⟩
        · go_wp2_with fail
          go_ret
          exact ⟨none, 0, by rw [Hres.out]; rfl, by rw [Hres.out]; exact Rd.nil _ _, by rw [Hres.out]; exact hr, hx⟩
  · have hc := hr.err
    have hb : ((q : Int) == 0) = false := by rw [beq_eq_false_iff_ne]; omega
    have Hres := Lib.hid (rInts_err H0.out hlen)
    clear hq hlen h
    go_wp2_with fail
    go_loopw [4, 5] (fun _ s5 wr => s5 = .int .i64 0 ∧ wr = w') (fun _ _ _ => 0)
    case atStart => exact ⟨rfl, rfl⟩
    case round =>
      obtain ⟨rfl, rfl⟩ := hrel
      go_wp2_with fail
      go_ret
      exact ⟨none, 0, by rw [Hres.out]; rfl, by rw [Hres.out]; exact Rd.nil _ _, by rw [Hres.out]; exact hr, hx⟩

theorem xints_any (w : World) (g : Nat) {a : Option Addr} {c : Nat} {b : List UInt8} (s : RS) (h : XRdr w g a c b s.l s.e) :
    Calls Try.prog 29 #[.pointer (some ⟨g, 0, none⟩)] w (XIntsEnd s w g a c b) := by
  by_cases h0 : s.e = 0
  · rw [h0] at h
    exact xints_ok w g s h0 h
  · refine (xints_skip w g h h0).mono ?_
    rintro e w' ⟨rfl, hx⟩
    refine ⟨none, 0, ?_, ?_, ?_, hx.mono (fun _ _ h => h.elim)⟩
    · rw [rInts_skip h0]; rfl
    · rw [rInts_skip h0]; exact Rd.nil _ _
    · rw [rInts_skip h0]; exact h.no hx
end Go.Proofs.Ytnplelcnigpemaa
