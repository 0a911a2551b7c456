/- Walks of the package code: New, Int, size, Text, Ints, End of a reader. -/
import Derived.Test.YtddobhihjljcgaaCodeF
import Derived.Deep.DeepCutAuto
namespace Go.Proofs.Ytddobhihjljcgaa
open Go.RowKit Go.Esc
set_option linter.unusedVariables false

theorem Rdr.just {w w' : World} {g : Nat} {d : Option Nat} {l : List UInt8} {er : Int} (h : Rdr w g d l er) (hx : Ext (just g) w w') : Ext (just g) w w' := hx

theorem mkFunc : ∀ (fn : Fn) (first cap : Array Value) (w : World), (Instr.makeFunc fn first cap).run Try.prog w = .ok (.func fn first cap) w := fun _ _ _ _ => rfl

/-- The face's own variable: a block that holds where the reader lies. -/
theorem boxed (w : World) (g : Nat) {w1 : World} (hg : g < w.heap.size) (hx : Ext (just g) (w.alloc (.cells #[.pointer (some ⟨g, 0, none⟩)] 77)) w1) : w1.cell? ⟨w.heap.size, 0, none⟩ = some (.pointer (some ⟨g, 0, none⟩)) :=
  hx.keeps (by simp) (by simp only [Esc.just]; omega)

theorem face_ext (w : World) (g : Nat) {w1 w2 : World} (o : Obj) (hx : Ext (just g) (w.alloc o) w1) (hx2 : Ext (just g) w1 w2) : Ext (just g) w w2 := ((Ext.alloc _ _ _).comp hx).comp hx2

set_option maxHeartbeats 400000 in
theorem rdInt_any (w : World) (g : Nat) {d : Option Nat} (s : RS) (h : Rdr w g d s.l s.e) :
    Calls Try.prog 31 #[.pointer (some ⟨g, 0, none⟩)] w fun e w' => e = .returned (.int .i64 (rInt s).1) ∧ Rdr w' g d (rInt s).2.l (rInt s).2.e ∧ Ext (just g) w w' := by
  have hmf := mkFunc
  have h1 := h.no (Ext.alloc no w (.cells #[.pointer (some ⟨g, 0, none⟩)] 77))
  have hg := h.lt
  have hc := h1.err
  by_cases h0 : s.e = 0
  · rw [h0] at h1 hc
    have H0 := Lib.hid h0
    clear h0
    go_enter_defers Try.func31, Try.ntmps31
    go_wp2_with fail
    refine (number_any _ g s.l 0 h1).mono ?_
    rintro e w1 ⟨r, hr1, hx1, ⟨u, hsc, rfl⟩ | ⟨k, hsc, rfl⟩⟩
    · have Hsc := Lib.hid hsc
      clear hsc
      go_wp2_with fail
      refine leaves_cons (f := 59) (args := #[.pointer (some ⟨w.heap.size, 0, none⟩)]) (by simp) (by simp [go_sem]) ?_
      refine (int1_returning w1 g w.heap.size (boxed w g hg hx1)).mono ?_
      rintro e u' w2 ⟨rfl, rfl, hx2⟩
      rw [rInt_ok H0.out Hsc.out]
      exact ⟨_, results_tmp rfl _ _ _, rfl, hr1.no hx2, face_ext w g _ hx1 (hx2.mono (fun _ _ h => h.elim))⟩
    · have Hsc := Lib.hid hsc
      clear hsc
      go_wp2_with fail
      refine leaves_cons (f := 59) (args := #[.pointer (some ⟨w.heap.size, 0, none⟩)]) (by simp) (by simp [go_sem]) ?_
      refine (int1_panicking w1 g w.heap.size r 0 k [] hr1 (boxed w g hg hx1)).mono ?_
      rintro e u' w2 ⟨rfl, rfl, hr2, hx2⟩
      rw [rInt_err H0.out Hsc.out]
      refine ⟨_, results_tmp rfl _ _ _, rfl, hr2, face_ext w g _ hx1 hx2⟩
  · have hb : (s.e == 0) = false := by rw [beq_eq_false_iff_ne]; exact h0
    have H0 := Lib.hid h0
    clear h0
    go_enter_defers Try.func31, Try.ntmps31
    go_wp2_with fail
    refine leaves_cons (f := 59) (args := #[.pointer (some ⟨w.heap.size, 0, none⟩)]) (by simp) (by simp [go_sem]) ?_
    refine (int1_returning _ g w.heap.size (by simp)).mono ?_
    rintro e u' w2 ⟨rfl, rfl, hx2⟩
    rw [rInt_skip H0.out]
    exact ⟨_, results_tmp rfl _ _ _, rfl, h1.no hx2, (Ext.alloc _ _ _).comp (hx2.mono (fun _ _ h => h.elim))⟩
/-- What size ends with. -/
def LenEnd (l : List UInt8) (w : World) (g : Nat) (d : Option Nat) (er : Int) (e : Ending) (w' : World) : Prop :=
  ∃ r, Rdr w' g d r er ∧ Ext (just g) w w' ∧ ((∃ n : Nat, n ≤ 65535 ∧ rLen l = (.inr n, r) ∧ e = .returned (.int .i64 n)) ∨ (∃ k : Nat, rLen l = (.inl k, r) ∧ e = .panicked [{ v := .iface 138 (.int .i64 k), recovered := false }]))

set_option maxHeartbeats 400000 in
theorem size_any (w : World) (g : Nat) {d : Option Nat} (l : List UInt8) (er : Int) (h : Rdr w g d l er) :
    Calls Try.prog 92 #[.pointer (some ⟨g, 0, none⟩)] w (LenEnd l w g d er) := by
  go_enter Try.func92, Try.ntmps92
  go_wp2_with fail
  refine (number_any w g l er h).mono ?_
  rintro e w1 ⟨r, hr1, hx1, ⟨u, hsc, rfl⟩ | ⟨k, hsc, rfl⟩⟩
  · obtain ⟨x, hx⟩ : ∃ x, sgn u = x := ⟨_, rfl⟩
    rw [hx]
    have Hsc := Lib.hid hsc
    have Hx := Lib.hid hx
    clear hsc hx
    rcases Int.lt_or_le x 0 with hneg | hpos
    · go_wp2_with fail
      exact ⟨rfl, r, hr1, hx1, .inr ⟨4, rLen_many_of Hsc.out (by rw [Hx.out]; omega), rfl⟩⟩
    · rcases Int.lt_or_le 65535 x with hbig | hsm
      · go_wp2_with fail
        exact ⟨rfl, r, hr1, hx1, .inr ⟨4, rLen_many_of Hsc.out (by rw [Hx.out]; omega), rfl⟩⟩
      · go_wp2_with fail
        go_ret
        refine ⟨r, hr1, hx1, .inl ⟨x.toNat, by omega, by rw [rLen_ok_of Hsc.out (by rw [Hx.out]; omega) (by rw [Hx.out]; omega), Hx.out], ?_⟩⟩
        rw [show ((x.toNat : Nat) : Int) = x from by omega]; rfl
  · have Hsc := Lib.hid hsc
    clear hsc
    go_wp2_with fail
    exact ⟨rfl, r, hr1, hx1, .inr ⟨k, rLen_err_of Hsc.out, rfl⟩⟩

set_option maxHeartbeats 1000000 in
theorem rdText_any (w : World) (g : Nat) {d : Option Nat} (s : RS) (h : Rdr w g d s.l s.e) :
    Calls Try.prog 69 #[.pointer (some ⟨g, 0, none⟩)] w fun e w' => e = .returned (.string (str (rText s).1)) ∧ Rdr w' g d (rText s).2.l (rText s).2.e ∧ Ext (just g) w w' := by
  have hmf := mkFunc
  have h1 := h.no (Ext.alloc no w (.cells #[.pointer (some ⟨g, 0, none⟩)] 77))
  have hg := h.lt
  have hc := h1.err
  by_cases h0 : s.e = 0
  · rw [h0] at h1 hc
    have H0 := Lib.hid h0
    clear h0
    go_enter_defers Try.func69, Try.ntmps69
    go_upto_region 3 with fail
    refine wp_region_lin (by kernel_rfl) [[0, 1, 2, 3, 4, 5], [1, 0, 2, 3, 4, 5], [1, 2, 0, 3, 4, 5]] (by kernel_rfl) ?_
    intro js hjs
    simp only [List.mem_cons, List.not_mem_nil, or_false] at hjs
    rcases hjs with rfl | rfl | rfl
    all_goals
      simp only [picked, opAt]
      go_wp2_with fail
      refine (size_any _ g s.l 0 (h1.no (Ext.drew no _))).mono ?_
      rintro e w1 ⟨r, hr1, hx1, ⟨n, hn, hlen, rfl⟩ | ⟨k, hlen, rfl⟩⟩
      · have Hlen := Lib.hid hlen
        clear hlen
        have hbx := boxed w g hg ((Ext.drew _ _).comp hx1)
        by_cases hnr : n ≤ r.length
        · go_wp2_with fail
          refine (take_ok w1 g n r 0 hr1 hnr).mono ?_
          rintro e w2 ⟨a, c, rfl, hrd, hr2, hx2⟩
          have hl : (r.take n).length = n := by rw [List.length_take]; omega
          go_wp2_with (with_reducible show wpList _ _ _ _ _ _; refine wpList_string_of (by exact Try.underlying40) (by exact Try.underlying5) (by exact Try.underlying9) rfl rfl rfl hl.symm hrd ?_)
          refine leaves_cons (f := 91) (args := #[.pointer (some ⟨w.heap.size, 0, none⟩)]) (by simp) (by simp [go_sem]) ?_
          refine (text1_returning w2 g w.heap.size (hx2.keeps hbx (by simp only [Esc.just]; omega))).mono ?_
          rintro e u' w3 ⟨rfl, rfl, hx3⟩
          rw [rText_ok H0.out Hlen.out hnr]
          exact ⟨_, results_tmp rfl _ _ _, rfl, hr2.no hx3, face_ext w g _ (((Ext.drew _ _).comp hx1).comp hx2) (hx3.mono (fun _ _ h => h.elim))⟩
        · have hnr' : r.length < n := by omega
          clear hnr
          go_wp2_with fail
          refine (take_cut w1 g n r 0 hr1 hnr').mono ?_
          rintro e w2 ⟨rfl, rfl⟩
          go_wp2_with fail
          refine leaves_cons (f := 91) (args := #[.pointer (some ⟨w.heap.size, 0, none⟩)]) (by simp) (by simp [go_sem]) ?_
          refine (text1_panicking w1 g w.heap.size r 0 8 [] hr1 hbx).mono ?_
          rintro e u' w3 ⟨rfl, rfl, hr2, hx2⟩
          rw [rText_cut H0.out Hlen.out hnr']
          exact ⟨_, results_tmp rfl _ _ _, rfl, hr2, face_ext w g _ ((Ext.drew _ _).comp hx1) hx2⟩
      · have Hlen := Lib.hid hlen
        clear hlen
        go_wp2_with fail
        refine leaves_cons (f := 91) (args := #[.pointer (some ⟨w.heap.size, 0, none⟩)]) (by simp) (by simp [go_sem]) ?_
        refine (text1_panicking w1 g w.heap.size r 0 k [] hr1 (boxed w g hg ((Ext.drew _ _).comp hx1))).mono ?_
        rintro e u' w2 ⟨rfl, rfl, hr2, hx2⟩
        rw [rText_err H0.out Hlen.out]
        exact ⟨_, results_tmp rfl _ _ _, rfl, hr2, face_ext w g _ ((Ext.drew _ _).comp hx1) hx2⟩
  · have hb : (s.e == 0) = false := by rw [beq_eq_false_iff_ne]; exact h0
    have H0 := Lib.hid h0
    clear h0
    go_enter_defers Try.func69, Try.ntmps69
    go_wp2_with fail
    refine leaves_cons (f := 91) (args := #[.pointer (some ⟨w.heap.size, 0, none⟩)]) (by simp) (by simp [go_sem]) ?_
    refine (text1_returning _ g w.heap.size (by simp)).mono ?_
    rintro e u' w2 ⟨rfl, rfl, hx2⟩
    rw [rText_skip H0.out]
    exact ⟨_, results_tmp rfl _ _ _, rfl, h1.no hx2, (Ext.alloc _ _ _).comp (hx2.mono (fun _ _ h => h.elim))⟩
end Go.Proofs.Ytddobhihjljcgaa
