/- Walks of the document's reader: Text, Ints. -/
import Derived.Test.YtddobhihjljcgaaRefD
namespace Go.Proofs.Ytddobhihjljcgaa
open Go.RowKit Go.Esc
set_option linter.unusedVariables false

set_option maxHeartbeats 1000000 in
theorem xtext_skip (w : World) (g : Nat) {a : Option Addr} {c : Nat} {b l : List UInt8} {er : Int} (h : XRdr w g a c b l er) (h0 : er ≠ 0) :
    Calls Try.prog 72 #[.pointer (some ⟨g, 0, none⟩)] w fun e w' => e = .returned (.string (str [])) ∧ Ext no w w' := by
  have hb : (er == 0) = false := by rw [beq_eq_false_iff_ne]; exact h0
  have H0 := Lib.hid h0
  clear h0
  go_enter Try.func72, Try.ntmps72
  go_wp2_with fail
  refine (xlen_skip w g h H0.out).mono ?_
  rintro e w' ⟨rfl, hx⟩
  have hr := h.no hx
  have hc := hr.err
  go_upto_region 2 with fail
  go_quiet (fail)
  go_wp2_with fail
  go_ret
  exact ⟨rfl, hx.comp (Ext.drewN no _ _)⟩

set_option maxHeartbeats 1000000 in
theorem xtext_ok (w : World) (g : Nat) {a : Option Addr} {c : Nat} {b : List UInt8} (s : RS) (h0 : s.e = 0) (h : XRdr w g a c b s.l 0) :
    Calls Try.prog 72 #[.pointer (some ⟨g, 0, none⟩)] w fun e w' => e = .returned (.string (str (rText s).1)) ∧ XRdr w' g a c b (rText s).2.l (rText s).2.e ∧ Ext (just g) w w' := by
  have H0 := Lib.hid h0
  clear h0
  go_enter Try.func72, Try.ntmps72
  go_wp2_with fail
  refine (xlen_ok w g h).mono ?_
  rintro e w' ⟨r, hx, ⟨n, hn, hlen, rfl, hr⟩ | ⟨k, hk, hlen, rfl, hr⟩⟩
  · have h1 := hr.sl
    have hc := hr.err
    have hf1 := hr.fr 1
    have hf2 := hr.fr 2
    obtain ⟨p, hp, h2, hl⟩ := hr.pos
    have hll : r.length = b.length - p := by rw [hl]; simp
    have hcap := hr.cap
    have hcm := hr.cm
    unfold maxLen at hcm
    have Hlen := Lib.hid hlen
    have Hl := Lib.hid hl
    clear hlen hl
    by_cases hnr : n ≤ r.length
    · have Hres := Lib.hid (rText_ok H0.out Hlen.out hnr)
      have hb1 : decide ((b.length : Int) - p < n) = false := by rw [decide_eq_false_iff_not]; omega
      have Hll := Lib.hid hll
      have hpn : p + n ≤ b.length := by omega
      clear hll hnr
      go_upto_region 2 with fail
      go_quiet (fail)
      go_upto_region 7 with fail
      generalize hw2 : World.setCell _ _ _ = w2
      have hrd : r.drop n = b.drop (p + n) := by rw [Hl.out, List.drop_drop]
      have hr2 : XRdr w2 g a c b (r.drop n) 0 := by
        rw [← hw2, hrd]
        exact (hr.no (Ext.drewN no _ _)).setPos (p + n) hpn
      have hx2 : Ext (just g) w w2 := by rw [← hw2]; exact hx.comp ((Ext.drewN (just g) _ _).comp (Ext.setCell _ _ _ rfl))
      have hp2 : w2.cell? ⟨g, 1, none⟩ = some (.int .i64 ((p : Int) + n)) := by
        rw [← hw2]; exact World.cell?_setCell_same _ _ _ h2
      have htk : (r.take n).length = p + n - p := by rw [List.length_take, Hll.out]; omega
      have hrt : Rd w2 (cutAt a c p 1) (bs (r.take n)) := by
        have := (hr2.rd.cutAt c p 1 (fun e => by rw [bs_length]; omega)).take n
        rwa [Nat.mul_one, bs_drop, ← Hl.out, bs_take] at this
      have hs2 := hr2.sl
      have hS0 : (fun x : World => x.cell? ⟨g, 0, none⟩ = some (.slice a b.length c) ∧ x.cell? ⟨g, 1, none⟩ = some (.int .i64 ((p : Int) + n)) ∧ Rd x (cutAt a c p 1) (bs (r.take n))) w2.drew := ⟨hs2, hp2, hrt.drew⟩
      have Htk := Lib.hid htk
      clear hw2 hr hx htk h1 h2 hc hf1 hf2 h hb1 hrd
      --<A
      refine wp_region_E [3, 7, 13, 15] (fun x => x.cell? ⟨g, 0, none⟩ = some (.slice a b.length c) ∧ x.cell? ⟨g, 1, none⟩ = some (.int .i64 ((p : Int) + n)) ∧ Rd x (cutAt a c p 1) (bs (r.take n))) (by kernel_rfl) ?_
      refine wpE_take 0 (v := ?_) rfl (by kernel_rfl) (by kernel_rfl) (by kernel_rfl) (fun _ _ _ h => h) hS0 (by rfl) ?_ ?_
      rotate_left
      · (intro wq; go_simp; try with_reducible rfl)
      simp only [Act.put, List.setIfInBounds_toArray, List.set_cons_zero, List.set_cons_succ]
      refine wpE_take 1 (v := ?_) rfl (by kernel_rfl) (by kernel_rfl) (by kernel_rfl) (fun _ _ _ h => h) hS0 (by rfl) ?_ ?_
      rotate_left
      · (intro wq; go_simp; try with_reducible rfl)
      simp only [Act.put, List.setIfInBounds_toArray, List.set_cons_zero, List.set_cons_succ]
      refine wpE_take 2 (v := ?_) rfl (by kernel_rfl) (by kernel_rfl) (by kernel_rfl) (fun _ _ _ h => h) hS0 (by rfl) ?_ ?_
      rotate_left
      · (intro wq; go_simp; try with_reducible rfl)
      simp only [Act.put, List.setIfInBounds_toArray, List.set_cons_zero, List.set_cons_succ]
      refine wpE_look 3 (v := .slice a b.length c) rfl rfl (by kernel_rfl) (by kernel_rfl) (by kernel_rfl) (by kernel_rfl) (fun _ _ _ h => h) hS0 (by rfl) (fun w hS => by have hc := hS.1; go_simp) ?_
      simp only [Act.put, List.setIfInBounds_toArray, List.set_cons_zero, List.set_cons_succ]
      refine wpE_take 4 (v := ?_) rfl (by kernel_rfl) (by kernel_rfl) (by kernel_rfl) (fun _ _ _ h => h) hS0 (by rfl) ?_ ?_
      rotate_left
      · (intro wq; go_simp; try with_reducible rfl)
      simp only [Act.put, List.setIfInBounds_toArray, List.set_cons_zero, List.set_cons_succ]
      refine wpE_take 5 (v := ?_) rfl (by kernel_rfl) (by kernel_rfl) (by kernel_rfl) (fun _ _ _ h => h) hS0 (by rfl) ?_ ?_
      rotate_left
      · (intro wq; go_simp; try with_reducible rfl)
      simp only [Act.put, List.setIfInBounds_toArray, List.set_cons_zero, List.set_cons_succ]
      refine wpE_take 6 (v := ?_) rfl (by kernel_rfl) (by kernel_rfl) (by kernel_rfl) (fun _ _ _ h => h) hS0 (by rfl) ?_ ?_
      rotate_left
      · (intro wq; go_simp; try with_reducible rfl)
      simp only [Act.put, List.setIfInBounds_toArray, List.set_cons_zero, List.set_cons_succ]
      refine wpE_look 7 (v := .int .i64 ((p : Int) + n)) rfl rfl (by kernel_rfl) (by kernel_rfl) (by kernel_rfl) (by kernel_rfl) (fun _ _ _ h => h) hS0 (by rfl) (fun w hS => by have hc := hS.2.1; go_simp) ?_
      simp only [Act.put, List.setIfInBounds_toArray, List.set_cons_zero, List.set_cons_succ]
      refine wpE_take 8 (v := ?_) rfl (by kernel_rfl) (by kernel_rfl) (by kernel_rfl) (fun _ _ _ h => h) hS0 (by rfl) ?_ ?_
      rotate_left
      · (intro wq; go_simp; try with_reducible rfl)
      simp only [Act.put, List.setIfInBounds_toArray, List.set_cons_zero, List.set_cons_succ]
      refine wpE_take 9 (v := .int .i64 p) rfl (by kernel_rfl) (by kernel_rfl) (by kernel_rfl) (fun _ _ _ h => h) hS0 (by rfl) (by intro wq; go_simp; rw [IntKind.wrap_i64]; omega) ?_
      simp only [Act.put, List.setIfInBounds_toArray, List.set_cons_zero, List.set_cons_succ]
      refine wpE_take 10 (v := ?_) rfl (by kernel_rfl) (by kernel_rfl) (by kernel_rfl) (fun _ _ _ h => h) hS0 (by rfl) ?_ ?_
      rotate_left
      · (intro wq; go_simp; try with_reducible rfl)
      simp only [Act.put, List.setIfInBounds_toArray, List.set_cons_zero, List.set_cons_succ]
      refine wpE_take 11 (v := ?_) rfl (by kernel_rfl) (by kernel_rfl) (by kernel_rfl) (fun _ _ _ h => h) hS0 (by rfl) ?_ ?_
      rotate_left
      · (intro wq; go_simp; try with_reducible rfl)
      simp only [Act.put, List.setIfInBounds_toArray, List.set_cons_zero, List.set_cons_succ]
      refine wpE_take 12 (v := ?_) rfl (by kernel_rfl) (by kernel_rfl) (by kernel_rfl) (fun _ _ _ h => h) hS0 (by rfl) ?_ ?_
      rotate_left
      · (intro wq; go_simp; try with_reducible rfl)
      simp only [Act.put, List.setIfInBounds_toArray, List.set_cons_zero, List.set_cons_succ]
      refine wpE_look 13 (v := .int .i64 ((p : Int) + n)) rfl rfl (by kernel_rfl) (by kernel_rfl) (by kernel_rfl) (by kernel_rfl) (fun _ _ _ h => h) hS0 (by rfl) (fun w hS => by have hc := hS.2.1; go_simp) ?_
      simp only [Act.put, List.setIfInBounds_toArray, List.set_cons_zero, List.set_cons_succ]
      refine wpE_take 14 (v := .slice (cutAt a c p 1) (p + n - p) (c - p)) rfl (by kernel_rfl) (by kernel_rfl) (by kernel_rfl) (fun _ _ _ h => h) hS0 (by rfl) (fun _ => yields_cut_lh TBytes rfl rfl rfl rfl p (p + n) rfl (by omega) (by omega) (by omega)) ?_
      simp only [Act.put, List.setIfInBounds_toArray, List.set_cons_zero, List.set_cons_succ]
      refine wpE_look 15 rfl rfl (by kernel_rfl) (by kernel_rfl) (by kernel_rfl) (by kernel_rfl) (fun _ _ _ h => h) hS0 (by rfl) (fun w hS => yields_string (by exact Try.underlying40) (by exact Try.underlying5) (by exact Try.underlying9) rfl rfl (Htk.out.symm) (hS.2.2)) ?_
      simp only [Act.put, List.setIfInBounds_toArray, List.set_cons_zero, List.set_cons_succ]
      refine wpE_take 16 (v := ?_) rfl (by kernel_rfl) (by kernel_rfl) (by kernel_rfl) (fun _ _ _ h => h) hS0 (by rfl) ?_ ?_
      rotate_left
      · (intro wq; go_simp; try with_reducible rfl)
      simp only [Act.put, List.setIfInBounds_toArray, List.set_cons_zero, List.set_cons_succ]
      refine wpE_done (by kernel_rfl) ?_ _
      go_wp2_with fail
      go_ret
      rw [Hres.out]
      exact ⟨rfl, hr2.no (Ext.drew no _), hx2.comp (Ext.drew _ _)⟩
      -->A
    · have hb1 : decide ((b.length : Int) - p < n) = true := by rw [decide_eq_true_eq]; omega
      have Hres := Lib.hid (rText_cut H0.out Hlen.out (by omega))
      clear hnr hll
      go_upto_region 2 with fail
      go_quiet (fail)
      go_wp2_with fail
      go_ret
      rw [Hres.out]
      exact ⟨rfl, (hr.no (Ext.drewN no _ _)).setErr 8, hx.comp ((Ext.drewN (just g) _ _).comp (Ext.setCell _ _ _ rfl))⟩
  · have hc := hr.err
    have hb : ((k : Int) == 0) = false := by rw [beq_eq_false_iff_ne]; omega
    have Hres := Lib.hid (rText_err H0.out hlen)
    clear hk hlen
    go_upto_region 2 with fail
    go_quiet (fail)
    go_wp2_with fail
    go_ret
    rw [Hres.out]
    exact ⟨rfl, hr.no (Ext.drewN no _ _), hx.comp (Ext.drewN (just g) _ _)⟩
end Go.Proofs.Ytddobhihjljcgaa
