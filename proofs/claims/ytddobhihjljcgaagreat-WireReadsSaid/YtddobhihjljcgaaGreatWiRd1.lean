import Derived.Test.YtddobhihjljcgaaGreatCodeEI
import Derived.Test.YtddobhihjljcgaaGreatWiH
import Derived.Test.YtddobhihjljcgaaGreatOpR
import Derived.Test.YtddobhihjljcgaaGreatWiP
import Derived.Test.YtddobhihjljcgaaGreatWiI
/- Ints of a reader: the row that it hands back is within bounds. -/
namespace Go.Proofs.YtddobhihjljcgaaGreat
open Go.RowKit Go.Esc
set_option linter.unusedVariables false
/-- What a face that answers a list leaves. -/
def IntsEnd2 (s : RS) (w : World) (g : Nat) (d : Option Nat) (e : Ending) (w' : World) : Prop :=
 ∃ a c, e = .returned (.slice a (rInts s).1.length c) ∧ Rd w' a (is (rInts s).1) ∧ (∀ ad, a = some ad → w.heap.size ≤ ad.block) ∧ Rdr w' g d (rInts s).2.l (rInts s).2.e ∧ Ext (just g) w w' ∧ (rInts s).1.length ≤ c ∧ c ≤ maxLen
/-- The way out by a panic of the package, at the door. -/
theorem ints_door2 (w : World) (g : Nat) {d : Option Nat} (s : RS) (r : List UInt8) (k : Nat) (v : Value) (w1 : World) (tmps : Array Value) (htm : tmps[2]? = some (.pointer (some ⟨w.heap.size + 1, 0, none⟩))) (hg : g < w.heap.size) (hdlt : ∀ i, d = some i → i < w.heap.size)
  (hr : Rdr w1 g d r 0) (hx : Ext (just g) w w1) (hbox : w1.cell? ⟨w.heap.size, 0, none⟩ = some (.pointer (some ⟨g, 0, none⟩))) (hcell : w1.cell? ⟨w.heap.size + 1, 0, none⟩ = some v) (hfr : w1.frozen? ⟨w.heap.size + 1, 0, none⟩ = false) (hs : rInts s = ([], ⟨r, k⟩)) :
  Leaves Tryz.prog Tryz.f82 tmps (IntsEnd2 s w g d) [{ target := .fn (.func 99) #[.pointer (some ⟨w.heap.size + 1, 0, none⟩), .pointer (some ⟨w.heap.size, 0, none⟩)], args := #[] }]
   (.panicking [{ v := .iface 133 (.int .i64 k), recovered := false }]) w1 := by
 refine leaves_cons (f := 99) (args := #[.pointer (some ⟨w.heap.size + 1, 0, none⟩), .pointer (some ⟨w.heap.size, 0, none⟩)]) (by simp) (by simp [go_sem]) ?_
 refine (ints1_panicking w1 g w.heap.size (w.heap.size + 1) v r 0 k [] hr hbox hcell hfr (by omega) (by omega) (fun i hi => by have := hdlt i hi; omega)).mono ?_
 rintro e u' w2 ⟨rfl, rfl, hr2, hc2, hx2⟩
 refine ⟨.slice none 0 0, ?_, ?_⟩
 ·simp [results, Tryz.results82, go_sem, htm, hc2]
 ·refine ⟨none, 0, by rw [hs]; rfl, by rw [hs]; exact Rd.nil _ _, fun ad h => (by cases h), by rw [hs]; exact hr2, hx.trans hx2 ?_, by rw [hs]; exact Nat.le_refl 0, Nat.zero_le _⟩
  rintro i hi (rfl | rfl)
  ·rfl
  ·omega
/-- The way out with no panic. -/
theorem ints_out2 (w : World) (g : Nat) {d : Option Nat} (s : RS) (w3 : World) (a : Option Addr) (c : Nat) (tmps : Array Value) (htm : tmps[2]? = some (.pointer (some ⟨w.heap.size + 1, 0, none⟩)))
  (hr : Rdr w3 g d (rInts s).2.l (rInts s).2.e) (hx : Ext (just g) w w3) (hbox : w3.cell? ⟨w.heap.size, 0, none⟩ = some (.pointer (some ⟨g, 0, none⟩))) (hcell : w3.cell? ⟨w.heap.size + 1, 0, none⟩ = some (.slice a (rInts s).1.length c))
  (hrd : Rd w3 a (is (rInts s).1)) (hfr : ∀ ad, a = some ad → w.heap.size ≤ ad.block) (hlc : (rInts s).1.length ≤ c) (hcm : c ≤ maxLen) :
  Leaves Tryz.prog Tryz.f82 tmps (IntsEnd2 s w g d) [{ target := .fn (.func 99) #[.pointer (some ⟨w.heap.size + 1, 0, none⟩), .pointer (some ⟨w.heap.size, 0, none⟩)], args := #[] }]
   .returning w3 := by
 refine leaves_cons (f := 99) (args := #[.pointer (some ⟨w.heap.size + 1, 0, none⟩), .pointer (some ⟨w.heap.size, 0, none⟩)]) (by simp) (by simp [go_sem]) ?_
 refine (ints1_returning w3 w.heap.size (w.heap.size + 1) _ hbox).mono ?_
 rintro e u' w2 ⟨rfl, rfl, rfl⟩
 refine ⟨.slice a (rInts s).1.length c, ?_, ?_⟩
 ·simp [results, Tryz.results82, go_sem, htm, hcell]
 ·exact ⟨a, c, rfl, hrd, hfr, hr, hx, hlc, hcm⟩
set_option maxHeartbeats 2000000 in
theorem rdInts_any2 (w : World) (g : Nat) {d : Option Nat} (s : RS) (h : Rdr w g d s.l s.e) :
  Calls Tryz.prog 82 #[.pointer (some ⟨g, 0, none⟩)] w (IntsEnd2 s w g d) := by
 have hmf := mkFunc
 have hx0 : Ext (just g) w ((w.alloc (.cells #[.pointer (some ⟨g, 0, none⟩)] 77)).alloc (.cells #[.slice none 0 0] 30)) := (Ext.alloc _ _ _).comp (Ext.alloc _ _ _)
 have h1 := (h.no (Ext.alloc no w (.cells #[.pointer (some ⟨g, 0, none⟩)] 77))).no (Ext.alloc no _ (.cells #[.slice none 0 0] 30))
 have hg := h.lt
 have hc := h1.err
 have hdlt : ∀ i, d = some i → i < w.heap.size := fun i hi => (h.sep i hi).2
 by_cases h0 : s.e = 0
 ·rw [h0] at h1 hc
  have H0 := Lib.hid h0
  clear h0
  go_enter_defers Tryz.func82, Tryz.ntmps82
  go_wp2_with fail
  refine (size_any _ g s.l 0 h1).mono ?_
  rintro e w1 ⟨r, hr1, hx1, ⟨n, hn, hlen, rfl⟩ | ⟨k, hlen, rfl⟩⟩
  ·have Hlen := Lib.hid hlen
   clear hlen
   have hx01 := hx0.comp hx1
   have hsz1 := hx1.size
   simp only [World.size_alloc] at hsz1
   have hinv : IntsInv w g d n r 0 [] r none 0 w1 := ⟨rfl, by rw [Nat.sub_zero], hr1, hx1.keeps (by simp) (by simp only [Esc.just]; omega),
    by rw [hx1.frozen (p := ⟨w.heap.size + 1, 0, none⟩) (by simp) (by simp only [Esc.just]; omega)]; simp, hx1.keeps (by rw [World.cell?_alloc_past _ _ _ (by simp)]; simp) (by simp only [Esc.just]; omega), Own.nil _ _ _, hx01, by omega⟩
   go_wp2_with fail
   go_loopw [11] (fun s11 wr => ∃ (k : Nat) (acc : List Int) (l' : List UInt8) (a : Option Addr) (c : Nat), k ≤ n ∧ s11 = .int .i64 k ∧ IntsInv w g d n r k acc l' a c wr) (fun s11 _ => n - (intOf s11).toNat)
   case atStart => exact ⟨0, [], r, none, 0, Nat.zero_le _, rfl, hinv⟩
   case round =>
    clear hinv hx01 hx1 hsz1 hr1 hx0 h1 hc
    obtain ⟨k, acc, l', a, c, hk, rfl, hi⟩ := hrel
    have hcell := hi.cell
    have hfr := hi.fr
    have hbox := hi.box
    by_cases hlt : k < n
    ·go_upto_region 5 with fail
     refine wp_region_lin (by kernel_rfl) [[0, 1, 2, 3, 4, 5], [1, 0, 2, 3, 4, 5], [1, 2, 0, 3, 4, 5], [1, 2, 3, 0, 4, 5]] (by kernel_rfl) ?_
     intro js hjs
     simp only [List.mem_cons, List.not_mem_nil, or_false] at hjs
     rcases hjs with rfl | rfl | rfl | rfl
     all_goals
      simp only [picked, opAt]
      go_wp2_with fail
      refine (number_any _ g l' 0 (hi.rdr.no (Ext.drew no _))).mono ?_
      rintro e w1 ⟨r', hr1, hx1, ⟨u, hsc, rfl⟩ | ⟨q, hsc, rfl⟩⟩
      ·have Hsc := Lib.hid hsc
       have hx1' := (Ext.drew (just g) wr).comp hx1
       have hcell1 := hx1'.keeps hcell (by simp only [Esc.just]; omega)
       have hfr1 : w1.frozen? ⟨w.heap.size + 1, 0, none⟩ = false := by
        rw [hx1'.frozen (p := ⟨w.heap.size + 1, 0, none⟩) (World.block_lt_of_cell? _ _ hcell) (by simp only [Esc.just]; omega)]; exact hfr
       have hbox1 := hx1'.keeps hbox (by simp only [Esc.just]; omega)
       have hown1 := hi.own.ext hx1' (fun ad ha hh => by have h1 := (hi.own.base ad ha).1; have h2 : ad.block = g := hh; omega)
       have hsz1 : w.heap.size + 2 ≤ w1.heap.size := Nat.le_trans hi.size hx1'.size
       have hlen := hi.len
       have hnums := hi.nums
       have hext1 := hi.ext.comp hx1'
       rw [rNums_step hlt hsc] at hnums
       have Hnums := Lib.hid hnums
       have Hlen := Lib.hid hlen
       clear hsc hi hcell hfr hbox hx1 hx1' hnums hlen
       have hrd := Rd.one w1 (.int .i64 (sgn u)) 3 (0, 0)
       have hsz2 : w.heap.size + 1 < w1.heap.size := by omega
       go_wp2_with (at_builtin; refine wpList_append TInts rfl rfl rfl (hown1.alloc _) rfl hrd (by simp) ?_ ?_ ?_ ?_ ?_)
       case refine_1 => intro v hv; simp at hv; subst hv; rfl
       case refine_2 => unfold maxLen; omega
       case refine_3 => omega
       case refine_4 => simp; omega
       case refine_5 =>
        intro a2 c2 w2 happ
        have hst := IntsInv.step w g d n r k acc r' a c w1 w2 u a2 c2 3 hg hdlt Hlen.out Hnums.out hr1 hcell1 hfr1 hbox1 hown1 hext1 hsz1 happ
        have hc2 : ∃ v, w2.cell? ⟨w.heap.size + 1, 0, none⟩ = some v := ⟨_, hst.2.1⟩
        obtain ⟨v2, hc2⟩ := hc2
        have hf2 := hst.2.2
        have hst := hst.1
        clear happ hcell1 hfr1 hbox1 hown1 hrd hext1
        go_wp2_with fail
        go_roundw
        case rel => exact ⟨k + 1, acc ++ [sgn u], r', a2, c2, by omega, by go_num, hst⟩
        case measure => simp [intOf]; omega
      ·have hx1' := (Ext.drew (just g) wr).comp hx1
       have hnums := hi.nums
       rw [rNums_stop hlt hsc] at hnums
       have hext1 := hi.ext.comp hx1'
       have hcell1 := hx1'.keeps hcell (by simp only [Esc.just]; omega)
       have hfr1 : w1.frozen? ⟨w.heap.size + 1, 0, none⟩ = false := by
        rw [hx1'.frozen (p := ⟨w.heap.size + 1, 0, none⟩) (World.block_lt_of_cell? _ _ hcell) (by simp only [Esc.just]; omega)]; exact hfr
       have hbox1 := hx1'.keeps hbox (by simp only [Esc.just]; omega)
       have hsr := rInts_bad H0.out Hlen.out hnums
       have Hsr := Lib.hid hsr
       clear hsc hi hcell hfr hbox hx1 hx1' hnums hsr
       go_wp2_with fail
       exact ints_door2 w g s r' q _ w1 _ rfl hg hdlt hr1 hext1 hbox1 hcell1 hfr1 Hsr.out
    ·obtain rfl : k = n := by omega
     go_wp2_with fail
     have hnums := hi.nums
     rw [Nat.sub_self] at hnums
     have hres := rInts_ok H0.out Hlen.out (show rNums k [] r = (.inr acc, l') from hnums)
     have hxs : Ext (just (w.heap.size + 1)) wr (wr.setCell ⟨w.heap.size + 1, 0, none⟩ (.slice a k c)) := Ext.setCell _ _ _ rfl
     exact ints_out2 w g s _ a c _ rfl (by rw [hres]; exact hi.rdr.ext hxs (fun h => by simp only [Esc.just] at h; omega) (fun i hi h => by have := hdlt i hi; simp only [Esc.just] at h; omega)) (hi.ext.trans hxs (fun i hi h => by simp only [Esc.just] at h; omega))
      (hxs.keeps hbox (fun h => by simp only [Esc.just] at h; omega)) (by rw [hres]; simp only [hi.len]; exact World.cell?_setCell_same _ _ _ hcell) (by rw [hres]; have := hi.own.ext hxs (fun ad ha h => by have := (hi.own.base ad ha).1; simp only [Esc.just] at h; omega); exact this.rd) (fun ad ha => by have := (hi.own.base ad ha).1; omega) (by rw [hres]; have := hi.own.nc; have := hi.len; simp only; omega) hi.own.cm
  ·have Hlen := Lib.hid hlen
   clear hlen
   go_wp2_with fail
   exact ints_door2 w g s r k (.slice none 0 0) w1 _ rfl hg hdlt hr1 (hx0.comp hx1) (hx1.keeps (by rw [World.cell?_alloc_past _ _ _ (by simp)]; simp) (by simp only [Esc.just]; omega)) (hx1.keeps (by simp) (by simp only [Esc.just]; omega)) (by rw [hx1.frozen (p := ⟨w.heap.size + 1, 0, none⟩) (by simp) (by simp only [Esc.just]; omega)]; simp) (rInts_err H0.out Hlen.out)
 ·have hb : (s.e == 0) = false := by rw [beq_eq_false_iff_ne]; exact h0
  have H0 := Lib.hid h0
  clear h0
  go_enter_defers Tryz.func82, Tryz.ntmps82
  go_wp2_with fail
  refine ints_out2 w g s _ none 0 _ rfl (by rw [rInts_skip H0.out]; exact h1) hx0 (by rw [World.cell?_alloc_past _ _ _ (by simp)]; simp) (by rw [rInts_skip H0.out]; simp) (by rw [rInts_skip H0.out]; exact Rd.nil _ _) (fun ad h => by cases h) (by rw [rInts_skip H0.out]; exact Nat.le_refl 0) (Nat.zero_le _)
end Go.Proofs.YtddobhihjljcgaaGreat
/- The reader of wire: its state; size, err. -/
namespace Go.Proofs.YtddobhihjljcgaaGreat
open Go.RowKit Go.Esc
set_option linter.unusedVariables false
set_option linter.unusedSimpArgs false
/-- A reader of wire lies in block R, its code.Reader in block g, its bytes in d: this state; this error of operations. -/
structure WR (w : World) (R g : Nat) (d : Option Nat) (s : RS) (x : Int) : Prop where
 rd : Rdr w g d s.l s.e
 p : w.cell? ⟨R, 0, none⟩ = some (.pointer (some ⟨g, 0, none⟩))
 e : w.cell? ⟨R, 1, none⟩ = some (.int .i64 x)
 fr : w.frozen? ⟨R, 1, none⟩ = false
 ne : R ≠ g
 nd : ∀ i, d = some i → i ≠ R
theorem WR.lt {w : World} {R g : Nat} {d : Option Nat} {s : RS} {x : Int} (h : WR w R g d s x) : R < w.heap.size := World.block_lt_of_cell? w _ h.e
theorem WR.glt {w : World} {R g : Nat} {d : Option Nat} {s : RS} {x : Int} (h : WR w R g d s x) : g < w.heap.size := h.rd.lt
theorem WR.dlt {w : World} {R g : Nat} {d : Option Nat} {s : RS} {x : Int} (h : WR w R g d s x) : ∀ i, d = some i → i < w.heap.size := fun i hi => (h.rd.sep i hi).2
/-- What is written elsewhere leaves it. -/
theorem WR.aside {S : Nat → Prop} {w w' : World} {R g : Nat} {d : Option Nat} {s : RS} {x : Int} (h : WR w R g d s x) (hx : Ext S w w') (hR : ¬ S R) (hg : ¬ S g) (hd : ∀ i, d = some i → ¬ S i) : WR w' R g d s x :=
 ⟨h.rd.ext hx hg hd, hx.keeps h.p hR, hx.keeps h.e hR, by rw [hx.frozen (p := ⟨R, 1, none⟩) h.lt hR]; exact h.fr, h.ne, h.nd⟩
theorem WR.no {w w' : World} {R g : Nat} {d : Option Nat} {s : RS} {x : Int} (h : WR w R g d s x) (hx : Ext no w w') : WR w' R g d s x := h.aside hx (fun h => h) (fun h => h) (fun _ _ h => h)
theorem WR.new {w w' : World} {R g r : Nat} {d : Option Nat} {s : RS} {x : Int} (h : WR w R g d s x) (hx : Ext (just r) w w') (hr : R ≠ r ∧ g ≠ r) (hd : ∀ i, d = some i → i ≠ r) : WR w' R g d s x :=
 h.aside hx (fun e => hr.1 e) (fun e => hr.2 e) (fun i hi e => hd i hi e)
/-- The inner reader read on. -/
theorem WR.step {w w' : World} {R g : Nat} {d : Option Nat} {s t : RS} {x : Int} (h : WR w R g d s x) (hr : Rdr w' g d t.l t.e) (hx : Ext (just g) w w') : WR w' R g d t x :=
 ⟨hr, hx.keeps h.p (fun e => h.ne e), hx.keeps h.e (fun e => h.ne e), by rw [hx.frozen (p := ⟨R, 1, none⟩) h.lt (fun e => h.ne e)]; exact h.fr, h.ne, h.nd⟩
/-- The error of operations is turned. -/
theorem WR.put {w : World} {R g : Nat} {d : Option Nat} {s : RS} {x : Int} (h : WR w R g d s x) (y : Int) : WR (w.setCell ⟨R, 1, none⟩ (.int .i64 y)) R g d s y := by
 have hx : Ext (just R) w (w.setCell ⟨R, 1, none⟩ (.int .i64 y)) := Ext.setCell _ _ _ rfl
 refine ⟨h.rd.ext hx (fun e => h.ne e.symm) (fun i hi e => h.nd i hi e), ?_, World.cell?_setCell_same _ _ _ h.e, ?_, h.ne, h.nd⟩
 ·rw [World.cell?_setCell_other _ _ _ _ (by simp)]; exact h.p
 ·have := World.frozen?_setCells R [.int .i64 y] 1 w ⟨R, 1, none⟩
  exact this.trans h.fr
/-- The blocks that a reader's calls write. -/
def rg (R g k : Nat) : Prop := k = R ∨ k = g
theorem Ext.rg {w w' : World} {R g : Nat} (h : Ext (just g) w w') : Ext (rg R g) w w' := h.mono (fun _ _ e => .inr e)
set_option maxRecDepth 100000 in
set_option maxHeartbeats 4000000 in
theorem rsize_any (w : World) (R g : Nat) {d : Option Nat} (s : RS) (x most : Int) (h0 : 0 ≤ most) (h1 : most ≤ 1000) (h : WR w R g d s x) :
  Calls Tryz.prog 80 #[.pointer (some ⟨R, 0, none⟩), .int .i64 most] w fun e w' => e = .returned (.int .i64 ((pSize most s).1 : Nat)) ∧ WR w' R g d (pSize most s).2 x ∧ Ext (just g) w w' := by
 have hp := h.p
 go_enter Tryz.func80, Tryz.ntmps80
 go_wp2_with fail
 refine (rdInt_any w g s h.rd).mono ?_
 rintro e w1 ⟨rfl, hr, hx⟩
 replace h := h.step hr hx
 clear hr hp
 have hp := h.p
 obtain ⟨n, hn⟩ : ∃ n, n = (rInt s).1 := ⟨_, rfl⟩
 obtain ⟨t, ht⟩ : ∃ t, t = (rInt s).2 := ⟨_, rfl⟩
 rw [← ht] at h
 rw [← hn]
 have HQ := Lib.hid (show pSize most s = if n < 0 ∨ most < n then (0, rFail t 4) else (n.toNat, t) by unfold pSize; rw [← hn, ← ht])
 clear hn ht
 by_cases c0 : n < 0
 ·have d0 : decide (n < 0) = true := decT c0
  have HR := Lib.hid (show pSize most s = (0, rFail t 4) by rw [HQ.out, if_pos (.inl c0)])
  clear c0 HQ
  go_wp2_with fail
  refine (fail_any w1 g t.l t.e 4 h.rd).mono ?_
  rintro e w2 ⟨rfl, hr', hx'⟩
  have h : WR w2 R g d (rFail t 4) x := h.step (by rw [(rFail_l t 4).1, (rFail_l t 4).2]; exact hr') hx'
  replace hx := hx.comp hx'
  clear hr' hx'
  go_wp2_with fail
  go_ret
  exact ⟨by rw [HR.out]; rfl, by rw [HR.out]; exact h, hx⟩
 ·have d0 : decide (n < 0) = false := decF c0
  by_cases c1 : most < n
  ·have d1 : decide (most < n) = true := decT c1
   have HR := Lib.hid (show pSize most s = (0, rFail t 4) by rw [HQ.out, if_pos (.inr c1)])
   clear c0 c1 HQ
   go_wp2_with fail
   refine (fail_any w1 g t.l t.e 4 h.rd).mono ?_
   rintro e w2 ⟨rfl, hr', hx'⟩
   have h : WR w2 R g d (rFail t 4) x := h.step (by rw [(rFail_l t 4).1, (rFail_l t 4).2]; exact hr') hx'
   replace hx := hx.comp hx'
   clear hr' hx'
   go_wp2_with fail
   go_ret
   exact ⟨by rw [HR.out]; rfl, by rw [HR.out]; exact h, hx⟩
  ·have d1 : decide (most < n) = false := decF c1
   have HR := Lib.hid (show pSize most s = (n.toNat, t) by rw [HQ.out, if_neg (by omega)])
   have HN := Lib.hid (show ((n.toNat : Nat) : Int) = n by omega)
   clear c0 c1 HQ
   go_wp2_with fail
   go_ret
   exact ⟨by rw [HR.out, HN.out]; rfl, by rw [HR.out]; exact h, hx⟩
set_option maxRecDepth 100000 in
set_option maxHeartbeats 4000000 in
theorem rerr_any (w : World) (R g : Nat) {d : Option Nat} (s : RS) (x : Int) (h : WR w R g d s x) :
  Calls Tryz.prog 64 #[.pointer (some ⟨R, 0, none⟩)] w fun e w' => e = .returned (.int .i64 (pErr s).1) ∧ WR w' R g d (pErr s).2 x ∧ Ext (just g) w w' := by
 have hp := h.p
 go_enter Tryz.func64, Tryz.ntmps64
 go_wp2_with fail
 refine (rdInt_any w g s h.rd).mono ?_
 rintro e w1 ⟨rfl, hr, hx⟩
 replace h := h.step hr hx
 clear hr hp
 have hp := h.p
 obtain ⟨n, hn⟩ : ∃ n, n = (rInt s).1 := ⟨_, rfl⟩
 obtain ⟨t, ht⟩ : ∃ t, t = (rInt s).2 := ⟨_, rfl⟩
 rw [← ht] at h
 rw [← hn]
 have HQ := Lib.hid (show pErr s = (n, if n < 0 ∨ 22 < n then rFail t 10 else t) by unfold pErr; rw [← hn, ← ht])
 clear hn ht
 by_cases c0 : n < 0
 ·have d0 : decide (n < 0) = true := decT c0
  have HR := Lib.hid (show pErr s = (n, rFail t 10) by rw [HQ.out, if_pos (.inl c0)])
  clear c0 HQ
  go_wp2_with fail
  refine (fail_any w1 g t.l t.e 10 h.rd).mono ?_
  rintro e w2 ⟨rfl, hr', hx'⟩
  have h : WR w2 R g d (rFail t 10) x := h.step (by rw [(rFail_l t 10).1, (rFail_l t 10).2]; exact hr') hx'
  replace hx := hx.comp hx'
  clear hr' hx'
  go_wp2_with fail
  go_ret
  exact ⟨by rw [HR.out]; rfl, by rw [HR.out]; exact h, hx⟩
 ·have d0 : decide (n < 0) = false := decF c0
  by_cases c1 : 22 < n
  ·have d1 : decide (22 < n) = true := decT c1
   have HR := Lib.hid (show pErr s = (n, rFail t 10) by rw [HQ.out, if_pos (.inr c1)])
   clear c0 c1 HQ
   go_wp2_with fail
   refine (fail_any w1 g t.l t.e 10 h.rd).mono ?_
   rintro e w2 ⟨rfl, hr', hx'⟩
   have h : WR w2 R g d (rFail t 10) x := h.step (by rw [(rFail_l t 10).1, (rFail_l t 10).2]; exact hr') hx'
   replace hx := hx.comp hx'
   clear hr' hx'
   go_wp2_with fail
   go_ret
   exact ⟨by rw [HR.out]; rfl, by rw [HR.out]; exact h, hx⟩
  ·have d1 : decide (22 < n) = false := decF c1
   have HR := Lib.hid (show pErr s = (n, t) by rw [HQ.out, if_neg (by omega)])
   clear c0 c1 HQ
   go_wp2_with fail
   go_ret
   exact ⟨by rw [HR.out]; rfl, by rw [HR.out]; exact h, hx⟩
end Go.Proofs.YtddobhihjljcgaaGreat
/- The reader of wire: an operation. -/
namespace Go.Proofs.YtddobhihjljcgaaGreat
open Go.RowKit Go.Esc
set_option linter.unusedVariables false
set_option linter.unusedSimpArgs false
/-- What is wrong with the operations so far. -/
def opErr (x : Int) (o : OpR) : Int := if x = 0 then (checkOp o : Int) else x
theorem pSize_le {m : Int} (h : 0 ≤ m) (s : RS) : ((pSize m s).1 : Int) ≤ m := by
 unfold pSize
 split
 ·simpa using h
 ·rename_i q; simp only; omega
theorem wOp_eq {s u t : RS} {O : OpR} {n : Int} (h : pHead s = (O, n, t)) (hu : rInt u = (n, t)) :
  wOp s = ({ O with dots := (pAll (pSize 8 u).1 (pSize 8 u).2).1 }, (pAll (pSize 8 u).1 (pSize 8 u).2).2) := by
 unfold wOp
 rw [h]
 unfold pSize
 rw [hu]
 simp only
 by_cases q : pBad n
 ·have q2 : n < 0 ∨ 8 < n := q
  rw [if_pos q, if_pos q, if_pos q2]
 ·have q2 : ¬ (n < 0 ∨ 8 < n) := q
  rw [if_neg q, if_neg q, if_neg q2]
theorem op_result {fn : Func} {p : Tmp} (hf : fn.results = #[.cell p 62]) (tmps : Array Value) (w : World) {q : Nat} {o : OpR} {a : Option Addr} {c : Nat} (h1 : tmps.getD p undef = .pointer (some ⟨q, 0, none⟩)) (hC : Blk w q (o.cells a c)) :
  (results fn tmps).run Tryz.prog w = .ok (o.v a c) w := by
 rw [results_cell1 hf, h1]
 have := run_loadVar_mid (P := Tryz.prog) w q 0 62 (o.cells a c) _ hC.range Tryz.underlying62 rfl (by kernel_rfl)
 simp only [asAddr, Sem.run_pure, Result.andThen_ok, this]
 rfl
set_option maxRecDepth 100000 in
set_option maxHeartbeats 16000000 in
theorem rop_any (w : World) (R g : Nat) {d : Option Nat} (s0 : RS) (x : Int) (h : WR w R g d s0 x) :
  Calls Tryz.prog 83 #[.pointer (some ⟨R, 0, none⟩)] w fun e w' => ∃ a c, e = .returned ((wOp s0).1.v a c) ∧ Rd w' a (ds (wOp s0).1.dots) ∧ (wOp s0).1.dots.length ≤ c ∧ c ≤ maxLen ∧ (∀ ad, a = some ad → w.heap.size ≤ ad.block) ∧ WR w' R g d (wOp s0).2 (opErr x (wOp s0).1) ∧ Ext (rg R g) w w' := by
 have hRw := h.lt
 have hgw := h.glt
 have hdw := h.dlt
 have hRg := h.ne
 go_enter Tryz.func83, Tryz.ntmps83
 have mk := mkFunc
 go_upto_region 1 with fail
 have hz := Blk.lit w #[.int .i64 0, .int .i64 0, .int .i64 0, .int .i64 0, .int .i64 0, .int .i64 0, .string { data := #[] }, .string { data := #[] }, .int .i64 0, .int .i64 0, .slice none 0 0] 62
 have hx0 := Ext.alloc no w (.cells #[.int .i64 0, .int .i64 0, .int .i64 0, .int .i64 0, .int .i64 0, .int .i64 0, .string { data := #[] }, .string { data := #[] }, .int .i64 0, .int .i64 0, .slice none 0 0] 62)
 have h := h.no hx0
 have hx : Ext (rg R g) w (w.alloc (.cells #[.int .i64 0, .int .i64 0, .int .i64 0, .int .i64 0, .int .i64 0, .int .i64 0, .string { data := #[] }, .string { data := #[] }, .int .i64 0, .int .i64 0, .slice none 0 0] 62)) := hx0.mono (fun _ _ e => e.elim)
 clear hx0
 generalize w.alloc (.cells #[.int .i64 0, .int .i64 0, .int .i64 0, .int .i64 0, .int .i64 0, .int .i64 0, .string { data := #[] }, .string { data := #[] }, .int .i64 0, .int .i64 0, .slice none 0 0] 62) = v0 at *
 obtain ⟨q, hq⟩ : ∃ q, q = w.heap.size := ⟨_, rfl⟩
 have hwq : w.heap.size ≤ q := by omega
 rw [← hq] at hz ⊢
 clear hq
 have hp := h.p
 go_wp2_with fail
 refine (rdInt_any v0 g s0 h.rd).mono ?_
 rintro e v1 ⟨rfl, hr', hx'⟩
 have hz := hz.ext (by simp) hx' (by simp only [Esc.just]; omega)
 obtain ⟨i1, hn⟩ : ∃ n, n = (rInt s0).1 := ⟨_, rfl⟩
 obtain ⟨s1, hs''⟩ : ∃ q, q = (rInt s0).2 := ⟨_, rfl⟩
 rw [← hs''] at hr'
 rw [← hn]
 have HNi1 := Lib.hid hn
 have HS1 := Lib.hid hs''
 replace h : WR v1 R g d s1 x := h.step hr' hx'
 replace hx := hx.comp (Ext.rg hx')
 clear hn hs'' hr' hx' hp
 have hp := h.p
 go_wp2_with fail
 refine (rdInt_any v1 g s1 h.rd).mono ?_
 rintro e v2 ⟨rfl, hr', hx'⟩
 have hz := hz.ext (by simp) hx' (by simp only [Esc.just]; omega)
 obtain ⟨i2, hn⟩ : ∃ n, n = (rInt s1).1 := ⟨_, rfl⟩
 obtain ⟨s2, hs''⟩ : ∃ q, q = (rInt s1).2 := ⟨_, rfl⟩
 rw [← hs''] at hr'
 rw [← hn]
 have HNi2 := Lib.hid hn
 have HS2 := Lib.hid hs''
 replace h : WR v2 R g d s2 x := h.step hr' hx'
 replace hx := hx.comp (Ext.rg hx')
 clear hn hs'' hr' hx' hp
 have hp := h.p
 go_wp2_with fail
 refine (rdInt_any v2 g s2 h.rd).mono ?_
 rintro e v3 ⟨rfl, hr', hx'⟩
 have hz := hz.ext (by simp) hx' (by simp only [Esc.just]; omega)
 obtain ⟨i3, hn⟩ : ∃ n, n = (rInt s2).1 := ⟨_, rfl⟩
 obtain ⟨s3, hs''⟩ : ∃ q, q = (rInt s2).2 := ⟨_, rfl⟩
 rw [← hs''] at hr'
 rw [← hn]
 have HNi3 := Lib.hid hn
 have HS3 := Lib.hid hs''
 replace h : WR v3 R g d s3 x := h.step hr' hx'
 replace hx := hx.comp (Ext.rg hx')
 clear hn hs'' hr' hx' hp
 have hp := h.p
 go_wp2_with fail
 refine (rdInt_any v3 g s3 h.rd).mono ?_
 rintro e v4 ⟨rfl, hr', hx'⟩
 have hz := hz.ext (by simp) hx' (by simp only [Esc.just]; omega)
 obtain ⟨c1, hn⟩ : ∃ n, n = (rInt s3).1 := ⟨_, rfl⟩
 obtain ⟨s4, hs''⟩ : ∃ q, q = (rInt s3).2 := ⟨_, rfl⟩
 rw [← hs''] at hr'
 rw [← hn]
 have HNc1 := Lib.hid hn
 have HS4 := Lib.hid hs''
 replace h : WR v4 R g d s4 x := h.step hr' hx'
 replace hx := hx.comp (Ext.rg hx')
 clear hn hs'' hr' hx' hp
 have hp := h.p
 go_wp2_with fail
 refine (rdInt_any v4 g s4 h.rd).mono ?_
 rintro e v5 ⟨rfl, hr', hx'⟩
 have hz := hz.ext (by simp) hx' (by simp only [Esc.just]; omega)
 obtain ⟨c2, hn⟩ : ∃ n, n = (rInt s4).1 := ⟨_, rfl⟩
 obtain ⟨s5, hs''⟩ : ∃ q, q = (rInt s4).2 := ⟨_, rfl⟩
 rw [← hs''] at hr'
 rw [← hn]
 have HNc2 := Lib.hid hn
 have HS5 := Lib.hid hs''
 replace h : WR v5 R g d s5 x := h.step hr' hx'
 replace hx := hx.comp (Ext.rg hx')
 clear hn hs'' hr' hx' hp
 have hp := h.p
 go_wp2_with fail
 refine (rdInt_any v5 g s5 h.rd).mono ?_
 rintro e v6 ⟨rfl, hr', hx'⟩
 have hz := hz.ext (by simp) hx' (by simp only [Esc.just]; omega)
 obtain ⟨c3, hn⟩ : ∃ n, n = (rInt s5).1 := ⟨_, rfl⟩
 obtain ⟨s6, hs''⟩ : ∃ q, q = (rInt s5).2 := ⟨_, rfl⟩
 rw [← hs''] at hr'
 rw [← hn]
 have HNc3 := Lib.hid hn
 have HS6 := Lib.hid hs''
 replace h : WR v6 R g d s6 x := h.step hr' hx'
 replace hx := hx.comp (Ext.rg hx')
 clear hn hs'' hr' hx' hp
 have hp := h.p
 go_wp2_with fail
 refine (rdInt_any v6 g s6 h.rd).mono ?_
 rintro e v7 ⟨rfl, hr', hx'⟩
 have hz := hz.ext (by simp) hx' (by simp only [Esc.just]; omega)
 obtain ⟨c4, hn⟩ : ∃ n, n = (rInt s6).1 := ⟨_, rfl⟩
 obtain ⟨s7, hs''⟩ : ∃ q, q = (rInt s6).2 := ⟨_, rfl⟩
 rw [← hs''] at hr'
 rw [← hn]
 have HNc4 := Lib.hid hn
 have HS7 := Lib.hid hs''
 replace h : WR v7 R g d s7 x := h.step hr' hx'
 replace hx := hx.comp (Ext.rg hx')
 clear hn hs'' hr' hx' hp
 have hp := h.p
 go_upto_region 3 with fail
 have hb : Blk (v7.alloc (.cells #[.int .i64 i1, .int .i64 i2, .int .i64 i3, .int .i64 c1, .int .i64 c2, .int .i64 c3, .string { data := #[] }, .string { data := #[] }, .int .i64 0, .int .i64 c4, .slice none 0 0] 62)) v7.heap.size [.int .i64 i1, .int .i64 i2, .int .i64 i3, .int .i64 c1, .int .i64 c2, .int .i64 c3, .string { data := #[] }, .string { data := #[] }, .int .i64 0, .int .i64 c4, .slice none 0 0] := Blk.lit v7 #[.int .i64 i1, .int .i64 i2, .int .i64 i3, .int .i64 c1, .int .i64 c2, .int .i64 c3, .string { data := #[] }, .string { data := #[] }, .int .i64 0, .int .i64 c4, .slice none 0 0] 62
 have hx3 := Ext.alloc no v7 (.cells #[.int .i64 i1, .int .i64 i2, .int .i64 i3, .int .i64 c1, .int .i64 c2, .int .i64 c3, .string { data := #[] }, .string { data := #[] }, .int .i64 0, .int .i64 c4, .slice none 0 0] 62)
 have hqv := hz.lt (by simp)
 have hsv := hx.size
 have h := h.no hx3
 have hz := hz.ext (by simp) hx3 (fun h => h)
 replace hx := hx.comp (hx3.mono (S' := rg R g) (fun _ _ e => e.elim))
 generalize v7.alloc (.cells #[.int .i64 i1, .int .i64 i2, .int .i64 i3, .int .i64 c1, .int .i64 c2, .int .i64 c3, .string { data := #[] }, .string { data := #[] }, .int .i64 0, .int .i64 c4, .slice none 0 0] 62) = u7 at *
 clear hx3 hp
 obtain ⟨r, hr⟩ : ∃ r, r = v7.heap.size := ⟨_, rfl⟩
 rw [← hr] at hb ⊢
 have hqr : q < r := by omega
 have hwr : w.heap.size ≤ r := by omega
 have hdr : ∀ i, d = some i → i ≠ r := fun i hi => by have := hdw i hi; omega
 have hdq : ∀ i, d = some i → i ≠ q := fun i hi => by have := hdw i hi; omega
 clear hr hqv hsv
 have hp := h.p
 have e6 := hb.cell 6 _ rfl
 have f6 := hb.fr 6
 have e7 := hb.cell 7 _ rfl
 have f7 := hb.fr 7
 refine wp_region_F [3, 8] (looks [(3, fun z => z.cell? ⟨R, 0, none⟩ = some (.pointer (some ⟨g, 0, none⟩))), (8, fun z => z.cell? ⟨R, 0, none⟩ = some (.pointer (some ⟨g, 0, none⟩)))]) (by kernel_rfl) ?_
 have hxd := Ext.drew no u7
 have h := h.no hxd
 have hz := hz.ext (by simp) hxd (fun h => h)
 have hb := hb.ext (by simp) hxd (fun h => h)
 replace hx := hx.comp (hxd.mono (S' := rg R g) (fun _ _ e => e.elim))
 clear hp e6 e7 f6 f7 hxd
 generalize u7.drew = wd at *
 have hp := h.p
 have hT0 : ∀ k, looks [(3, fun z => z.cell? ⟨R, 0, none⟩ = some (.pointer (some ⟨g, 0, none⟩))), (8, fun z => z.cell? ⟨R, 0, none⟩ = some (.pointer (some ⟨g, 0, none⟩)))] k (wd) := looks_all ⟨hp, hp, trivial⟩
 refine wpF_tk 0 (v := ?_) rfl hT0 (by rfl) ?_ ?_
 rotate_left
 ·(intro wq; go_simp; try with_reducible rfl)
 simp only [pz]
 refine wpF_tk 1 (v := ?_) rfl hT0 (by rfl) ?_ ?_
 rotate_left
 ·(intro wq; go_simp; try with_reducible rfl)
 simp only [pz]
 refine wpF_tk 2 (v := ?_) rfl hT0 (by rfl) ?_ ?_
 rotate_left
 ·(intro wq; go_simp; try with_reducible rfl)
 simp only [pz]
 refine wpF_lk 3 (v := .pointer (some ⟨g, 0, none⟩)) rfl hT0 (by rfl) (fun w hS => by have hS : w.cell? ⟨R, 0, none⟩ = some (.pointer (some ⟨g, 0, none⟩)) := hS; go_simp) ?_
 simp only [pz]
 refine wpF_tk 5 (v := ?_) rfl hT0 (by rfl) ?_ ?_
 rotate_left
 ·(intro wq; go_simp; try with_reducible rfl)
 simp only [pz]
 refine wpF_tk 6 (v := ?_) rfl hT0 (by rfl) ?_ ?_
 rotate_left
 ·(intro wq; go_simp; try with_reducible rfl)
 simp only [pz]
 refine wpF_tk 7 (v := ?_) rfl hT0 (by rfl) ?_ ?_
 rotate_left
 ·(intro wq; go_simp; try with_reducible rfl)
 simp only [pz]
 refine wpF_lk 8 (v := .pointer (some ⟨g, 0, none⟩)) rfl hT0 (by rfl) (fun w hS => by have hS : w.cell? ⟨R, 0, none⟩ = some (.pointer (some ⟨g, 0, none⟩)) := hS; go_simp) ?_
 simp only [pz]
 refine wpF_exec 4 rfl (by kernel_rfl) (by rfl) ?_
 intro K hK
 go_simp
 refine (rdText_any wd g s7 h.rd).mono ?_
 rintro e v8 ⟨rfl, hr', hx'⟩
 have hz := hz.ext (by simp) hx' (by simp only [Esc.just]; omega)
 have hb := hb.ext (by simp) hx' (by simp only [Esc.just]; omega)
 obtain ⟨y1, hn⟩ : ∃ n, n = (rText s7).1 := ⟨_, rfl⟩
 obtain ⟨s8, hs''⟩ : ∃ q, q = (rText s7).2 := ⟨_, rfl⟩
 rw [← hs''] at hr'
 rw [← hn]
 have HNy1 := Lib.hid hn
 have HS8 := Lib.hid hs''
 replace h : WR v8 R g d s8 x := h.step hr' hx'
 replace hx := hx.comp (Ext.rg hx')
 clear hn hs'' hr' hx' hp
 have hp := h.p
 have hT1 : ∀ k, looks [(3, fun z => z.cell? ⟨R, 0, none⟩ = some (.pointer (some ⟨g, 0, none⟩))), (8, fun z => z.cell? ⟨R, 0, none⟩ = some (.pointer (some ⟨g, 0, none⟩)))] k (v8) := looks_all ⟨hp, hp, trivial⟩
 refine hK _ _ (looks [(3, fun z => z.cell? ⟨R, 0, none⟩ = some (.pointer (some ⟨g, 0, none⟩))), (8, fun z => z.cell? ⟨R, 0, none⟩ = some (.pointer (some ⟨g, 0, none⟩)))]) ⟨.inr (.inl (by kernel_rfl)), .inr (.inr (fun x h => h)), trivial⟩ hT1 ?_
 clear hK K
 try simp only [pz]
 refine wpF_tk 10 (v := ?_) rfl hT1 (by rfl) ?_ ?_
 rotate_left
 ·(intro wq; go_simp; try with_reducible rfl)
 simp only [pz]
 refine wpF_exec 9 rfl (by kernel_rfl) (by rfl) ?_
 intro K hK
 go_simp
 refine (rdText_any v8 g s8 h.rd).mono ?_
 rintro e v9 ⟨rfl, hr', hx'⟩
 have hz := hz.ext (by simp) hx' (by simp only [Esc.just]; omega)
 have hb := hb.ext (by simp) hx' (by simp only [Esc.just]; omega)
 obtain ⟨y2, hn⟩ : ∃ n, n = (rText s8).1 := ⟨_, rfl⟩
 obtain ⟨s9, hs''⟩ : ∃ q, q = (rText s8).2 := ⟨_, rfl⟩
 rw [← hs''] at hr'
 rw [← hn]
 have HNy2 := Lib.hid hn
 have HS9 := Lib.hid hs''
 replace h : WR v9 R g d s9 x := h.step hr' hx'
 replace hx := hx.comp (Ext.rg hx')
 clear hn hs'' hr' hx' hp
 have hp := h.p
 have e6 := hb.cell 6 _ rfl
 have f6 := hb.fr 6
 have e7 := hb.cell 7 _ rfl
 have f7 := hb.fr 7
 have hT2 : ∀ k, looks [(3, fun z => z.cell? ⟨R, 0, none⟩ = some (.pointer (some ⟨g, 0, none⟩))), (8, fun z => z.cell? ⟨R, 0, none⟩ = some (.pointer (some ⟨g, 0, none⟩)))] k (v9) := looks_all ⟨hp, hp, trivial⟩
 refine hK _ _ (looks [(3, fun z => z.cell? ⟨R, 0, none⟩ = some (.pointer (some ⟨g, 0, none⟩))), (8, fun z => z.cell? ⟨R, 0, none⟩ = some (.pointer (some ⟨g, 0, none⟩)))]) ⟨.inr (.inl (by kernel_rfl)), .inr (.inl (by kernel_rfl)), trivial⟩ hT2 ?_
 clear hK K
 try simp only [pz]
 refine wpF_exec 11 rfl (by kernel_rfl) (by rfl) ?_
 intro K hK
 go_simp
 have hT3 : ∀ k, looks [(3, fun z => True), (8, fun z => True)] k ((v9.setCell ⟨r, 6, none⟩ (.string (str y1)))) := looks_all ⟨trivial, trivial, trivial⟩
 refine hK _ _ (looks [(3, fun z => True), (8, fun z => True)]) ⟨.inr (.inl (by kernel_rfl)), .inr (.inl (by kernel_rfl)), trivial⟩ hT3 ?_
 clear hK K
 try simp only [pz]
 refine wpF_tk 12 (v := ?_) rfl hT3 (by rfl) ?_ ?_
 rotate_left
 ·(intro wq; go_simp; try with_reducible rfl)
 simp only [pz]
 refine wpF_exec 13 rfl (by kernel_rfl) (by rfl) ?_
 intro K hK
 go_simp
 have hT4 : ∀ k, looks [(3, fun z => True), (8, fun z => True)] k (((v9.setCell ⟨r, 6, none⟩ (.string (str y1))).setCell ⟨r, 7, none⟩ (.string (str y2)))) := looks_all ⟨trivial, trivial, trivial⟩
 refine hK _ _ (looks [(3, fun z => True), (8, fun z => True)]) ⟨.inr (.inl (by kernel_rfl)), .inr (.inl (by kernel_rfl)), trivial⟩ hT4 ?_
 clear hK K
 try simp only [pz]
 refine wpF_done (by kernel_rfl) ?_ _
 have xs : Ext (just r) v9 ((v9.setCell ⟨r, 6, none⟩ (.string (str y1))).setCell ⟨r, 7, none⟩ (.string (str y2))) := (((Ext.refl (just r) v9).comp (Ext.setCell _ ⟨r, 6, none⟩ (.string (str y1)) rfl)).comp (Ext.setCell _ ⟨r, 7, none⟩ (.string (str y2)) rfl))
 have hb' : Blk ((v9.setCell ⟨r, 6, none⟩ (.string (str y1))).setCell ⟨r, 7, none⟩ (.string (str y2))) r [.int .i64 i1, .int .i64 i2, .int .i64 i3, .int .i64 c1, .int .i64 c2, .int .i64 c3, .string (str y1), .string (str y2), .int .i64 0, .int .i64 c4, .slice none 0 0] := ((hb.set 6 (.string (str y1)) (by simp)).set 7 (.string (str y2)) (by simp))
 have hz := hz.ext (by simp) xs (by simp only [Esc.just]; omega)
 have h := h.new xs (by omega) hdr
 replace hx : Ext (rg R g) w ((v9.setCell ⟨r, 6, none⟩ (.string (str y1))).setCell ⟨r, 7, none⟩ (.string (str y2))) := hx.trans xs (fun i hi h => by simp only [Esc.just] at h; omega)
 clear xs e6 f6 e7 f7
 clear hb hp
 have hb := hb'
 clear hb'
 generalize ((v9.setCell ⟨r, 6, none⟩ (.string (str y1))).setCell ⟨r, 7, none⟩ (.string (str y2))) = w9 at *
 have hp := h.p
 go_wp2_with fail
 refine (rdInt_any w9 g s9 h.rd).mono ?_
 rintro e v10 ⟨rfl, hr', hx'⟩
 have hz := hz.ext (by simp) hx' (by simp only [Esc.just]; omega)
 have hb := hb.ext (by simp) hx' (by simp only [Esc.just]; omega)
 obtain ⟨c5, hn⟩ : ∃ n, n = (rInt s9).1 := ⟨_, rfl⟩
 obtain ⟨s10, hs''⟩ : ∃ q, q = (rInt s9).2 := ⟨_, rfl⟩
 rw [← hs''] at hr'
 rw [← hn]
 have HNc5 := Lib.hid hn
 have HS10 := Lib.hid hs''
 replace h : WR v10 R g d s10 x := h.step hr' hx'
 replace hx := hx.comp (Ext.rg hx')
 clear hn hs'' hr' hx' hp
 have hp := h.p
 have e8 := hb.cell 8 _ rfl
 have f8 := hb.fr 8
 go_upto_region 5 with fail
 have xs : Ext (just r) v10 (v10.setCell ⟨r, 8, none⟩ (.int .i64 c5)) := ((Ext.refl (just r) v10).comp (Ext.setCell _ ⟨r, 8, none⟩ (.int .i64 c5) rfl))
 have hb' : Blk (v10.setCell ⟨r, 8, none⟩ (.int .i64 c5)) r [.int .i64 i1, .int .i64 i2, .int .i64 i3, .int .i64 c1, .int .i64 c2, .int .i64 c3, .string (str y1), .string (str y2), .int .i64 c5, .int .i64 c4, .slice none 0 0] := (hb.set 8 (.int .i64 c5) (by simp))
 have hz := hz.ext (by simp) xs (by simp only [Esc.just]; omega)
 have h := h.new xs (by omega) hdr
 replace hx : Ext (rg R g) w (v10.setCell ⟨r, 8, none⟩ (.int .i64 c5)) := hx.trans xs (fun i hi h => by simp only [Esc.just] at h; omega)
 clear xs e8 f8
 clear hb hp
 have hb := hb'
 clear hb'
 generalize (v10.setCell ⟨r, 8, none⟩ (.int .i64 c5)) = w10 at *
 have hp := h.p
 obtain ⟨n, hn⟩ : ∃ n, n = (rInt s10).1 := ⟨_, rfl⟩
 obtain ⟨t0, ht⟩ : ∃ q, q = (rInt s10).2 := ⟨_, rfl⟩
 have HP := Lib.hid (wOp_eq (s := s0) (u := s10) (t := t0) (O := (⟨⟨i1, i2, i3⟩, c1, c2, c3, y1, y2, c5, c4, []⟩ : OpR)) (n := n) (by
  unfold pHead pDot
  simp only [← HNi1.out, ← HS1.out, ← HNi2.out, ← HS2.out, ← HNi3.out, ← HS3.out, ← HNc1.out, ← HS4.out, ← HNc2.out, ← HS5.out, ← HNc3.out, ← HS6.out, ← HNc4.out, ← HS7.out, ← HNy1.out, ← HS8.out, ← HNy2.out, ← HS9.out, ← HNc5.out, ← HS10.out, ← hn, ← ht]) (by rw [hn, ht]))
 have hkl : y1.length ≤ 65535 := by rw [HNy1.out]; exact rText_len _
 have htl : y2.length ≤ 65535 := by rw [HNy2.out]; exact rText_len _
 clear hn ht HNi1 HS1 HNi2 HS2 HNi3 HS3 HNc1 HS4 HNc2 HS5 HNc3 HS6 HNc4 HS7 HNy1 HS8 HNy2 HS9 HNc5 HS10
 go_wp2_with fail
 refine (rsize_any w10 R g s10 x 8 (by omega) (by omega) h).mono ?_
 rintro e w11 ⟨rfl, h', hx'⟩
 have hb := hb.ext (by simp) hx' (by simp only [Esc.just]; omega)
 have hz := hz.ext (by simp) hx' (by simp only [Esc.just]; omega)
 replace hx := hx.comp (Ext.rg hx')
 have hM8 := pSize_le (m := 8) (by omega) s10
 obtain ⟨M, hM⟩ : ∃ M, M = (pSize 8 s10).1 := ⟨_, rfl⟩
 obtain ⟨t, ht⟩ : ∃ q, q = (pSize 8 s10).2 := ⟨_, rfl⟩
 rw [← hM, ← ht] at HP
 rw [← hM] at hM8 ⊢
 rw [← ht] at h'
 clear hM ht hx' h hp
 have h := h'
 clear h'
 go_wp2_with fail
 go_loopw [43] (fun s43 wr => ∃ (i : Nat) (D : List DotR) (a' : Option Addr) (c' : Nat) (sr : RS), i ≤ M ∧ s43 = .int .i64 i ∧ D.length = i ∧ pAll M t = (D ++ (pAll (M - i) sr).1, (pAll (M - i) sr).2) ∧ WR wr R g d sr x ∧ Blk wr r [.int .i64 i1, .int .i64 i2, .int .i64 i3, .int .i64 c1, .int .i64 c2, .int .i64 c3, .string (str y1), .string (str y2), .int .i64 c5, .int .i64 c4, .slice a' D.length c'] ∧ Blk wr q [.int .i64 0, .int .i64 0, .int .i64 0, .int .i64 0, .int .i64 0, .int .i64 0, .string { data := #[] }, .string { data := #[] }, .int .i64 0, .int .i64 0, .slice none 0 0] ∧ Own wr (r + 1) a' 3 D.length c' (ds D) ∧ Ext (rg R g) w wr) (fun s43 _ => M - (intOf s43).toNat)
 case atStart => exact ⟨0, [], none, 0, t, by omega, rfl, rfl, by simp, h, hb, hz, Own.nil _ _ _, hx⟩
 case round =>
  clear h hb hz hx
  obtain ⟨i, D, a1, c6, sr, hi, rfl, hDl, hpd, h, hb, hz, hown, hx⟩ := hrel
  have HD := Lib.hid hDl
  have HPD := Lib.hid hpd
  clear hDl hpd
  have hs := hb.lt (by simp)
  by_cases hiM : i < M
  ·have e1 : decide (i < M) = true := decT hiM
   have HPS := Lib.hid (show pAll (M - i) sr = ((pDot sr).1 :: (pAll (M - (i + 1)) (pDot sr).2).1, (pAll (M - (i + 1)) (pDot sr).2).2) by
    rw [show M - i = (M - (i + 1)) + 1 by omega]; rfl)
   have c10 := hb.cell 10 _ rfl
   go_upto_region 7 with fail
   refine wp_region_F [1] (looks [(1, fun z => z.cell? ⟨r, 10, none⟩ = some (.slice a1 D.length c6))]) (by kernel_rfl) ?_
   have hxd := Ext.drew no wr
   have h := h.no hxd
   have hz := hz.ext (by simp) hxd (fun h => h)
   have hb := hb.ext (by simp) hxd (fun h => h)
   have hown := hown.ext hxd (fun _ _ h => h)
   replace hx := hx.comp (hxd.mono (S' := rg R g) (fun _ _ e => e.elim))
   clear c10 hxd hs
   generalize wr.drew = wd at *
   have c10 := hb.cell 10 _ rfl
   have hs := hb.lt (by simp)
   have hT0 : ∀ k, looks [(1, fun z => z.cell? ⟨r, 10, none⟩ = some (.slice a1 D.length c6))] k (wd) := looks_all ⟨c10, trivial⟩
   refine wpF_tk 0 (v := ?_) rfl hT0 (by rfl) ?_ ?_
   rotate_left
   ·(intro wq; go_simp; try with_reducible rfl)
   simp only [pz]
   refine wpF_lk 1 (v := .slice a1 D.length c6) rfl hT0 (by rfl) (fun w hS => by have hS : w.cell? ⟨r, 10, none⟩ = some (.slice a1 D.length c6) := hS; go_simp) ?_
   simp only [pz]
   refine wpF_tk 2 (v := ?_) rfl hT0 (by rfl) ?_ ?_
   rotate_left
   ·(intro wq; go_simp; try with_reducible rfl)
   simp only [pz]
   refine wpF_tk 4 (v := ?_) rfl hT0 (by rfl) ?_ ?_
   rotate_left
   ·(intro wq; go_simp; try with_reducible rfl)
   simp only [pz]
   refine wpF_tk 6 (v := ?_) rfl hT0 (by rfl) ?_ ?_
   rotate_left
   ·(intro wq; go_simp; try with_reducible rfl)
   simp only [pz]
   refine wpF_exec 3 rfl (by kernel_rfl) (by rfl) ?_
   intro K hK
   go_simp
   refine (rdInt_any wd g sr h.rd).mono ?_
   rintro e x1 ⟨rfl, h', hy⟩
   obtain ⟨m1, hm⟩ : ∃ x, x = (rInt sr).1 := ⟨_, rfl⟩
   obtain ⟨sq1, hsq⟩ : ∃ x, x = (rInt sr).2 := ⟨_, rfl⟩
   rw [← hsq] at h'
   rw [← hm]
   have HM1 := Lib.hid hm
   have HSQ1 := Lib.hid hsq
   replace h : WR x1 R g d sq1 x := h.step h' hy
   clear hm hsq h'
   have hb := hb.ext (by simp) hy (by simp only [Esc.just]; omega)
   have hz := hz.ext (by simp) hy (by simp only [Esc.just]; omega)
   have hown := hown.ext hy (fun ad h e => by have := (hown.base ad h).1; simp only [Esc.just] at e; omega)
   replace hx := hx.comp (Ext.rg hy)
   have c10 := hb.cell 10 _ rfl
   clear hy
   have hT1 : ∀ k, looks [(1, fun z => z.cell? ⟨r, 10, none⟩ = some (.slice a1 D.length c6))] k (x1) := looks_all ⟨c10, trivial⟩
   refine hK _ _ (looks [(1, fun z => z.cell? ⟨r, 10, none⟩ = some (.slice a1 D.length c6))]) ⟨.inr (.inr (fun x h => h)), trivial⟩ hT1 ?_
   clear hK K
   try simp only [pz]
   refine wpF_exec 5 rfl (by kernel_rfl) (by rfl) ?_
   intro K hK
   go_simp
   refine (rdInt_any x1 g sq1 h.rd).mono ?_
   rintro e x2 ⟨rfl, h', hy⟩
   obtain ⟨m2, hm⟩ : ∃ x, x = (rInt sq1).1 := ⟨_, rfl⟩
   obtain ⟨sq2, hsq⟩ : ∃ x, x = (rInt sq1).2 := ⟨_, rfl⟩
   rw [← hsq] at h'
   rw [← hm]
   have HM2 := Lib.hid hm
   have HSQ2 := Lib.hid hsq
   replace h : WR x2 R g d sq2 x := h.step h' hy
   clear hm hsq h'
   have hb := hb.ext (by simp) hy (by simp only [Esc.just]; omega)
   have hz := hz.ext (by simp) hy (by simp only [Esc.just]; omega)
   have hown := hown.ext hy (fun ad h e => by have := (hown.base ad h).1; simp only [Esc.just] at e; omega)
   replace hx := hx.comp (Ext.rg hy)
   have c10 := hb.cell 10 _ rfl
   clear hy
   have hT2 : ∀ k, looks [(1, fun z => z.cell? ⟨r, 10, none⟩ = some (.slice a1 D.length c6))] k (x2) := looks_all ⟨c10, trivial⟩
   refine hK _ _ (looks [(1, fun z => z.cell? ⟨r, 10, none⟩ = some (.slice a1 D.length c6))]) ⟨.inr (.inr (fun x h => h)), trivial⟩ hT2 ?_
   clear hK K
   try simp only [pz]
   refine wpF_exec 7 rfl (by kernel_rfl) (by rfl) ?_
   intro K hK
   go_simp
   refine (rdInt_any x2 g sq2 h.rd).mono ?_
   rintro e x3 ⟨rfl, h', hy⟩
   obtain ⟨m3, hm⟩ : ∃ x, x = (rInt sq2).1 := ⟨_, rfl⟩
   obtain ⟨sq3, hsq⟩ : ∃ x, x = (rInt sq2).2 := ⟨_, rfl⟩
   rw [← hsq] at h'
   rw [← hm]
   have HM3 := Lib.hid hm
   have HSQ3 := Lib.hid hsq
   replace h : WR x3 R g d sq3 x := h.step h' hy
   clear hm hsq h'
   have hb := hb.ext (by simp) hy (by simp only [Esc.just]; omega)
   have hz := hz.ext (by simp) hy (by simp only [Esc.just]; omega)
   have hown := hown.ext hy (fun ad h e => by have := (hown.base ad h).1; simp only [Esc.just] at e; omega)
   replace hx := hx.comp (Ext.rg hy)
   have c10 := hb.cell 10 _ rfl
   clear hy
   have hT3 : ∀ k, looks [(1, fun z => z.cell? ⟨r, 10, none⟩ = some (.slice a1 D.length c6))] k (x3) := looks_all ⟨c10, trivial⟩
   refine hK _ _ (looks [(1, fun z => z.cell? ⟨r, 10, none⟩ = some (.slice a1 D.length c6))]) ⟨.inr (.inr (fun x h => h)), trivial⟩ hT3 ?_
   clear hK K
   try simp only [pz]
   refine wpF_tk 8 (v := ?_) rfl hT3 (by rfl) ?_ ?_
   rotate_left
   ·(intro wq; go_simp; try with_reducible rfl)
   simp only [pz]
   refine wpF_exec 9 rfl (by kernel_rfl) (by rfl) ?_
   intro K hK
   go_simp
   have hT4 : ∀ k, looks [(1, fun z => z.cell? ⟨r, 10, none⟩ = some (.slice a1 D.length c6))] k ((x3.alloc (.cells #[.int .i64 m1, .int .i64 m2, .int .i64 m3] 59))) := looks_all ⟨((Ext.alloc no x3 (.cells #[.int .i64 m1, .int .i64 m2, .int .i64 m3] 59)).keeps c10 (fun h => h)), trivial⟩
   refine hK _ _ (looks [(1, fun z => z.cell? ⟨r, 10, none⟩ = some (.slice a1 D.length c6))]) ⟨.inr (.inr (fun x h => h)), trivial⟩ hT4 ?_
   clear hK K
   try simp only [pz]
   refine wpF_exec 10 rfl (by kernel_rfl) (by rfl) ?_
   intro K hK
   refine op_append TDots rfl rfl (hown.ext (Ext.alloc no x3 (.cells #[.int .i64 m1, .int .i64 m2, .int .i64 m3] 59)) (fun _ _ h => h)) rfl (Rd.lit x3 _ _ _) (by simp) (by intro u hu; simp at hu; rcases hu with rfl | rfl | rfl <;> rfl) (by unfold maxLen; have := HD.out; omega) (by have := HD.out; omega) (by have := hb.lt (by simp); simp; omega) ?_
   intro a8 c8 w8 hA
   have hb8 := (hb.alloc (by simp) (.cells #[.int .i64 m1, .int .i64 m2, .int .i64 m3] 59)).ext (by simp) hA.ext (hown.notBlk (by omega))
   have hz8 := (hz.alloc (by simp) (.cells #[.int .i64 m1, .int .i64 m2, .int .i64 m3] 59)).ext (by simp) hA.ext (hown.notBlk (by omega))
   have h8 := (h.no (Ext.alloc no x3 (.cells #[.int .i64 m1, .int .i64 m2, .int .i64 m3] 59))).aside hA.ext (hown.notBlk (by omega)) (hown.notBlk (by omega)) (fun i hi => hown.notBlk (by have := hdw i hi; omega))
   have hx8 : Ext (rg R g) w w8 := (hx.comp ((Ext.alloc no x3 (.cells #[.int .i64 m1, .int .i64 m2, .int .i64 m3] 59)).mono (S' := rg R g) (fun _ _ e => e.elim))).trans hA.ext (fun i hi h => (hown.notBlk (by omega) h).elim)
   have ho8 := hA.own
   have hs8 := hA.ext.size
   have c8' := hb8.cell 10 _ rfl
   have f8 := hb8.fr 10
   have hT5 : ∀ k, looks [(1, fun z => z.cell? ⟨r, 10, none⟩ = some (.slice a1 D.length c6))] k (w8) := looks_all ⟨c8', trivial⟩
   refine hK _ _ (looks [(1, fun z => z.cell? ⟨r, 10, none⟩ = some (.slice a1 D.length c6))]) ⟨.inr (.inl (by kernel_rfl)), trivial⟩ hT5 ?_
   clear hK K
   try simp only [pz]
   refine wpF_tk 11 (v := ?_) rfl hT5 (by rfl) ?_ ?_
   rotate_left
   ·(intro wq; go_simp; try with_reducible rfl)
   simp only [pz]
   refine wpF_exec 12 rfl (by kernel_rfl) (by rfl) ?_
   intro K hK
   go_simp
   have hT6 : ∀ k, looks [(1, fun z => True)] k ((w8.setCell ⟨r, 10, none⟩ (.slice a8 (D.length + 1) c8))) := looks_all ⟨trivial, trivial⟩
   refine hK _ _ (looks [(1, fun z => True)]) ⟨.inr (.inl (by kernel_rfl)), trivial⟩ hT6 ?_
   clear hK K
   try simp only [pz]
   refine wpF_done (by kernel_rfl) ?_ _
   obtain ⟨dd, hdd⟩ : ∃ dd : DotR, dd = ⟨m1, m2, m3⟩ := ⟨_, rfl⟩
   have HDD := Lib.hid (show dd = (pDot sr).1 by rw [hdd]; unfold pDot; rw [← HSQ1.out, ← HSQ2.out, ← HM1.out, ← HM2.out, ← HM3.out])
   have HSQ := Lib.hid (show sq3 = (pDot sr).2 by unfold pDot; rw [← HSQ1.out, ← HSQ2.out, ← HSQ3.out])
   have hb9 : Blk (w8.setCell ⟨r, 10, none⟩ (.slice a8 (D.length + 1) c8)) r [.int .i64 i1, .int .i64 i2, .int .i64 i3, .int .i64 c1, .int .i64 c2, .int .i64 c3, .string (str y1), .string (str y2), .int .i64 c5, .int .i64 c4, .slice a8 (D ++ [dd]).length c8] := by rw [List.length_append]; exact hb8.set 10 (.slice a8 (D.length + 1) c8) (by simp)
   have hz9 := hz8.other (g := r) (by omega) 10 (.slice a8 (D.length + 1) c8)
   have h9 := h8.new (Ext.setCell w8 ⟨r, 10, none⟩ (.slice a8 (D.length + 1) c8) (S := just r) rfl) (by omega) hdr
   have ho9 : Own (w8.setCell ⟨r, 10, none⟩ (.slice a8 (D.length + 1) c8)) (r + 1) a8 3 (D ++ [dd]).length c8 (ds (D ++ [dd])) := by
    rw [ds_append, List.length_append, hdd]
    exact ho8.ext (Ext.setCell w8 ⟨r, 10, none⟩ (.slice a8 (D.length + 1) c8) (S := just r) rfl) (fun ad h e => by have := (ho8.base ad h).1; simp only [Esc.just] at e; omega)
   have hx9 : Ext (rg R g) w (w8.setCell ⟨r, 10, none⟩ (.slice a8 (D.length + 1) c8)) := hx8.trans (Ext.setCell w8 ⟨r, 10, none⟩ (.slice a8 (D.length + 1) c8) (S := just r) rfl) (fun i hi h => by simp only [Esc.just] at h; omega)
   have HL := Lib.hid (show (D ++ [dd]).length = i + 1 by rw [List.length_append, HD.out]; rfl)
   have HN := Lib.hid (show pAll M t = ((D ++ [dd]) ++ (pAll (M - (i + 1)) sq3).1, (pAll (M - (i + 1)) sq3).2) by rw [HPD.out, HPS.out, ← HDD.out, ← HSQ.out]; simp)
   clear hb8 hz8 h8 ho8 hx8 hA hdd
   go_wp2_with fail
   go_roundw
   case rel => exact ⟨i + 1, D ++ [dd], a8, c8, sq3, by omega, by go_num, HL.out, HN.out, h9, hb9, hz9, ho9, hx9⟩
   case measure => simp [intOf]; omega
  ·have e1 : decide (i < M) = false := decF hiM
   have hD : pAll M t = (D, sr) := by rw [HPD.out, show M - i = 0 by omega]; simp [pAll]
   obtain ⟨O, hO⟩ : ∃ O : OpR, O = { (⟨⟨i1, i2, i3⟩, c1, c2, c3, y1, y2, c5, c4, []⟩ : OpR) with dots := D } := ⟨_, rfl⟩
   have HO1 := Lib.hid (show (wOp s0).1 = O by rw [HP.out, hD, hO])
   have HO2 := Lib.hid (show (wOp s0).2 = sr by rw [HP.out, hD])
   have hOk : O.key.length ≤ 65535 := by rw [hO]; exact hkl
   have hOt : O.text.length ≤ 65535 := by rw [hO]; exact htl
   have hOd : O.dots.length ≤ 8 := by rw [hO]; have := HD.out; show D.length ≤ 8; omega
   have hb : Blk wr r (O.cells a1 c6) := by rw [hO]; exact hb
   have hro : Own wr (r + 1) a1 3 O.dots.length c6 (ds O.dots) := by rw [hO]; exact hown
   clear hD hown HP HPD HD hO
   have hep := h.e
   have hef := h.fr
   by_cases hx0 : x = 0
   ·have HE := Lib.hid (show (checkOp O : Int) = opErr x O by unfold opErr; rw [if_pos hx0])
    subst hx0
    have b0 : wr.cell? ⟨r, 0, none⟩ = some (.int .i64 O.dot.dev) := hb.cell 0 _ rfl
    have b1 : wr.cell? ⟨r, 1, none⟩ = some (.int .i64 O.dot.ep) := hb.cell 1 _ rfl
    have b2 : wr.cell? ⟨r, 2, none⟩ = some (.int .i64 O.dot.seq) := hb.cell 2 _ rfl
    have b3 : wr.cell? ⟨r, 3, none⟩ = some (.int .i64 O.coll) := hb.cell 3 _ rfl
    have b4 : wr.cell? ⟨r, 4, none⟩ = some (.int .i64 O.ver) := hb.cell 4 _ rfl
    have b5 : wr.cell? ⟨r, 5, none⟩ = some (.int .i64 O.kind) := hb.cell 5 _ rfl
    have b6 : wr.cell? ⟨r, 6, none⟩ = some (.string (str O.key)) := hb.cell 6 _ rfl
    have b7 : wr.cell? ⟨r, 7, none⟩ = some (.string (str O.text)) := hb.cell 7 _ rfl
    have b8 : wr.cell? ⟨r, 8, none⟩ = some (.int .i64 O.n) := hb.cell 8 _ rfl
    have b9 : wr.cell? ⟨r, 9, none⟩ = some (.int .i64 O.time) := hb.cell 9 _ rfl
    have b10 : wr.cell? ⟨r, 10, none⟩ = some (.slice a1 O.dots.length c6) := hb.cell 10 _ rfl
    go_wp2_with fail
    refine (check_any wr O a1 c6 hro.rd (by omega) (by unfold maxLen; omega) (by unfold maxLen; omega)).mono ?_
    rintro e w6 ⟨rfl, hx6⟩
    have hz6 := hz.ext (by simp) hx6 (fun h => h)
    have hb6 := hb.ext (by simp [OpR.cells]) hx6 (fun h => h)
    have hro6 := hro.ext hx6 (fun _ _ h => h)
    have h6 := h.no hx6
    replace hx := hx.comp (hx6.mono (S' := rg R g) (fun _ _ e => e.elim))
    clear hb hz hro hx6 b0 b1 b2 b3 b4 b5 b6 b7 b8 b9 b10 h hep hef
    obtain ⟨K, hK⟩ : ∃ K : Int, K = checkOp O := ⟨_, rfl⟩
    rw [← hK] at HE ⊢
    clear hK
    have hep := h6.e
    have hef := h6.fr
    go_upto_region 11 with fail
    have h := h6.put K
    have xs : Ext (just R) w6 (w6.setCell ⟨R, 1, none⟩ (.int .i64 K)) := Ext.setCell _ _ _ rfl
    have hz := hz6.ext (by simp) xs (by simp only [Esc.just]; omega)
    have hb := hb6.ext (by simp [OpR.cells]) xs (by simp only [Esc.just]; omega)
    have hro := hro6.ext xs (fun ad h e => by have := (hro6.base ad h).1; simp only [Esc.just] at e; omega)
    replace hx := hx.comp (xs.mono (S' := rg R g) (fun _ _ e => .inl e))
    clear xs hz6 hb6 hro6 h6 hep hef
    generalize w6.setCell ⟨R, 1, none⟩ (.int .i64 K) = w7 at *
    have b0 : w7.cell? ⟨r, 0, none⟩ = some (.int .i64 O.dot.dev) := hb.cell 0 _ rfl
    have b1 : w7.cell? ⟨r, 1, none⟩ = some (.int .i64 O.dot.ep) := hb.cell 1 _ rfl
    have b2 : w7.cell? ⟨r, 2, none⟩ = some (.int .i64 O.dot.seq) := hb.cell 2 _ rfl
    have b3 : w7.cell? ⟨r, 3, none⟩ = some (.int .i64 O.coll) := hb.cell 3 _ rfl
    have b4 : w7.cell? ⟨r, 4, none⟩ = some (.int .i64 O.ver) := hb.cell 4 _ rfl
    have b5 : w7.cell? ⟨r, 5, none⟩ = some (.int .i64 O.kind) := hb.cell 5 _ rfl
    have b6 : w7.cell? ⟨r, 6, none⟩ = some (.string (str O.key)) := hb.cell 6 _ rfl
    have b7 : w7.cell? ⟨r, 7, none⟩ = some (.string (str O.text)) := hb.cell 7 _ rfl
    have b8 : w7.cell? ⟨r, 8, none⟩ = some (.int .i64 O.n) := hb.cell 8 _ rfl
    have b9 : w7.cell? ⟨r, 9, none⟩ = some (.int .i64 O.time) := hb.cell 9 _ rfl
    have b10 : w7.cell? ⟨r, 10, none⟩ = some (.slice a1 O.dots.length c6) := hb.cell 10 _ rfl
    have z0 := hz.cell 0 _ rfl
    have z1 := hz.cell 1 _ rfl
    have z2 := hz.cell 2 _ rfl
    have z3 := hz.cell 3 _ rfl
    have z4 := hz.cell 4 _ rfl
    have z5 := hz.cell 5 _ rfl
    have z6 := hz.cell 6 _ rfl
    have z7 := hz.cell 7 _ rfl
    have z8 := hz.cell 8 _ rfl
    have z9 := hz.cell 9 _ rfl
    have z10 := hz.cell 10 _ rfl
    have f0 := hz.fr 0
    have f1 := hz.fr 1
    have f2 := hz.fr 2
    have f3 := hz.fr 3
    have f4 := hz.fr 4
    have f5 := hz.fr 5
    have f6 := hz.fr 6
    have f7 := hz.fr 7
    have f8 := hz.fr 8
    have f9 := hz.fr 9
    have f10 := hz.fr 10
    have xs : Ext (just q) w7 (((((((((((w7.setCell ⟨q, 0, none⟩ (.int .i64 O.dot.dev)).setCell ⟨q, 1, none⟩ (.int .i64 O.dot.ep)).setCell ⟨q, 2, none⟩ (.int .i64 O.dot.seq)).setCell ⟨q, 3, none⟩ (.int .i64 O.coll)).setCell ⟨q, 4, none⟩ (.int .i64 O.ver)).setCell ⟨q, 5, none⟩ (.int .i64 O.kind)).setCell ⟨q, 6, none⟩ (.string (str O.key))).setCell ⟨q, 7, none⟩ (.string (str O.text))).setCell ⟨q, 8, none⟩ (.int .i64 O.n)).setCell ⟨q, 9, none⟩ (.int .i64 O.time)).setCell ⟨q, 10, none⟩ (.slice a1 O.dots.length c6)) := ((((((((((((Ext.refl (just q) w7).comp (Ext.setCell _ ⟨q, 0, none⟩ (.int .i64 O.dot.dev) rfl)).comp (Ext.setCell _ ⟨q, 1, none⟩ (.int .i64 O.dot.ep) rfl)).comp (Ext.setCell _ ⟨q, 2, none⟩ (.int .i64 O.dot.seq) rfl)).comp (Ext.setCell _ ⟨q, 3, none⟩ (.int .i64 O.coll) rfl)).comp (Ext.setCell _ ⟨q, 4, none⟩ (.int .i64 O.ver) rfl)).comp (Ext.setCell _ ⟨q, 5, none⟩ (.int .i64 O.kind) rfl)).comp (Ext.setCell _ ⟨q, 6, none⟩ (.string (str O.key)) rfl)).comp (Ext.setCell _ ⟨q, 7, none⟩ (.string (str O.text)) rfl)).comp (Ext.setCell _ ⟨q, 8, none⟩ (.int .i64 O.n) rfl)).comp (Ext.setCell _ ⟨q, 9, none⟩ (.int .i64 O.time) rfl)).comp (Ext.setCell _ ⟨q, 10, none⟩ (.slice a1 O.dots.length c6) rfl))
    have hze : Blk (((((((((((w7.setCell ⟨q, 0, none⟩ (.int .i64 O.dot.dev)).setCell ⟨q, 1, none⟩ (.int .i64 O.dot.ep)).setCell ⟨q, 2, none⟩ (.int .i64 O.dot.seq)).setCell ⟨q, 3, none⟩ (.int .i64 O.coll)).setCell ⟨q, 4, none⟩ (.int .i64 O.ver)).setCell ⟨q, 5, none⟩ (.int .i64 O.kind)).setCell ⟨q, 6, none⟩ (.string (str O.key))).setCell ⟨q, 7, none⟩ (.string (str O.text))).setCell ⟨q, 8, none⟩ (.int .i64 O.n)).setCell ⟨q, 9, none⟩ (.int .i64 O.time)).setCell ⟨q, 10, none⟩ (.slice a1 O.dots.length c6)) q (O.cells a1 c6) := (((((((((((hz.set 0 (.int .i64 O.dot.dev) (by simp)).set 1 (.int .i64 O.dot.ep) (by simp)).set 2 (.int .i64 O.dot.seq) (by simp)).set 3 (.int .i64 O.coll) (by simp)).set 4 (.int .i64 O.ver) (by simp)).set 5 (.int .i64 O.kind) (by simp)).set 6 (.string (str O.key)) (by simp)).set 7 (.string (str O.text)) (by simp)).set 8 (.int .i64 O.n) (by simp)).set 9 (.int .i64 O.time) (by simp)).set 10 (.slice a1 O.dots.length c6) (by simp))
    have hxe : Ext (rg R g) w (((((((((((w7.setCell ⟨q, 0, none⟩ (.int .i64 O.dot.dev)).setCell ⟨q, 1, none⟩ (.int .i64 O.dot.ep)).setCell ⟨q, 2, none⟩ (.int .i64 O.dot.seq)).setCell ⟨q, 3, none⟩ (.int .i64 O.coll)).setCell ⟨q, 4, none⟩ (.int .i64 O.ver)).setCell ⟨q, 5, none⟩ (.int .i64 O.kind)).setCell ⟨q, 6, none⟩ (.string (str O.key))).setCell ⟨q, 7, none⟩ (.string (str O.text))).setCell ⟨q, 8, none⟩ (.int .i64 O.n)).setCell ⟨q, 9, none⟩ (.int .i64 O.time)).setCell ⟨q, 10, none⟩ (.slice a1 O.dots.length c6)) := hx.trans xs (fun i hi h => by simp only [Esc.just] at h; omega)
    have hre : Rd (((((((((((w7.setCell ⟨q, 0, none⟩ (.int .i64 O.dot.dev)).setCell ⟨q, 1, none⟩ (.int .i64 O.dot.ep)).setCell ⟨q, 2, none⟩ (.int .i64 O.dot.seq)).setCell ⟨q, 3, none⟩ (.int .i64 O.coll)).setCell ⟨q, 4, none⟩ (.int .i64 O.ver)).setCell ⟨q, 5, none⟩ (.int .i64 O.kind)).setCell ⟨q, 6, none⟩ (.string (str O.key))).setCell ⟨q, 7, none⟩ (.string (str O.text))).setCell ⟨q, 8, none⟩ (.int .i64 O.n)).setCell ⟨q, 9, none⟩ (.int .i64 O.time)).setCell ⟨q, 10, none⟩ (.slice a1 O.dots.length c6)) a1 (ds O.dots) := hro.rd.ext xs (fun ad h e => by have := (hro.base ad h).1; simp only [Esc.just] at e; omega)
    have hwe := h.new xs (by omega) hdq
    have hnc := hro.nc
    have hcm := hro.cm
    have hlo : ∀ ad, a1 = some ad → w.heap.size ≤ ad.block := fun ad h => by have := (hro.base ad h).1; omega
    go_wp2_with fail
    generalize (((((((((((w7.setCell ⟨q, 0, none⟩ (.int .i64 O.dot.dev)).setCell ⟨q, 1, none⟩ (.int .i64 O.dot.ep)).setCell ⟨q, 2, none⟩ (.int .i64 O.dot.seq)).setCell ⟨q, 3, none⟩ (.int .i64 O.coll)).setCell ⟨q, 4, none⟩ (.int .i64 O.ver)).setCell ⟨q, 5, none⟩ (.int .i64 O.kind)).setCell ⟨q, 6, none⟩ (.string (str O.key))).setCell ⟨q, 7, none⟩ (.string (str O.text))).setCell ⟨q, 8, none⟩ (.int .i64 O.n)).setCell ⟨q, 9, none⟩ (.int .i64 O.time)).setCell ⟨q, 10, none⟩ (.slice a1 O.dots.length c6)) = wz at *
    refine bodyPost_ret (v := O.v a1 c6) ?_ rfl ⟨a1, c6, by rw [HO1.out], by rw [HO1.out]; exact hre, by rw [HO1.out]; exact hnc, hcm, hlo, ?_, hxe⟩
    ·exact op_result rfl _ _ (by rfl) hze
    ·rw [HO1.out, HO2.out]; exact HE.out ▸ hwe
   ·have HE := Lib.hid (show x = opErr x O by unfold opErr; rw [if_neg hx0])
    have hx00 : (x == (0 : Int)) = false := by rw [beq_eq_false_iff_ne]; exact hx0
    clear hx0
    generalize wr = w7 at *
    have b0 : w7.cell? ⟨r, 0, none⟩ = some (.int .i64 O.dot.dev) := hb.cell 0 _ rfl
    have b1 : w7.cell? ⟨r, 1, none⟩ = some (.int .i64 O.dot.ep) := hb.cell 1 _ rfl
    have b2 : w7.cell? ⟨r, 2, none⟩ = some (.int .i64 O.dot.seq) := hb.cell 2 _ rfl
    have b3 : w7.cell? ⟨r, 3, none⟩ = some (.int .i64 O.coll) := hb.cell 3 _ rfl
    have b4 : w7.cell? ⟨r, 4, none⟩ = some (.int .i64 O.ver) := hb.cell 4 _ rfl
    have b5 : w7.cell? ⟨r, 5, none⟩ = some (.int .i64 O.kind) := hb.cell 5 _ rfl
    have b6 : w7.cell? ⟨r, 6, none⟩ = some (.string (str O.key)) := hb.cell 6 _ rfl
    have b7 : w7.cell? ⟨r, 7, none⟩ = some (.string (str O.text)) := hb.cell 7 _ rfl
    have b8 : w7.cell? ⟨r, 8, none⟩ = some (.int .i64 O.n) := hb.cell 8 _ rfl
    have b9 : w7.cell? ⟨r, 9, none⟩ = some (.int .i64 O.time) := hb.cell 9 _ rfl
    have b10 : w7.cell? ⟨r, 10, none⟩ = some (.slice a1 O.dots.length c6) := hb.cell 10 _ rfl
    have z0 := hz.cell 0 _ rfl
    have z1 := hz.cell 1 _ rfl
    have z2 := hz.cell 2 _ rfl
    have z3 := hz.cell 3 _ rfl
    have z4 := hz.cell 4 _ rfl
    have z5 := hz.cell 5 _ rfl
    have z6 := hz.cell 6 _ rfl
    have z7 := hz.cell 7 _ rfl
    have z8 := hz.cell 8 _ rfl
    have z9 := hz.cell 9 _ rfl
    have z10 := hz.cell 10 _ rfl
    have f0 := hz.fr 0
    have f1 := hz.fr 1
    have f2 := hz.fr 2
    have f3 := hz.fr 3
    have f4 := hz.fr 4
    have f5 := hz.fr 5
    have f6 := hz.fr 6
    have f7 := hz.fr 7
    have f8 := hz.fr 8
    have f9 := hz.fr 9
    have f10 := hz.fr 10
    have xs : Ext (just q) w7 (((((((((((w7.setCell ⟨q, 0, none⟩ (.int .i64 O.dot.dev)).setCell ⟨q, 1, none⟩ (.int .i64 O.dot.ep)).setCell ⟨q, 2, none⟩ (.int .i64 O.dot.seq)).setCell ⟨q, 3, none⟩ (.int .i64 O.coll)).setCell ⟨q, 4, none⟩ (.int .i64 O.ver)).setCell ⟨q, 5, none⟩ (.int .i64 O.kind)).setCell ⟨q, 6, none⟩ (.string (str O.key))).setCell ⟨q, 7, none⟩ (.string (str O.text))).setCell ⟨q, 8, none⟩ (.int .i64 O.n)).setCell ⟨q, 9, none⟩ (.int .i64 O.time)).setCell ⟨q, 10, none⟩ (.slice a1 O.dots.length c6)) := ((((((((((((Ext.refl (just q) w7).comp (Ext.setCell _ ⟨q, 0, none⟩ (.int .i64 O.dot.dev) rfl)).comp (Ext.setCell _ ⟨q, 1, none⟩ (.int .i64 O.dot.ep) rfl)).comp (Ext.setCell _ ⟨q, 2, none⟩ (.int .i64 O.dot.seq) rfl)).comp (Ext.setCell _ ⟨q, 3, none⟩ (.int .i64 O.coll) rfl)).comp (Ext.setCell _ ⟨q, 4, none⟩ (.int .i64 O.ver) rfl)).comp (Ext.setCell _ ⟨q, 5, none⟩ (.int .i64 O.kind) rfl)).comp (Ext.setCell _ ⟨q, 6, none⟩ (.string (str O.key)) rfl)).comp (Ext.setCell _ ⟨q, 7, none⟩ (.string (str O.text)) rfl)).comp (Ext.setCell _ ⟨q, 8, none⟩ (.int .i64 O.n) rfl)).comp (Ext.setCell _ ⟨q, 9, none⟩ (.int .i64 O.time) rfl)).comp (Ext.setCell _ ⟨q, 10, none⟩ (.slice a1 O.dots.length c6) rfl))
    have hze : Blk (((((((((((w7.setCell ⟨q, 0, none⟩ (.int .i64 O.dot.dev)).setCell ⟨q, 1, none⟩ (.int .i64 O.dot.ep)).setCell ⟨q, 2, none⟩ (.int .i64 O.dot.seq)).setCell ⟨q, 3, none⟩ (.int .i64 O.coll)).setCell ⟨q, 4, none⟩ (.int .i64 O.ver)).setCell ⟨q, 5, none⟩ (.int .i64 O.kind)).setCell ⟨q, 6, none⟩ (.string (str O.key))).setCell ⟨q, 7, none⟩ (.string (str O.text))).setCell ⟨q, 8, none⟩ (.int .i64 O.n)).setCell ⟨q, 9, none⟩ (.int .i64 O.time)).setCell ⟨q, 10, none⟩ (.slice a1 O.dots.length c6)) q (O.cells a1 c6) := (((((((((((hz.set 0 (.int .i64 O.dot.dev) (by simp)).set 1 (.int .i64 O.dot.ep) (by simp)).set 2 (.int .i64 O.dot.seq) (by simp)).set 3 (.int .i64 O.coll) (by simp)).set 4 (.int .i64 O.ver) (by simp)).set 5 (.int .i64 O.kind) (by simp)).set 6 (.string (str O.key)) (by simp)).set 7 (.string (str O.text)) (by simp)).set 8 (.int .i64 O.n) (by simp)).set 9 (.int .i64 O.time) (by simp)).set 10 (.slice a1 O.dots.length c6) (by simp))
    have hxe : Ext (rg R g) w (((((((((((w7.setCell ⟨q, 0, none⟩ (.int .i64 O.dot.dev)).setCell ⟨q, 1, none⟩ (.int .i64 O.dot.ep)).setCell ⟨q, 2, none⟩ (.int .i64 O.dot.seq)).setCell ⟨q, 3, none⟩ (.int .i64 O.coll)).setCell ⟨q, 4, none⟩ (.int .i64 O.ver)).setCell ⟨q, 5, none⟩ (.int .i64 O.kind)).setCell ⟨q, 6, none⟩ (.string (str O.key))).setCell ⟨q, 7, none⟩ (.string (str O.text))).setCell ⟨q, 8, none⟩ (.int .i64 O.n)).setCell ⟨q, 9, none⟩ (.int .i64 O.time)).setCell ⟨q, 10, none⟩ (.slice a1 O.dots.length c6)) := hx.trans xs (fun i hi h => by simp only [Esc.just] at h; omega)
    have hre : Rd (((((((((((w7.setCell ⟨q, 0, none⟩ (.int .i64 O.dot.dev)).setCell ⟨q, 1, none⟩ (.int .i64 O.dot.ep)).setCell ⟨q, 2, none⟩ (.int .i64 O.dot.seq)).setCell ⟨q, 3, none⟩ (.int .i64 O.coll)).setCell ⟨q, 4, none⟩ (.int .i64 O.ver)).setCell ⟨q, 5, none⟩ (.int .i64 O.kind)).setCell ⟨q, 6, none⟩ (.string (str O.key))).setCell ⟨q, 7, none⟩ (.string (str O.text))).setCell ⟨q, 8, none⟩ (.int .i64 O.n)).setCell ⟨q, 9, none⟩ (.int .i64 O.time)).setCell ⟨q, 10, none⟩ (.slice a1 O.dots.length c6)) a1 (ds O.dots) := hro.rd.ext xs (fun ad h e => by have := (hro.base ad h).1; simp only [Esc.just] at e; omega)
    have hwe := h.new xs (by omega) hdq
    have hnc := hro.nc
    have hcm := hro.cm
    have hlo : ∀ ad, a1 = some ad → w.heap.size ≤ ad.block := fun ad h => by have := (hro.base ad h).1; omega
    go_wp2_with fail
    generalize (((((((((((w7.setCell ⟨q, 0, none⟩ (.int .i64 O.dot.dev)).setCell ⟨q, 1, none⟩ (.int .i64 O.dot.ep)).setCell ⟨q, 2, none⟩ (.int .i64 O.dot.seq)).setCell ⟨q, 3, none⟩ (.int .i64 O.coll)).setCell ⟨q, 4, none⟩ (.int .i64 O.ver)).setCell ⟨q, 5, none⟩ (.int .i64 O.kind)).setCell ⟨q, 6, none⟩ (.string (str O.key))).setCell ⟨q, 7, none⟩ (.string (str O.text))).setCell ⟨q, 8, none⟩ (.int .i64 O.n)).setCell ⟨q, 9, none⟩ (.int .i64 O.time)).setCell ⟨q, 10, none⟩ (.slice a1 O.dots.length c6)) = wz at *
    refine bodyPost_ret (v := O.v a1 c6) ?_ rfl ⟨a1, c6, by rw [HO1.out], by rw [HO1.out]; exact hre, by rw [HO1.out]; exact hnc, hcm, hlo, ?_, hxe⟩
    ·exact op_result rfl _ _ (by rfl) hze
    ·rw [HO1.out, HO2.out]; exact HE.out ▸ hwe
end Go.Proofs.YtddobhihjljcgaaGreat
/- The reader of wire: a row of operations. -/
namespace Go.Proofs.YtddobhihjljcgaaGreat
open Go.RowKit Go.Esc
set_option linter.unusedVariables false
set_option linter.unusedSimpArgs false
/-- A row that grows by an operation whose dots lie behind it (in a world that may have turned). -/
theorem _root_.Go.Esc.OpAcc.push2 {w1 w' : World} {n : Nat} {B : Nat} {ga : Option Addr} {gc : Nat} {g : List OpW} {x : OpW} {e : TypeId} {a' : Option Addr} {c' : Nat} (h : OpAcc w1 B ga gc g) (hga : ∀ bd, ga = some bd → bd.block < n) (hxg : x.good w1) (hfr : ∀ ad, x.a = some ad → n ≤ ad.block) (hB : B ≤ n)
  (ha : App (w1.alloc (.cells x.cells.toArray e)) w' B 11 ga g.length gc (rows OpW.cells g) a' c' 1 x.cells) :
  OpAcc w' B a' c' (g ++ [x]) ∧ Ext (blk ga) (w1.alloc (.cells x.cells.toArray e)) w' := by
 have hx2 : Ext no w1 (w1.alloc (.cells x.cells.toArray e)) := Ext.alloc no w1 _
 have h2 := h.on hx2
 have hxg2 := hxg.no (Ext.alloc no w1 (.cells x.cells.toArray e))
 refine ⟨⟨?_, ?_, ?_, ?_⟩, ha.ext⟩
 ·rw [List.length_append, rows_append, rows_one]
  exact ha.own
 ·intro y hy
  rcases List.mem_append.1 hy with hy | hy
  ·have hyg := h2.gd y hy
   refine ⟨?_, hyg.lc, hyg.cm⟩
   by_cases hn : ds y.o.dots = []
   ·rw [hn]; exact Rd.nil _ _
   ·exact hyg.rd.ext ha.ext (fun ad hya => by rintro ⟨bd, hb, e⟩; exact h.ap y hy ad bd hya hb (ds_ne hn) e.symm)
  ·rw [List.mem_singleton.1 hy]
   exact ⟨hxg2.rd.ext ha.ext (fun ad hya => by rintro ⟨bd, hb, e⟩; have := hfr ad hya; have := hga bd hb; omega), hxg2.lc, hxg2.cm⟩
 ·intro y hy ad bd hya hb hne
  rcases ha.loc with ⟨rfl, _⟩ | hl
  ·rcases List.mem_append.1 hy with hy | hy
   ·exact h.ap y hy ad bd hya hb hne
   ·rw [List.mem_singleton.1 hy] at hya
    have := hfr ad hya
    have := hga bd hb
    omega
  ·have hl := hl bd hb
   have hyg : y.good (w1.alloc (.cells x.cells.toArray e)) := by
    rcases List.mem_append.1 hy with hy | hy
    ·exact h2.gd y hy
    ·rw [List.mem_singleton.1 hy]; exact hxg2
   obtain ⟨ad', ha', hlt⟩ := hyg.rd.ne (by have := ds_length y.o.dots; have : 0 < y.o.dots.length := List.length_pos_iff.2 hne; omega)
   rw [hya] at ha'
   cases ha'
   omega
 ·intro y hy ad hya
  rcases List.mem_append.1 hy with hy | hy
  ·exact h.lo y hy ad hya
  ·rw [List.mem_singleton.1 hy] at hya
   have := hfr ad hya
   omega
def opsErr2 (x : Int) (l : List OpR) : Int := l.foldl opErr x
theorem pRow_step {α : Type} (f : RS → α × RS) {M i : Nat} (h : i < M) (s : RS) : pRow f (M - i) s = ((f s).1 :: (pRow f (M - (i + 1)) (f s).2).1, (pRow f (M - (i + 1)) (f s).2).2) := by
 rw [show M - i = (M - (i + 1)) + 1 by omega]; rfl
theorem pRow_end {α : Type} (f : RS → α × RS) {M i : Nat} (h : ¬ i < M) (s : RS) : pRow f (M - i) s = ([], s) := by
 rw [show M - i = 0 by omega]; rfl
set_option maxRecDepth 100000 in
set_option maxHeartbeats 8000000 in
theorem rops_any (w : World) (R g : Nat) {d : Option Nat} (s0 : RS) (x : Int) (h : WR w R g d s0 x) :
  Calls Tryz.prog 63 #[.pointer (some ⟨R, 0, none⟩)] w fun e w' => ∃ (a : Option Addr) (c : Nat) (G : List OpW), e = .returned (.slice a (wOps s0).1.length c) ∧ G.map OpW.o = (wOps s0).1 ∧ OpAcc w' w.heap.size a c G ∧ WR w' R g d (wOps s0).2 (opsErr2 x (wOps s0).1) ∧ Ext (rg R g) w w' := by
 have hRw := h.lt
 have hgw := h.glt
 have hdw := h.dlt
 go_enter Tryz.func63, Tryz.ntmps63
 go_wp2_with fail
 refine (rsize_any w R g s0 x 20 (by omega) (by omega) h).mono ?_
 rintro e w1 ⟨rfl, h', hx'⟩
 have hx := Ext.rg (R := R) hx'
 have hM20 := pSize_le (m := 20) (by omega) s0
 obtain ⟨M, hM⟩ : ∃ M, M = (pSize 20 s0).1 := ⟨_, rfl⟩
 obtain ⟨t, ht⟩ : ∃ q, q = (pSize 20 s0).2 := ⟨_, rfl⟩
 have HW := Lib.hid (show wOps s0 = pRow wOp M t by unfold wOps; rw [hM, ht])
 rw [← hM] at hM20 ⊢
 rw [← ht] at h'
 clear hM ht hx' h
 have h := h'
 clear h'
 have hsz0 := hx.size
 go_wp2_with fail
 go_loopw [3, 6] (fun s3 s6 wr => ∃ (i : Nat) (G : List OpW) (ga : Option Addr) (gc : Nat) (sr : RS) (xr : Int), i ≤ M ∧ s3 = .slice ga G.length gc ∧ s6 = .int .i64 i ∧ G.length = i ∧ pRow wOp M t = (G.map OpW.o ++ (pRow wOp (M - i) sr).1, (pRow wOp (M - i) sr).2) ∧ xr = opsErr2 x (G.map OpW.o) ∧ WR wr R g d sr xr ∧ OpAcc wr w.heap.size ga gc G ∧ Ext (rg R g) w wr) (fun _ s6 _ => M - (intOf s6).toNat)
 case atStart => exact ⟨0, [], none, 0, t, x, by omega, rfl, rfl, rfl, by simp, rfl, h, OpAcc.nil _ _, hx⟩
 case round =>
  clear h hx
  obtain ⟨i, G, ga, gc, sr, xr, hi, rfl, rfl, hGl, hpd, hxr, h, hacc, hx⟩ := hrel
  have HG := Lib.hid hGl
  have HPD := Lib.hid hpd
  have HXR := Lib.hid hxr
  clear hGl hpd hxr
  by_cases hiM : i < M
  ·have e1 : decide (i < M) = true := decT hiM
   have HPS := Lib.hid (pRow_step wOp hiM sr)
   go_wp2_with fail
   refine (rop_any wr R g sr xr h).mono ?_
   rintro e wg ⟨a', c', rfl, hrd, hlc, hcm, hfr, h', hx'⟩
   have hsr := hx.size
   have hacc1 := hacc.low hx' (fun k e => by rcases e with e | e <;> omega)
   have hga : ∀ bd, ga = some bd → bd.block < wr.heap.size := fun bd hb => (hacc.own.base bd hb).2.1
   obtain ⟨O, hO⟩ : ∃ O, O = (wOp sr).1 := ⟨_, rfl⟩
   obtain ⟨sn, hsn⟩ : ∃ q, q = (wOp sr).2 := ⟨_, rfl⟩
   rw [← hO, ← hsn] at h' HPS
   rw [← hO] at hrd hlc ⊢
   clear hO hsn h
   have hsg := hx'.size
   unfold OpR.v
   go_wp2_with (at_builtin; refine wpList_append TOps rfl rfl rfl (hacc1.own.alloc _) rfl (Rd.lit wg #[.int .i64 O.dot.dev, .int .i64 O.dot.ep, .int .i64 O.dot.seq, .int .i64 O.coll, .int .i64 O.ver, .int .i64 O.kind, .string (str O.key), .string (str O.text), .int .i64 O.n, .int .i64 O.time, .slice a' O.dots.length c'] 62 (0, 0)) (m := 1) rfl (oneOp ⟨O, a', c'⟩) (by have := HG.out; unfold maxLen; omega) (by have := HG.out; omega) (by simp; omega) ?_)
   intro a2 c2 w7 happ
   have hp := hacc1.push2 (x := ⟨O, a', c'⟩) hga ⟨hrd, hlc, hcm⟩ hfr hsr happ
   have hx7 : Ext (rg R g) w w7 := ((hx.comp hx').comp ((Ext.alloc no wg _).mono (fun _ _ e => e.elim))).trans hp.2 (fun k hk => by rintro ⟨ad, ha, e⟩; have := (hacc.own.base ad ha).1; omega)
   have h7 : WR w7 R g d sn (opErr xr O) := (h'.no (Ext.alloc no wg _)).aside hp.2 (fun e => hacc1.own.notBlk (by omega) e) (fun e => hacc1.own.notBlk (by omega) e) (fun k hk e => hacc1.own.notBlk (by have := hdw k hk; omega) e)
   have HN := Lib.hid (show pRow wOp M t = ((G ++ [(⟨O, a', c'⟩ : OpW)]).map OpW.o ++ (pRow wOp (M - (i + 1)) sn).1, (pRow wOp (M - (i + 1)) sn).2) by rw [HPD.out, HPS.out]; simp)
   have HX := Lib.hid (show opErr xr O = opsErr2 x ((G ++ [(⟨O, a', c'⟩ : OpW)]).map OpW.o) by rw [HXR.out]; simp [opsErr2])
   clear happ HXR
   go_wp2_with fail
   go_roundw
   case rel => exact ⟨i + 1, G ++ [⟨O, a', c'⟩], a2, c2, sn, opErr xr O, by omega, by rw [List.length_append]; rfl, by go_num, by rw [List.length_append, HG.out]; rfl, HN.out, HX.out, h7, hp.1, hx7⟩
   case measure => simp [intOf]; omega
  ·have e1 : decide (i < M) = false := decF hiM
   have hend : wOps s0 = (G.map OpW.o, sr) := by rw [HW.out, HPD.out, pRow_end wOp hiM]; simp
   have hGL : G.length = (wOps s0).1.length := by rw [hend, List.length_map]
   rw [hGL]
   have HE := Lib.hid hend
   clear hend hGL
   go_wp2_with fail
   go_ret
   exact ⟨ga, gc, G, rfl, by rw [HE.out], hacc, by rw [HE.out, ← HXR.out]; exact h, hx⟩
end Go.Proofs.YtddobhihjljcgaaGreat
/- The reader of wire: a command. -/
namespace Go.Proofs.YtddobhihjljcgaaGreat
open Go.RowKit Go.Esc
set_option linter.unusedVariables false
set_option linter.unusedSimpArgs false
/-- What was made in a call stays where older blocks and newer ones are written. -/
def Kept (w w' : World) (P : World → Prop) : Prop := ∀ (S : Nat → Prop) (wz : World), Ext S w' wz → (∀ k, S k → k < w.heap.size ∨ w'.heap.size ≤ k) → P wz
theorem Kept.now {w w' : World} {P : World → Prop} (h : Kept w w' P) : P w' := h no w' (Ext.refl _ _) (fun _ e => e.elim)
theorem own_keep {w w' wz : World} {B k n c : Nat} {a : Option Addr} {cs : List Value} {S : Nat → Prop} (h : Own w' B a k n c cs) (hB : w.heap.size ≤ B) (hx : Ext S w' wz) (hS : ∀ k, S k → k < w.heap.size ∨ w'.heap.size ≤ k) : Rd wz a cs :=
 h.rd.ext hx (fun ad ha hs => by have := h.base ad ha; have := hS _ hs; omega)
theorem cmd_result {fn : Func} {p : Tmp} (hf : fn.results = #[.cell p 27]) (tmps : Array Value) (w : World) {q : Nat} {c : CmdR} {k : CmdA} (h1 : tmps.getD p undef = .pointer (some ⟨q, 0, none⟩)) (hC : Blk w q (c.cells k)) :
  (results fn tmps).run Tryz.prog w = .ok (c.val k) w := by
 rw [results_cell1 hf, h1]
 have := run_loadVar_mid (P := Tryz.prog) w q 0 27 (c.cells k) _ hC.range Tryz.underlying27 rfl (by kernel_rfl)
 simp only [asAddr, Sem.run_pure, Result.andThen_ok, this]
 rfl
set_option maxRecDepth 100000 in
set_option maxHeartbeats 16000000 in
theorem rcmd_any (w : World) (R g : Nat) {d : Option Nat} (s0 : RS) (x : Int) (h : WR w R g d s0 x) :
  Calls Tryz.prog 61 #[.pointer (some ⟨R, 0, none⟩)] w fun e w' => ∃ k : CmdA, e = .returned ((wCmd s0).1.val k) ∧ Kept w w' (fun wz => (wCmd s0).1.In wz k) ∧ WR w' R g d (wCmd s0).2 (opsErr2 x (wCmd s0).1.ops) ∧ Ext (rg R g) w w' := by
 have hRw := h.lt
 have hgw := h.glt
 have hdw := h.dlt
 have hRg := h.ne
 go_enter Tryz.func61, Tryz.ntmps61
 have mk := mkFunc
 go_upto_region 1 with fail
 have hz := Blk.lit w #[.int .i64 0, .int .i64 0, .int .i64 0, .int .i64 0, .int .i64 0, .slice none 0 0, .slice none 0 0] 27
 have hx0 := Ext.alloc no w (.cells #[.int .i64 0, .int .i64 0, .int .i64 0, .int .i64 0, .int .i64 0, .slice none 0 0, .slice none 0 0] 27)
 have h := h.no hx0
 have hx : Ext (rg R g) w (w.alloc (.cells #[.int .i64 0, .int .i64 0, .int .i64 0, .int .i64 0, .int .i64 0, .slice none 0 0, .slice none 0 0] 27)) := hx0.mono (fun _ _ e => e.elim)
 clear hx0
 generalize w.alloc (.cells #[.int .i64 0, .int .i64 0, .int .i64 0, .int .i64 0, .int .i64 0, .slice none 0 0, .slice none 0 0] 27) = v0 at *
 obtain ⟨q, hq⟩ : ∃ q, q = w.heap.size := ⟨_, rfl⟩
 have hwq : w.heap.size ≤ q := by omega
 rw [← hq] at hz ⊢
 clear hq
 have hp := h.p
 go_wp2_with fail
 refine (rdInt_any v0 g s0 h.rd).mono ?_
 rintro e v1 ⟨rfl, hr', hx'⟩
 have hz := hz.ext (by simp) hx' (by simp only [Esc.just]; omega)
 obtain ⟨i1, hn⟩ : ∃ n, n = (rInt s0).1 := ⟨_, rfl⟩
 obtain ⟨s1, hs''⟩ : ∃ q, q = (rInt s0).2 := ⟨_, rfl⟩
 rw [← hs''] at hr'
 rw [← hn]
 have HNi1 := Lib.hid hn
 have HS1 := Lib.hid hs''
 replace h : WR v1 R g d s1 x := h.step hr' hx'
 replace hx := hx.comp (Ext.rg hx')
 clear hn hs'' hr' hx' hp
 have hp := h.p
 go_wp2_with fail
 refine (rdInt_any v1 g s1 h.rd).mono ?_
 rintro e v2 ⟨rfl, hr', hx'⟩
 have hz := hz.ext (by simp) hx' (by simp only [Esc.just]; omega)
 obtain ⟨i2, hn⟩ : ∃ n, n = (rInt s1).1 := ⟨_, rfl⟩
 obtain ⟨s2, hs''⟩ : ∃ q, q = (rInt s1).2 := ⟨_, rfl⟩
 rw [← hs''] at hr'
 rw [← hn]
 have HNi2 := Lib.hid hn
 have HS2 := Lib.hid hs''
 replace h : WR v2 R g d s2 x := h.step hr' hx'
 replace hx := hx.comp (Ext.rg hx')
 clear hn hs'' hr' hx' hp
 have hp := h.p
 go_wp2_with fail
 refine (rdInt_any v2 g s2 h.rd).mono ?_
 rintro e v3 ⟨rfl, hr', hx'⟩
 have hz := hz.ext (by simp) hx' (by simp only [Esc.just]; omega)
 obtain ⟨i3, hn⟩ : ∃ n, n = (rInt s2).1 := ⟨_, rfl⟩
 obtain ⟨s3, hs''⟩ : ∃ q, q = (rInt s2).2 := ⟨_, rfl⟩
 rw [← hs''] at hr'
 rw [← hn]
 have HNi3 := Lib.hid hn
 have HS3 := Lib.hid hs''
 replace h : WR v3 R g d s3 x := h.step hr' hx'
 replace hx := hx.comp (Ext.rg hx')
 clear hn hs'' hr' hx' hp
 have hp := h.p
 go_wp2_with fail
 refine (rdInt_any v3 g s3 h.rd).mono ?_
 rintro e v4 ⟨rfl, hr', hx'⟩
 have hz := hz.ext (by simp) hx' (by simp only [Esc.just]; omega)
 obtain ⟨i4, hn⟩ : ∃ n, n = (rInt s3).1 := ⟨_, rfl⟩
 obtain ⟨s4, hs''⟩ : ∃ q, q = (rInt s3).2 := ⟨_, rfl⟩
 rw [← hs''] at hr'
 rw [← hn]
 have HNi4 := Lib.hid hn
 have HS4 := Lib.hid hs''
 replace h : WR v4 R g d s4 x := h.step hr' hx'
 replace hx := hx.comp (Ext.rg hx')
 clear hn hs'' hr' hx' hp
 have hp := h.p
 go_wp2_with fail
 refine (rdInt_any v4 g s4 h.rd).mono ?_
 rintro e v5 ⟨rfl, hr', hx'⟩
 have hz := hz.ext (by simp) hx' (by simp only [Esc.just]; omega)
 obtain ⟨i5, hn⟩ : ∃ n, n = (rInt s4).1 := ⟨_, rfl⟩
 obtain ⟨s5, hs''⟩ : ∃ q, q = (rInt s4).2 := ⟨_, rfl⟩
 rw [← hs''] at hr'
 rw [← hn]
 have HNi5 := Lib.hid hn
 have HS5 := Lib.hid hs''
 replace h : WR v5 R g d s5 x := h.step hr' hx'
 replace hx := hx.comp (Ext.rg hx')
 clear hn hs'' hr' hx' hp
 have hp := h.p
 go_upto_region 3 with fail
 have hb : Blk (v5.alloc (.cells #[.int .i64 i1, .int .i64 i2, .int .i64 i3, .int .i64 i4, .int .i64 i5, .slice none 0 0, .slice none 0 0] 27)) v5.heap.size [.int .i64 i1, .int .i64 i2, .int .i64 i3, .int .i64 i4, .int .i64 i5, .slice none 0 0, .slice none 0 0] := Blk.lit v5 #[.int .i64 i1, .int .i64 i2, .int .i64 i3, .int .i64 i4, .int .i64 i5, .slice none 0 0, .slice none 0 0] 27
 have hx3 := Ext.alloc no v5 (.cells #[.int .i64 i1, .int .i64 i2, .int .i64 i3, .int .i64 i4, .int .i64 i5, .slice none 0 0, .slice none 0 0] 27)
 have hqv := hz.lt (by simp)
 have hsv := hx.size
 have h := h.no hx3
 have hz := hz.ext (by simp) hx3 (fun h => h)
 replace hx := hx.comp (hx3.mono (S' := rg R g) (fun _ _ e => e.elim))
 generalize v5.alloc (.cells #[.int .i64 i1, .int .i64 i2, .int .i64 i3, .int .i64 i4, .int .i64 i5, .slice none 0 0, .slice none 0 0] 27) = u5 at *
 clear hx3 hp
 obtain ⟨r, hr⟩ : ∃ r, r = v5.heap.size := ⟨_, rfl⟩
 rw [← hr] at hb ⊢
 have hqr : q < r := by omega
 have hwr : w.heap.size ≤ r := by omega
 have hdr : ∀ i, d = some i → i ≠ r := fun i hi => by have := hdw i hi; omega
 have hdq : ∀ i, d = some i → i ≠ q := fun i hi => by have := hdw i hi; omega
 clear hr hqv hsv
 go_wp2_with fail
 refine (rsize_any u5 R g s5 x 20 (by omega) (by omega) h).mono ?_
 rintro e u6 ⟨rfl, h', hx'⟩
 have hb := hb.ext (by simp) hx' (by simp only [Esc.just]; omega)
 have hz := hz.ext (by simp) hx' (by simp only [Esc.just]; omega)
 replace hx := hx.comp (Ext.rg hx')
 have hM20 := pSize_le (m := 20) (by omega) s5
 obtain ⟨M, hM⟩ : ∃ M, M = (pSize 20 s5).1 := ⟨_, rfl⟩
 obtain ⟨t, ht⟩ : ∃ q, q = (pSize 20 s5).2 := ⟨_, rfl⟩
 have HSZ := Lib.hid (show pSize 20 s5 = (M, t) by rw [hM, ht])
 rw [← hM] at hM20 ⊢
 rw [← ht] at h'
 clear hM ht hx' h
 have h := h'
 clear h'
 have hNs := hb.lt (by simp)
 go_wp2_with fail
 go_loopw [23] (fun sl wr => ∃ (i : Nat) (D : List WantR) (a' : Option Addr) (c' : Nat) (sr : RS), i ≤ M ∧ sl = .int .i64 i ∧ D.length = i ∧ pRow pWant M t = (D ++ (pRow pWant (M - i) sr).1, (pRow pWant (M - i) sr).2) ∧ WR wr R g d sr x ∧ Blk wr r [.int .i64 i1, .int .i64 i2, .int .i64 i3, .int .i64 i4, .int .i64 i5, .slice a' D.length c', .slice none 0 0] ∧ r + 1 ≤ wr.heap.size ∧ Blk wr q [.int .i64 0, .int .i64 0, .int .i64 0, .int .i64 0, .int .i64 0, .slice none 0 0, .slice none 0 0] ∧ Own wr (r + 1) a' 4 D.length c' (rows WantR.cells D) ∧ Ext (rg R g) w wr) (fun sl _ => M - (intOf sl).toNat)
 case atStart => exact ⟨0, [], none, 0, t, by omega, rfl, rfl, by simp, h, hb, hNs, hz, Own.nil _ _ _, hx⟩
 case round =>
  clear h hb hx hNs hz
  obtain ⟨i, D, a1, c6, sr, hi, rfl, hDl, hpd, h, hb, hNs, hz, hown, hx⟩ := hrel
  have HD := Lib.hid hDl
  have HPD := Lib.hid hpd
  clear hDl hpd
  have hp := h.p
  by_cases hiM : i < M
  ·have e1 : decide (i < M) = true := decT hiM
   have HPS := Lib.hid (pRow_step pWant hiM sr)
   have cK := hb.cell 5 _ rfl
   go_upto_region 5 with fail
   refine wp_region_F [1, 5] (looks [(1, fun z => z.cell? ⟨r, 5, none⟩ = some (.slice a1 D.length c6)), (5, fun z => z.cell? ⟨R, 0, none⟩ = some (.pointer (some ⟨g, 0, none⟩)))]) (by kernel_rfl) ?_
   have hxd := Ext.drew no wr
   have h := h.no hxd
   have hb := hb.ext (by simp) hxd (fun h => h)
   have hz := hz.ext (by simp) hxd (fun h => h)
   have hown := hown.ext hxd (fun _ _ h => h)
   replace hx := hx.comp (hxd.mono (S' := rg R g) (fun _ _ e => e.elim))
   have hNs := Nat.le_trans hNs hxd.size
   clear cK hxd hp
   generalize wr.drew = wd at *
   have cK := hb.cell 5 _ rfl
   have hp := h.p
   have hT0 : ∀ k, looks [(1, fun z => z.cell? ⟨r, 5, none⟩ = some (.slice a1 D.length c6)), (5, fun z => z.cell? ⟨R, 0, none⟩ = some (.pointer (some ⟨g, 0, none⟩)))] k (wd) := looks_all ⟨cK, hp, trivial⟩
   refine wpF_tk 0 (v := ?_) rfl hT0 (by rfl) ?_ ?_
   rotate_left
   ·(intro wq; go_simp; try with_reducible rfl)
   simp only [pz]
   refine wpF_lk 1 (v := .slice a1 D.length c6) rfl hT0 (by rfl) (fun w hS => by have hS : w.cell? ⟨r, 5, none⟩ = some (.slice a1 D.length c6) := hS; go_simp) ?_
   simp only [pz]
   refine wpF_tk 2 (v := ?_) rfl hT0 (by rfl) ?_ ?_
   rotate_left
   ·(intro wq; go_simp; try with_reducible rfl)
   simp only [pz]
   refine wpF_tk 3 (v := ?_) rfl hT0 (by rfl) ?_ ?_
   rotate_left
   ·(intro wq; go_simp; try with_reducible rfl)
   simp only [pz]
   refine wpF_tk 4 (v := ?_) rfl hT0 (by rfl) ?_ ?_
   rotate_left
   ·(intro wq; go_simp; try with_reducible rfl)
   simp only [pz]
   refine wpF_lk 5 (v := .pointer (some ⟨g, 0, none⟩)) rfl hT0 (by rfl) (fun w hS => by have hS : w.cell? ⟨R, 0, none⟩ = some (.pointer (some ⟨g, 0, none⟩)) := hS; go_simp) ?_
   simp only [pz]
   refine wpF_tk 7 (v := ?_) rfl hT0 (by rfl) ?_ ?_
   rotate_left
   ·(intro wq; go_simp; try with_reducible rfl)
   simp only [pz]
   refine wpF_tk 9 (v := ?_) rfl hT0 (by rfl) ?_ ?_
   rotate_left
   ·(intro wq; go_simp; try with_reducible rfl)
   simp only [pz]
   refine wpF_tk 11 (v := ?_) rfl hT0 (by rfl) ?_ ?_
   rotate_left
   ·(intro wq; go_simp; try with_reducible rfl)
   simp only [pz]
   refine wpF_exec 6 rfl (by kernel_rfl) (by rfl) ?_
   intro K hK
   go_simp
   refine (rdText_any wd g sr h.rd).mono ?_
   rintro e x1 ⟨rfl, h', hy⟩
   obtain ⟨m0, hm⟩ : ∃ x, x = (rText sr).1 := ⟨_, rfl⟩
   obtain ⟨sq0, hsq⟩ : ∃ x, x = (rText sr).2 := ⟨_, rfl⟩
   rw [← hsq] at h'
   rw [← hm]
   have HM0 := Lib.hid hm
   have HSQ0 := Lib.hid hsq
   replace h : WR x1 R g d sq0 x := h.step h' hy
   clear hm hsq h'
   have hb := hb.ext (by simp) hy (fun e => by have e : r = g := e; omega)
   have hz := hz.ext (by simp) hy (fun e => by have e : q = g := e; omega)
   have hown := hown.ext hy (fun ad h e => by have := (hown.base ad h).1; have e : ad.block = g := e; omega)
   replace hx := hx.comp (Ext.rg hy)
   have hNs := Nat.le_trans hNs hy.size
   have cK := hb.cell 5 _ rfl
   have hp := h.p
   clear hy
   have hT1 : ∀ k, looks [(1, fun z => z.cell? ⟨r, 5, none⟩ = some (.slice a1 D.length c6)), (5, fun z => z.cell? ⟨R, 0, none⟩ = some (.pointer (some ⟨g, 0, none⟩)))] k (x1) := looks_all ⟨cK, hp, trivial⟩
   refine hK _ _ (looks [(1, fun z => z.cell? ⟨r, 5, none⟩ = some (.slice a1 D.length c6)), (5, fun z => z.cell? ⟨R, 0, none⟩ = some (.pointer (some ⟨g, 0, none⟩)))]) ⟨.inr (.inr (fun x h => h)), .inr (.inl (by kernel_rfl)), trivial⟩ hT1 ?_
   clear hK K
   try simp only [pz]
   refine wpF_exec 8 rfl (by kernel_rfl) (by rfl) ?_
   intro K hK
   go_simp
   refine (rdInt_any x1 g sq0 h.rd).mono ?_
   rintro e x2 ⟨rfl, h', hy⟩
   obtain ⟨m1, hm⟩ : ∃ x, x = (rInt sq0).1 := ⟨_, rfl⟩
   obtain ⟨sq1, hsq⟩ : ∃ x, x = (rInt sq0).2 := ⟨_, rfl⟩
   rw [← hsq] at h'
   rw [← hm]
   have HM1 := Lib.hid hm
   have HSQ1 := Lib.hid hsq
   replace h : WR x2 R g d sq1 x := h.step h' hy
   clear hm hsq h'
   have hb := hb.ext (by simp) hy (fun e => by have e : r = g := e; omega)
   have hz := hz.ext (by simp) hy (fun e => by have e : q = g := e; omega)
   have hown := hown.ext hy (fun ad h e => by have := (hown.base ad h).1; have e : ad.block = g := e; omega)
   replace hx := hx.comp (Ext.rg hy)
   have hNs := Nat.le_trans hNs hy.size
   have cK := hb.cell 5 _ rfl
   have hp := h.p
   clear hy
   have hT2 : ∀ k, looks [(1, fun z => z.cell? ⟨r, 5, none⟩ = some (.slice a1 D.length c6)), (5, fun z => z.cell? ⟨R, 0, none⟩ = some (.pointer (some ⟨g, 0, none⟩)))] k (x2) := looks_all ⟨cK, hp, trivial⟩
   refine hK _ _ (looks [(1, fun z => z.cell? ⟨r, 5, none⟩ = some (.slice a1 D.length c6)), (5, fun z => z.cell? ⟨R, 0, none⟩ = some (.pointer (some ⟨g, 0, none⟩)))]) ⟨.inr (.inr (fun x h => h)), .inr (.inl (by kernel_rfl)), trivial⟩ hT2 ?_
   clear hK K
   try simp only [pz]
   refine wpF_exec 10 rfl (by kernel_rfl) (by rfl) ?_
   intro K hK
   go_simp
   refine (rdInt_any x2 g sq1 h.rd).mono ?_
   rintro e x3 ⟨rfl, h', hy⟩
   obtain ⟨m2, hm⟩ : ∃ x, x = (rInt sq1).1 := ⟨_, rfl⟩
   obtain ⟨sq2, hsq⟩ : ∃ x, x = (rInt sq1).2 := ⟨_, rfl⟩
   rw [← hsq] at h'
   rw [← hm]
   have HM2 := Lib.hid hm
   have HSQ2 := Lib.hid hsq
   replace h : WR x3 R g d sq2 x := h.step h' hy
   clear hm hsq h'
   have hb := hb.ext (by simp) hy (fun e => by have e : r = g := e; omega)
   have hz := hz.ext (by simp) hy (fun e => by have e : q = g := e; omega)
   have hown := hown.ext hy (fun ad h e => by have := (hown.base ad h).1; have e : ad.block = g := e; omega)
   replace hx := hx.comp (Ext.rg hy)
   have hNs := Nat.le_trans hNs hy.size
   have cK := hb.cell 5 _ rfl
   have hp := h.p
   clear hy
   have hT3 : ∀ k, looks [(1, fun z => z.cell? ⟨r, 5, none⟩ = some (.slice a1 D.length c6)), (5, fun z => z.cell? ⟨R, 0, none⟩ = some (.pointer (some ⟨g, 0, none⟩)))] k (x3) := looks_all ⟨cK, hp, trivial⟩
   refine hK _ _ (looks [(1, fun z => z.cell? ⟨r, 5, none⟩ = some (.slice a1 D.length c6)), (5, fun z => z.cell? ⟨R, 0, none⟩ = some (.pointer (some ⟨g, 0, none⟩)))]) ⟨.inr (.inr (fun x h => h)), .inr (.inl (by kernel_rfl)), trivial⟩ hT3 ?_
   clear hK K
   try simp only [pz]
   refine wpF_exec 12 rfl (by kernel_rfl) (by rfl) ?_
   intro K hK
   go_simp
   refine (rdInt_any x3 g sq2 h.rd).mono ?_
   rintro e x4 ⟨rfl, h', hy⟩
   obtain ⟨m3, hm⟩ : ∃ x, x = (rInt sq2).1 := ⟨_, rfl⟩
   obtain ⟨sq3, hsq⟩ : ∃ x, x = (rInt sq2).2 := ⟨_, rfl⟩
   rw [← hsq] at h'
   rw [← hm]
   have HM3 := Lib.hid hm
   have HSQ3 := Lib.hid hsq
   replace h : WR x4 R g d sq3 x := h.step h' hy
   clear hm hsq h'
   have hb := hb.ext (by simp) hy (fun e => by have e : r = g := e; omega)
   have hz := hz.ext (by simp) hy (fun e => by have e : q = g := e; omega)
   have hown := hown.ext hy (fun ad h e => by have := (hown.base ad h).1; have e : ad.block = g := e; omega)
   replace hx := hx.comp (Ext.rg hy)
   have hNs := Nat.le_trans hNs hy.size
   have cK := hb.cell 5 _ rfl
   have hp := h.p
   clear hy
   have hT4 : ∀ k, looks [(1, fun z => z.cell? ⟨r, 5, none⟩ = some (.slice a1 D.length c6)), (5, fun z => z.cell? ⟨R, 0, none⟩ = some (.pointer (some ⟨g, 0, none⟩)))] k (x4) := looks_all ⟨cK, hp, trivial⟩
   refine hK _ _ (looks [(1, fun z => z.cell? ⟨r, 5, none⟩ = some (.slice a1 D.length c6)), (5, fun z => z.cell? ⟨R, 0, none⟩ = some (.pointer (some ⟨g, 0, none⟩)))]) ⟨.inr (.inr (fun x h => h)), .inr (.inl (by kernel_rfl)), trivial⟩ hT4 ?_
   clear hK K
   try simp only [pz]
   refine wpF_tk 13 (v := ?_) rfl hT4 (by rfl) ?_ ?_
   rotate_left
   ·(intro wq; go_simp; try with_reducible rfl)
   simp only [pz]
   refine wpF_exec 14 rfl (by kernel_rfl) (by rfl) ?_
   intro K hK
   go_simp
   have hT5 : ∀ k, looks [(1, fun z => z.cell? ⟨r, 5, none⟩ = some (.slice a1 D.length c6)), (5, fun z => z.cell? ⟨R, 0, none⟩ = some (.pointer (some ⟨g, 0, none⟩)))] k ((x4.alloc (.cells #[.string (str m0), .int .i64 m1, .int .i64 m2, .int .i64 m3] 105))) := looks_all ⟨((Ext.alloc no x4 (.cells #[.string (str m0), .int .i64 m1, .int .i64 m2, .int .i64 m3] 105)).keeps cK (fun h => h)), ((Ext.alloc no x4 (.cells #[.string (str m0), .int .i64 m1, .int .i64 m2, .int .i64 m3] 105)).keeps hp (fun h => h)), trivial⟩
   refine hK _ _ (looks [(1, fun z => z.cell? ⟨r, 5, none⟩ = some (.slice a1 D.length c6)), (5, fun z => z.cell? ⟨R, 0, none⟩ = some (.pointer (some ⟨g, 0, none⟩)))]) ⟨.inr (.inr (fun x h => h)), .inr (.inl (by kernel_rfl)), trivial⟩ hT5 ?_
   clear hK K
   try simp only [pz]
   refine wpF_exec 15 rfl (by kernel_rfl) (by rfl) ?_
   intro K hK
   have hxa := Ext.alloc no x4 (.cells #[.string (str m0), .int .i64 m1, .int .i64 m2, .int .i64 m3] 105)
   have hb := hb.ext (by simp) hxa (fun h => h)
   have hz := hz.ext (by simp) hxa (fun h => h)
   have hown := hown.ext hxa (fun _ _ h => h)
   have h := h.no hxa
   replace hx := hx.comp (hxa.mono (S' := rg R g) (fun _ _ e => e.elim))
   have hNs := Nat.le_trans hNs hxa.size
   refine op_append TyWants rfl rfl hown rfl (Rd.lit x4 _ _ _) (by simp) (by intro u hu; simp at hu; rcases hu with rfl | rfl | rfl | rfl <;> rfl) (by unfold maxLen; have := HD.out; omega) (by have := HD.out; omega) hNs ?_
   intro a8 c8 w8 hA
   have hb := hb.ext (by simp) hA.ext (hown.notBlk (by omega))
   have hz := hz.ext (by simp) hA.ext (hown.notBlk (by omega))
   have h := h.aside hA.ext (hown.notBlk (by omega)) (hown.notBlk (by omega)) (fun i hi => hown.notBlk (by have := hdw i hi; omega))
   have hx : Ext (rg R g) w w8 := hx.trans hA.ext (fun i hi h => (hown.notBlk (by omega) h).elim)
   have hNs := Nat.le_trans hNs hA.ext.size
   have ho8 := hA.own
   have cK := hb.cell 5 _ rfl
   have f8 := hb.fr 5
   have hp := h.p
   have hT6 : ∀ k, looks [(1, fun z => z.cell? ⟨r, 5, none⟩ = some (.slice a1 D.length c6)), (5, fun z => z.cell? ⟨R, 0, none⟩ = some (.pointer (some ⟨g, 0, none⟩)))] k (w8) := looks_all ⟨cK, hp, trivial⟩
   refine hK _ _ (looks [(1, fun z => z.cell? ⟨r, 5, none⟩ = some (.slice a1 D.length c6)), (5, fun z => z.cell? ⟨R, 0, none⟩ = some (.pointer (some ⟨g, 0, none⟩)))]) ⟨.inr (.inl (by kernel_rfl)), .inr (.inl (by kernel_rfl)), trivial⟩ hT6 ?_
   clear hK K
   try simp only [pz]
   refine wpF_tk 16 (v := ?_) rfl hT6 (by rfl) ?_ ?_
   rotate_left
   ·(intro wq; go_simp; try with_reducible rfl)
   simp only [pz]
   refine wpF_exec 17 rfl (by kernel_rfl) (by rfl) ?_
   intro K hK
   go_simp
   have hT7 : ∀ k, looks [(1, fun z => True), (5, fun z => True)] k ((w8.setCell ⟨r, 5, none⟩ (.slice a8 (D.length + 1) c8))) := looks_all ⟨trivial, trivial, trivial⟩
   refine hK _ _ (looks [(1, fun z => True), (5, fun z => True)]) ⟨.inr (.inl (by kernel_rfl)), .inr (.inl (by kernel_rfl)), trivial⟩ hT7 ?_
   clear hK K
   try simp only [pz]
   refine wpF_done (by kernel_rfl) ?_ _
   obtain ⟨dd, hdd⟩ : ∃ dd : WantR, dd = ⟨m0, m1, m2, m3⟩ := ⟨_, rfl⟩
   have HDD := Lib.hid (show dd = (pWant sr).1 by rw [hdd]; unfold pWant; simp only [← HM0.out, ← HSQ0.out, ← HM1.out, ← HSQ1.out, ← HM2.out, ← HSQ2.out, ← HM3.out, ← HSQ3.out])
   have HSQ := Lib.hid (show sq3 = (pWant sr).2 by unfold pWant; simp only [← HM0.out, ← HSQ0.out, ← HM1.out, ← HSQ1.out, ← HM2.out, ← HSQ2.out, ← HM3.out, ← HSQ3.out])
   have xs : Ext (just r) w8 (w8.setCell ⟨r, 5, none⟩ (.slice a8 (D.length + 1) c8)) := Ext.setCell _ _ _ rfl
   have hb9 : Blk (w8.setCell ⟨r, 5, none⟩ (.slice a8 (D.length + 1) c8)) r [.int .i64 i1, .int .i64 i2, .int .i64 i3, .int .i64 i4, .int .i64 i5, .slice a8 (D ++ [dd]).length c8, .slice none 0 0] := by rw [List.length_append]; exact hb.set 5 (.slice a8 (D.length + 1) c8) (by simp)
   have hz := hz.ext (by simp) xs (fun e => by have e : q = r := e; omega)
   have h9 := h.new xs (by omega) hdr
   have ho9 : Own (w8.setCell ⟨r, 5, none⟩ (.slice a8 (D.length + 1) c8)) (r + 1) a8 4 (D ++ [dd]).length c8 (rows WantR.cells (D ++ [dd])) := by
    rw [rows_append, rows_one, List.length_append, hdd]
    exact ho8.ext xs (fun ad h e => by have := (ho8.base ad h).1; have e : ad.block = r := e; omega)
   have hx9 : Ext (rg R g) w (w8.setCell ⟨r, 5, none⟩ (.slice a8 (D.length + 1) c8)) := hx.trans xs (fun i hi h => by simp only [Esc.just] at h; omega)
   have hNs9 := Nat.le_trans hNs xs.size
   have HL := Lib.hid (show (D ++ [dd]).length = i + 1 by rw [List.length_append, HD.out]; rfl)
   have HN := Lib.hid (show pRow pWant M t = ((D ++ [dd]) ++ (pRow pWant (M - (i + 1)) sq3).1, (pRow pWant (M - (i + 1)) sq3).2) by rw [HPD.out, HPS.out, ← HDD.out, ← HSQ.out]; simp)
   clear hb h ho8 hx hA hdd xs hNs cK f8 hp
   go_wp2_with fail
   go_roundw
   case rel => exact ⟨i + 1, D ++ [dd], a8, c8, sq3, by omega, by go_num, HL.out, HN.out, h9, hb9, hNs9, hz, ho9, hx9⟩
   case measure => simp [intOf]; omega
  ·have e1 : decide (i < M) = false := decF hiM
   have HEND := Lib.hid (show pRow pWant M t = (D, sr) by rw [HPD.out, pRow_end pWant hiM]; simp)
   clear HPD
   have hbr := hb.lt (by simp)
   go_wp2_with fail
   refine (rops_any wr R g sr x h).mono ?_
   rintro e w2 ⟨a2, c2, G, rfl, hGm, hacc, h', hx'⟩
   have hsr := hx.size
   have hs2 := hx'.size
   have hb := hb.ext (by simp) hx' (fun e => by rcases e with e | e <;> omega)
   have hz := hz.ext (by simp) hx' (fun e => by rcases e with e | e <;> omega)
   have hbase := fun ad hb => (hown.base ad hb)
   have hown := hown.ext hx' (fun ad h e => by have := hbase ad h; rcases e with e | e <;> omega)
   replace hx := hx.comp hx'
   obtain ⟨lo, hlo⟩ : ∃ l, l = (wOps sr).1 := ⟨_, rfl⟩
   obtain ⟨sn, hsn⟩ : ∃ l, l = (wOps sr).2 := ⟨_, rfl⟩
   rw [← hlo] at hGm
   rw [← hlo, ← hsn] at h'
   rw [← hlo]
   have HCM := Lib.hid (show wCmd s0 = (⟨i1, i2, i3, i4, i5, D, lo⟩, sn) by
    unfold wCmd
    simp only [← HNi1.out, ← HS1.out, ← HNi2.out, ← HS2.out, ← HNi3.out, ← HS3.out, ← HNi4.out, ← HS4.out, ← HNi5.out, ← HS5.out, HSZ.out, HEND.out, ← hlo, ← hsn])
   clear hlo hsn hx' h HNi1 HS1 HNi2 HS2 HNi3 HS3 HNi4 HS4 HNi5 HS5 HSZ HEND
   have cK := hb.cell 6 _ rfl
   have f8 := hb.fr 6
   go_upto_region 8 with fail
   have xs : Ext (just r) w2 (w2.setCell ⟨r, 6, none⟩ (.slice a2 lo.length c2)) := Ext.setCell _ _ _ rfl
   have hb := hb.set 6 (.slice a2 lo.length c2) (by simp)
   have hz := hz.ext (by simp) xs (by simp only [Esc.just]; omega)
   have h := h'.new xs (by omega) hdr
   have hown := hown.ext xs (fun ad h e => by have := (hown.base ad h).1; have e : ad.block = r := e; omega)
   have hacc := hacc.low xs (fun k e => by have e : k = r := e; have := hbr; omega)
   replace hx : Ext (rg R g) w _ := hx.trans xs (fun i hi h => by simp only [Esc.just] at h; omega)
   clear xs cK f8 h'
   generalize w2.setCell ⟨r, 6, none⟩ (.slice a2 lo.length c2) = w3 at *
   have hb : Blk w3 r [.int .i64 i1, .int .i64 i2, .int .i64 i3, .int .i64 i4, .int .i64 i5, .slice a1 D.length c6, .slice a2 lo.length c2] := hb
   have b0 := hb.cell 0 _ rfl
   have b1 := hb.cell 1 _ rfl
   have b2 := hb.cell 2 _ rfl
   have b3 := hb.cell 3 _ rfl
   have b4 := hb.cell 4 _ rfl
   have b5 := hb.cell 5 _ rfl
   have b6 := hb.cell 6 _ rfl
   have z0 := hz.cell 0 _ rfl
   have z1 := hz.cell 1 _ rfl
   have z2 := hz.cell 2 _ rfl
   have z3 := hz.cell 3 _ rfl
   have z4 := hz.cell 4 _ rfl
   have z5 := hz.cell 5 _ rfl
   have z6 := hz.cell 6 _ rfl
   have f0 := hz.fr 0
   have f1 := hz.fr 1
   have f2 := hz.fr 2
   have f3 := hz.fr 3
   have f4 := hz.fr 4
   have f5 := hz.fr 5
   have f6 := hz.fr 6
   have xs : Ext (just q) w3 (((((((w3.setCell ⟨q, 0, none⟩ (.int .i64 i1)).setCell ⟨q, 1, none⟩ (.int .i64 i2)).setCell ⟨q, 2, none⟩ (.int .i64 i3)).setCell ⟨q, 3, none⟩ (.int .i64 i4)).setCell ⟨q, 4, none⟩ (.int .i64 i5)).setCell ⟨q, 5, none⟩ (.slice a1 D.length c6)).setCell ⟨q, 6, none⟩ (.slice a2 lo.length c2)) := ((((((((Ext.refl (just q) w3).comp (Ext.setCell _ ⟨q, 0, none⟩ (.int .i64 i1) rfl)).comp (Ext.setCell _ ⟨q, 1, none⟩ (.int .i64 i2) rfl)).comp (Ext.setCell _ ⟨q, 2, none⟩ (.int .i64 i3) rfl)).comp (Ext.setCell _ ⟨q, 3, none⟩ (.int .i64 i4) rfl)).comp (Ext.setCell _ ⟨q, 4, none⟩ (.int .i64 i5) rfl)).comp (Ext.setCell _ ⟨q, 5, none⟩ (.slice a1 D.length c6) rfl)).comp (Ext.setCell _ ⟨q, 6, none⟩ (.slice a2 lo.length c2) rfl))
   have hze : Blk (((((((w3.setCell ⟨q, 0, none⟩ (.int .i64 i1)).setCell ⟨q, 1, none⟩ (.int .i64 i2)).setCell ⟨q, 2, none⟩ (.int .i64 i3)).setCell ⟨q, 3, none⟩ (.int .i64 i4)).setCell ⟨q, 4, none⟩ (.int .i64 i5)).setCell ⟨q, 5, none⟩ (.slice a1 D.length c6)).setCell ⟨q, 6, none⟩ (.slice a2 lo.length c2)) q ((⟨i1, i2, i3, i4, i5, D, lo⟩ : CmdR).cells ⟨a1, c6, a2, c2⟩) := (((((((hz.set 0 (.int .i64 i1) (by simp)).set 1 (.int .i64 i2) (by simp)).set 2 (.int .i64 i3) (by simp)).set 3 (.int .i64 i4) (by simp)).set 4 (.int .i64 i5) (by simp)).set 5 (.slice a1 D.length c6) (by simp)).set 6 (.slice a2 lo.length c2) (by simp))
   have hxe : Ext (rg R g) w (((((((w3.setCell ⟨q, 0, none⟩ (.int .i64 i1)).setCell ⟨q, 1, none⟩ (.int .i64 i2)).setCell ⟨q, 2, none⟩ (.int .i64 i3)).setCell ⟨q, 3, none⟩ (.int .i64 i4)).setCell ⟨q, 4, none⟩ (.int .i64 i5)).setCell ⟨q, 5, none⟩ (.slice a1 D.length c6)).setCell ⟨q, 6, none⟩ (.slice a2 lo.length c2)) := hx.trans xs (fun i hi h => by simp only [Esc.just] at h; omega)
   have h := h.new xs (by omega) hdq
   have hown := hown.ext xs (fun ad h e => by have := (hown.base ad h).1; have e : ad.block = q := e; omega)
   have hacc := hacc.low xs (fun k e => by have e : k = q := e; omega)
   go_wp2_with fail
   generalize (((((((w3.setCell ⟨q, 0, none⟩ (.int .i64 i1)).setCell ⟨q, 1, none⟩ (.int .i64 i2)).setCell ⟨q, 2, none⟩ (.int .i64 i3)).setCell ⟨q, 3, none⟩ (.int .i64 i4)).setCell ⟨q, 4, none⟩ (.int .i64 i5)).setCell ⟨q, 5, none⟩ (.slice a1 D.length c6)).setCell ⟨q, 6, none⟩ (.slice a2 lo.length c2)) = wz at *
   refine bodyPost_ret (v := (⟨i1, i2, i3, i4, i5, D, lo⟩ : CmdR).val ⟨a1, c6, a2, c2⟩) ?_ rfl ⟨⟨a1, c6, a2, c2⟩, by rw [HCM.out], ?_, by rw [HCM.out]; exact h, hxe⟩
   ·exact cmd_result rfl _ _ (by rfl) hze
   ·rw [HCM.out]
    intro S wy hy hS
    have hacc2 := hacc.keep hy (fun k hk => by have := hS k hk; omega)
    have hin := hacc2.in
    rw [hGm] at hin
    exact ⟨own_keep hown (by omega) hy hS, hin, hown.nc, by have := hacc2.own.nc; rw [← hGm, List.length_map]; exact this, hown.cm, hacc2.own.cm⟩
end Go.Proofs.YtddobhihjljcgaaGreat
