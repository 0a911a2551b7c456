/- Walks of the package code: Ints of a reader. -/
import Derived.Test.YtddobhihjljcgaaCodeG
namespace Go.Proofs.Ytddobhihjljcgaa
open Go.RowKit Go.Esc
set_option linter.unusedVariables false

theorem neqNil (w : World) (x : Value) (u : TypeId) : (binOp .neq 20 (.iface u x) .nilIface).run Try.prog w = .ok (.bool true) w := by
  simp [go_sem]

theorem ints1_panicking (w : World) (g b b2 : Nat) {d : Option Nat} (v : Value) (l : List UInt8) (er k : Int) (older : List PanicEntry) (h : Rdr w g d l er) (hb : w.cell? ⟨b, 0, none⟩ = some (.pointer (some ⟨g, 0, none⟩)))
    (hb2 : w.cell? ⟨b2, 0, none⟩ = some v) (hf2 : w.frozen? ⟨b2, 0, none⟩ = false) (hne : b2 ≠ b) (hne2 : b2 ≠ g) (hd : ∀ i, d = some i → i ≠ b2) :
    CallsD Try.prog 99 #[.pointer (some ⟨b2, 0, none⟩), .pointer (some ⟨b, 0, none⟩)] (.panicking ({ v := .iface 138 (.int .i64 k), recovered := false } :: older)) w fun e u' w' =>
      e = .returned (.tuple #[]) ∧ u' = .panicking ({ v := .iface 138 (.int .i64 k), recovered := true } :: older) ∧ Rdr w' g d l (fails er k) ∧ w'.cell? ⟨b2, 0, none⟩ = some (.slice none 0 0) ∧ Ext (fun i => i = g ∨ i = b2) w w' := by
  refine callsD_of_wpS Try.func99 rfl fun c₀ cs hu => ?_
  apply wpS_seq
  apply wpS_region
  simp [wpOpsS, go_sem, recoverD, hu, Try.ntmps99, Exit.thenS]
  apply wpS_of_wp
  go_wp2_with fail
  have hxs : Ext (just b2) w (w.setCell ⟨b2, 0, none⟩ (.slice none 0 0)) := Ext.setCell _ _ _ rfl
  refine (caught_wrong _ g l er k (h.ext hxs (fun hh => hne2 hh.symm) (fun i hi hh => hd i hi hh))).mono ?_
  rintro e w1 ⟨rfl, hr, hx⟩
  go_wp2_with fail
  simp [bodyPostS, results, Try.results99]
  refine ⟨hr, hx.keeps (World.cell?_setCell_same _ _ _ hb2) hne2, ?_⟩
  exact (hxs.mono (fun i _ hi => .inr hi)).comp (hx.mono (fun i _ hi => .inl hi))

theorem ints1_returning (w : World) (b b2 : Nat) (p : Value) (hb : w.cell? ⟨b, 0, none⟩ = some p) :
    CallsD Try.prog 99 #[.pointer (some ⟨b2, 0, none⟩), .pointer (some ⟨b, 0, none⟩)] .returning w fun e u' w' => e = .returned (.tuple #[]) ∧ u' = .returning ∧ w = w' := by
  refine callsD_of_wpS Try.func99 rfl fun c₀ cs hu => ?_
  apply wpS_seq
  apply wpS_region
  simp [wpOpsS, go_sem, recoverD, hu, Try.ntmps99, Exit.thenS]
  apply wpS_of_wp
  go_wp2_with fail
  refine (caught_nil w _).mono ?_
  rintro e w1 ⟨rfl, rfl⟩
  go_wp2_with fail
  cases c₀
  simp_all [bodyPostS, results, Try.results99]
/-- What a face that answers a list leaves. -/
def IntsEnd (s : RS) (w : World) (g : Nat) (d : Option Nat) (e : Ending) (w' : World) : Prop :=
  ∃ a c, e = .returned (.slice a (rInts s).1.length c) ∧ Rd w' a (is (rInts s).1) ∧ (∀ ad, a = some ad → w.heap.size ≤ ad.block) ∧ Rdr w' g d (rInts s).2.l (rInts s).2.e ∧ Ext (just g) w w'

/-- The state of the loop of Ints. -/
structure IntsInv (w : World) (g : Nat) (d : Option Nat) (n : Nat) (r0 : List UInt8) (k : Nat) (acc : List Int) (l' : List UInt8) (a : Option Addr) (c : Nat) (wr : World) : Prop where
  len : acc.length = k
  nums : rNums n [] r0 = rNums (n - k) acc l'
  rdr : Rdr wr g d l' 0
  cell : wr.cell? ⟨w.heap.size + 1, 0, none⟩ = some (.slice a k c)
  fr : wr.frozen? ⟨w.heap.size + 1, 0, none⟩ = false
  box : wr.cell? ⟨w.heap.size, 0, none⟩ = some (.pointer (some ⟨g, 0, none⟩))
  own : Own wr (w.heap.size + 2) a 1 k c (is acc)
  ext : Ext (just g) w wr
  size : w.heap.size + 2 ≤ wr.heap.size

theorem rNums_step {n k : Nat} {acc : List Int} {l r : List UInt8} {u : Nat} (hk : k < n) (h : scan 0 true l = (.inr u, r)) : rNums (n - k) acc l = rNums (n - (k + 1)) (acc ++ [sgn u]) r := by
  obtain ⟨m, hm⟩ : ∃ m, n - k = m + 1 := ⟨n - k - 1, by omega⟩
  rw [hm, show n - (k + 1) = m from by omega, rNums, h]
theorem rNums_stop {n k : Nat} {acc : List Int} {l r : List UInt8} {q : Nat} (hk : k < n) (h : scan 0 true l = (.inl q, r)) : rNums (n - k) acc l = (.inl q, r) := by
  obtain ⟨m, hm⟩ : ∃ m, n - k = m + 1 := ⟨n - k - 1, by omega⟩
  rw [hm, rNums, h]

/-- The way out by a panic of the package, at the door. -/
theorem ints_door (w : World) (g : Nat) {d : Option Nat} (s : RS) (r : List UInt8) (k : Nat) (v : Value) (w1 : World) (tmps : Array Value) (htm : tmps[2]? = some (.pointer (some ⟨w.heap.size + 1, 0, none⟩))) (hg : g < w.heap.size) (hdlt : ∀ i, d = some i → i < w.heap.size)
    (hr : Rdr w1 g d r 0) (hx : Ext (just g) w w1) (hbox : w1.cell? ⟨w.heap.size, 0, none⟩ = some (.pointer (some ⟨g, 0, none⟩))) (hcell : w1.cell? ⟨w.heap.size + 1, 0, none⟩ = some v) (hfr : w1.frozen? ⟨w.heap.size + 1, 0, none⟩ = false) (hs : rInts s = ([], ⟨r, k⟩)) :
    Leaves Try.prog Try.f87 tmps (IntsEnd s w g d) [{ target := .fn (.func 99) #[.pointer (some ⟨w.heap.size + 1, 0, none⟩), .pointer (some ⟨w.heap.size, 0, none⟩)], args := #[] }]
      (.panicking [{ v := .iface 138 (.int .i64 k), recovered := false }]) w1 := by
  refine leaves_cons (f := 99) (args := #[.pointer (some ⟨w.heap.size + 1, 0, none⟩), .pointer (some ⟨w.heap.size, 0, none⟩)]) (by simp) (by simp [go_sem]) ?_
  refine (ints1_panicking w1 g w.heap.size (w.heap.size + 1) v r 0 k [] hr hbox hcell hfr (by omega) (by omega) (fun i hi => by have := hdlt i hi; omega)).mono ?_
  rintro e u' w2 ⟨rfl, rfl, hr2, hc2, hx2⟩
  refine ⟨.slice none 0 0, ?_, ?_⟩
  · simp [results, Try.results87, go_sem, htm, hc2]
  · refine ⟨none, 0, by rw [hs]; rfl, by rw [hs]; exact Rd.nil _ _, fun ad h => (by cases h), by rw [hs]; exact hr2, hx.trans hx2 ?_⟩
    rintro i hi (rfl | rfl)
    · rfl
    · omega

/-- The way out with no panic. -/
theorem ints_out (w : World) (g : Nat) {d : Option Nat} (s : RS) (w3 : World) (a : Option Addr) (c : Nat) (tmps : Array Value) (htm : tmps[2]? = some (.pointer (some ⟨w.heap.size + 1, 0, none⟩)))
    (hr : Rdr w3 g d (rInts s).2.l (rInts s).2.e) (hx : Ext (just g) w w3) (hbox : w3.cell? ⟨w.heap.size, 0, none⟩ = some (.pointer (some ⟨g, 0, none⟩))) (hcell : w3.cell? ⟨w.heap.size + 1, 0, none⟩ = some (.slice a (rInts s).1.length c))
    (hrd : Rd w3 a (is (rInts s).1)) (hfr : ∀ ad, a = some ad → w.heap.size ≤ ad.block) :
    Leaves Try.prog Try.f87 tmps (IntsEnd s w g d) [{ target := .fn (.func 99) #[.pointer (some ⟨w.heap.size + 1, 0, none⟩), .pointer (some ⟨w.heap.size, 0, none⟩)], args := #[] }]
      .returning w3 := by
  refine leaves_cons (f := 99) (args := #[.pointer (some ⟨w.heap.size + 1, 0, none⟩), .pointer (some ⟨w.heap.size, 0, none⟩)]) (by simp) (by simp [go_sem]) ?_
  refine (ints1_returning w3 w.heap.size (w.heap.size + 1) _ hbox).mono ?_
  rintro e u' w2 ⟨rfl, rfl, rfl⟩
  refine ⟨.slice a (rInts s).1.length c, ?_, ?_⟩
  · simp [results, Try.results87, go_sem, htm, hcell]
  · exact ⟨a, c, rfl, hrd, hfr, hr, hx⟩

theorem IntsInv.step (w : World) (g : Nat) (d : Option Nat) (n : Nat) (r : List UInt8) (k : Nat) (acc : List Int) (r' : List UInt8) (a : Option Addr) (c : Nat) (w1 w2 : World) (u : Nat) (a2 : Option Addr) (c2 : Nat) (ti : TypeId) (hg : g < w.heap.size) (hdlt : ∀ i, d = some i → i < w.heap.size)
    (hlen : acc.length = k) (hnums : rNums n [] r = rNums (n - (k + 1)) (acc ++ [sgn u]) r') (hr1 : Rdr w1 g d r' 0) (hcell : w1.cell? ⟨w.heap.size + 1, 0, none⟩ = some (.slice a k c)) (hfr : w1.frozen? ⟨w.heap.size + 1, 0, none⟩ = false)
    (hbox : w1.cell? ⟨w.heap.size, 0, none⟩ = some (.pointer (some ⟨g, 0, none⟩))) (hown : Own w1 (w.heap.size + 2) a 1 k c (is acc)) (hext : Ext (just g) w w1) (hsz : w.heap.size + 2 ≤ w1.heap.size)
    (happ : App (w1.alloc (.cells #[.int .i64 (sgn u)] ti)) w2 (w.heap.size + 2) 1 a k c (is acc) a2 c2 1 [.int .i64 (sgn u)]) :
    IntsInv w g d n r (k + 1) (acc ++ [sgn u]) r' a2 c2 (w2.setCell ⟨w.heap.size + 1, 0, none⟩ (.slice a2 (k + 1) c2)) ∧ w2.cell? ⟨w.heap.size + 1, 0, none⟩ = some (.slice a k c) ∧ w2.frozen? ⟨w.heap.size + 1, 0, none⟩ = false := by
  have hba : ∀ i, blk a i → w.heap.size + 2 ≤ i := by
    rintro i ⟨ad, ha, rfl⟩
    exact (hown.base ad ha).1
  have hx2 : Ext (blk a) w1 w2 := (Ext.alloc _ _ _).comp happ.ext
  have hc2 : w2.cell? ⟨w.heap.size + 1, 0, none⟩ = some (.slice a k c) := hx2.keeps hcell (fun h => by have := hba _ h; simp only at this; omega)
  have hf2 : w2.frozen? ⟨w.heap.size + 1, 0, none⟩ = false := by
    rw [hx2.frozen (p := ⟨w.heap.size + 1, 0, none⟩) (World.block_lt_of_cell? _ _ hcell) (fun h => by have := hba _ h; simp only at this; omega)]; exact hfr
  have hxs : Ext (just (w.heap.size + 1)) w2 (w2.setCell ⟨w.heap.size + 1, 0, none⟩ (.slice a2 (k + 1) c2)) := Ext.setCell _ _ _ rfl
  refine ⟨⟨by simp [hlen], hnums, ?_, World.cell?_setCell_same _ _ _ hc2, ?_, ?_, ?_, ?_, ?_⟩, hc2, hf2⟩
  · refine (hr1.ext hx2 (fun h => by have := hba _ h; omega) (fun i hi h => by have := hba _ h; have := hdlt i hi; omega)).ext hxs (fun h => by simp only [Esc.just] at h; omega) (fun i hi h => by have := hdlt i hi; simp only [Esc.just] at h; omega)
  · have := World.frozen?_setCells (w.heap.size + 1) [.slice a2 (k + 1) c2] 0 w2 ⟨w.heap.size + 1, 0, none⟩
    exact this.trans hf2
  · exact hxs.keeps (hx2.keeps hbox (fun h => by have := hba _ h; simp only at this; omega)) (fun h => by simp only [Esc.just] at h; omega)
  · have := happ.own.ext hxs (fun ad ha h => by have := (happ.own.base ad ha).1; simp only [Esc.just] at h; omega)
    rwa [show is acc ++ [Value.int .i64 (sgn u)] = is (acc ++ [sgn u]) from by simp [is, I64]] at this
  · refine (hext.trans hx2 (fun i hi h => by have := hba _ h; omega)).trans hxs (fun i hi h => by simp only [Esc.just] at h; omega)
  · have := hx2.size
    simp
    omega

set_option maxHeartbeats 2000000 in
theorem rdInts_any (w : World) (g : Nat) {d : Option Nat} (s : RS) (h : Rdr w g d s.l s.e) :
    Calls Try.prog 87 #[.pointer (some ⟨g, 0, none⟩)] w (IntsEnd s w g d) := by
  have hmf := mkFunc
  have hx0 : Ext (just g) w ((w.alloc (.cells #[.pointer (some ⟨g, 0, none⟩)] 77)).alloc (.cells #[.slice none 0 0] 30)) := (Ext.alloc _ _ _).comp (Ext.alloc _ _ _)
  have h1 := (h.no (Ext.alloc no w (.cells #[.pointer (some ⟨g, 0, none⟩)] 77))).no (Ext.alloc no _ (.cells #[.slice none 0 0] 30))
  have hg := h.lt
  have hc := h1.err
  have hdlt : ∀ i, d = some i → i < w.heap.size := fun i hi => (h.sep i hi).2
  by_cases h0 : s.e = 0
  · rw [h0] at h1 hc
    have H0 := Lib.hid h0
    clear h0
    go_enter_defers Try.func87, Try.ntmps87
    go_wp2_with fail
    refine (size_any _ g s.l 0 h1).mono ?_
    rintro e w1 ⟨r, hr1, hx1, ⟨n, hn, hlen, rfl⟩ | ⟨k, hlen, rfl⟩⟩
    · have Hlen := Lib.hid hlen
      clear hlen
      have hx01 := hx0.comp hx1
      have hsz1 := hx1.size
      simp only [World.size_alloc] at hsz1
      have hinv : IntsInv w g d n r 0 [] r none 0 w1 := ⟨rfl, by rw [Nat.sub_zero], hr1, hx1.keeps (by simp) (by simp only [Esc.just]; omega),
        by rw [hx1.frozen (p := ⟨w.heap.size + 1, 0, none⟩) (by simp) (by simp only [Esc.just]; omega)]; simp, hx1.keeps (by rw [World.cell?_alloc_past _ _ _ (by simp)]; simp) (by simp only [Esc.just]; omega), Own.nil _ _ _, hx01, by omega⟩
      go_wp2_with fail
      go_loopw [11] (fun s11 wr => ∃ (k : Nat) (acc : List Int) (l' : List UInt8) (a : Option Addr) (c : Nat), k ≤ n ∧ s11 = .int .i64 k ∧ IntsInv w g d n r k acc l' a c wr) (fun s11 _ => n - (intOf s11).toNat)
      case atStart => exact ⟨0, [], r, none, 0, Nat.zero_le _, rfl, hinv⟩
      case round =>
        clear hinv hx01 hx1 hsz1 hr1 hx0 h1 hc
        obtain ⟨k, acc, l', a, c, hk, rfl, hi⟩ := hrel
        have hcell := hi.cell
        have hfr := hi.fr
        have hbox := hi.box
        by_cases hlt : k < n
        · go_upto_region 5 with fail
          refine wp_region_lin (by kernel_rfl) [[0, 1, 2, 3, 4, 5], [1, 0, 2, 3, 4, 5], [1, 2, 0, 3, 4, 5], [1, 2, 3, 0, 4, 5]] (by kernel_rfl) ?_
          intro js hjs
          simp only [List.mem_cons, List.not_mem_nil, or_false] at hjs
          rcases hjs with rfl | rfl | rfl | rfl
          all_goals
            simp only [picked, opAt]
            go_wp2_with fail
            refine (number_any _ g l' 0 (hi.rdr.no (Ext.drew no _))).mono ?_
            rintro e w1 ⟨r', hr1, hx1, ⟨u, hsc, rfl⟩ | ⟨q, hsc, rfl⟩⟩
            · have Hsc := Lib.hid hsc
              have hx1' := (Ext.drew (just g) wr).comp hx1
              have hcell1 := hx1'.keeps hcell (by simp only [Esc.just]; omega)
              have hfr1 : w1.frozen? ⟨w.heap.size + 1, 0, none⟩ = false := by
                rw [hx1'.frozen (p := ⟨w.heap.size + 1, 0, none⟩) (World.block_lt_of_cell? _ _ hcell) (by simp only [Esc.just]; omega)]; exact hfr
              have hbox1 := hx1'.keeps hbox (by simp only [Esc.just]; omega)
              have hown1 := hi.own.ext hx1' (fun ad ha hh => by have h1 := (hi.own.base ad ha).1; have h2 : ad.block = g := hh; omega)
              have hsz1 : w.heap.size + 2 ≤ w1.heap.size := Nat.le_trans hi.size hx1'.size
              have hlen := hi.len
              have hnums := hi.nums
              have hext1 := hi.ext.comp hx1'
              rw [rNums_step hlt hsc] at hnums
              have Hnums := Lib.hid hnums
              have Hlen := Lib.hid hlen
              clear hsc hi hcell hfr hbox hx1 hx1' hnums hlen
              have hrd := Rd.one w1 (.int .i64 (sgn u)) 3 (0, 0)
              have hsz2 : w.heap.size + 1 < w1.heap.size := by omega
              go_wp2_with (at_builtin; refine wpList_append TInts rfl rfl rfl (hown1.alloc _) rfl hrd (by simp) ?_ ?_ ?_ ?_ ?_)
              case refine_1 => intro v hv; simp at hv; subst hv; rfl
              case refine_2 => unfold maxLen; omega
              case refine_3 => omega
              case refine_4 => simp; omega
              case refine_5 =>
                intro a2 c2 w2 happ
                have hst := IntsInv.step w g d n r k acc r' a c w1 w2 u a2 c2 3 hg hdlt Hlen.out Hnums.out hr1 hcell1 hfr1 hbox1 hown1 hext1 hsz1 happ
                have hc2 : ∃ v, w2.cell? ⟨w.heap.size + 1, 0, none⟩ = some v := ⟨_, hst.2.1⟩
                obtain ⟨v2, hc2⟩ := hc2
                have hf2 := hst.2.2
                have hst := hst.1
                clear happ hcell1 hfr1 hbox1 hown1 hrd hext1
                go_wp2_with fail
                go_roundw
                case rel => exact ⟨k + 1, acc ++ [sgn u], r', a2, c2, by omega, by go_num, hst⟩
                case measure => simp [intOf]; omega
            · have hx1' := (Ext.drew (just g) wr).comp hx1
              have hnums := hi.nums
              rw [rNums_stop hlt hsc] at hnums
              have hext1 := hi.ext.comp hx1'
              have hcell1 := hx1'.keeps hcell (by simp only [Esc.just]; omega)
              have hfr1 : w1.frozen? ⟨w.heap.size + 1, 0, none⟩ = false := by
                rw [hx1'.frozen (p := ⟨w.heap.size + 1, 0, none⟩) (World.block_lt_of_cell? _ _ hcell) (by simp only [Esc.just]; omega)]; exact hfr
              have hbox1 := hx1'.keeps hbox (by simp only [Esc.just]; omega)
              have hsr := rInts_bad H0.out Hlen.out hnums
              have Hsr := Lib.hid hsr
              clear hsc hi hcell hfr hbox hx1 hx1' hnums hsr
              go_wp2_with fail
              exact ints_door w g s r' q _ w1 _ rfl hg hdlt hr1 hext1 hbox1 hcell1 hfr1 Hsr.out
        · obtain rfl : k = n := by omega
          go_wp2_with fail
          have hnums := hi.nums
          rw [Nat.sub_self] at hnums
          have hres := rInts_ok H0.out Hlen.out (show rNums k [] r = (.inr acc, l') from hnums)
          have hxs : Ext (just (w.heap.size + 1)) wr (wr.setCell ⟨w.heap.size + 1, 0, none⟩ (.slice a k c)) := Ext.setCell _ _ _ rfl
          exact ints_out w g s _ a c _ rfl (by rw [hres]; exact hi.rdr.ext hxs (fun h => by simp only [Esc.just] at h; omega) (fun i hi h => by have := hdlt i hi; simp only [Esc.just] at h; omega)) (hi.ext.trans hxs (fun i hi h => by simp only [Esc.just] at h; omega))
            (hxs.keeps hbox (fun h => by simp only [Esc.just] at h; omega)) (by rw [hres]; simp only [hi.len]; exact World.cell?_setCell_same _ _ _ hcell) (by rw [hres]; have := hi.own.ext hxs (fun ad ha h => by have := (hi.own.base ad ha).1; simp only [Esc.just] at h; omega); exact this.rd) (fun ad ha => by have := (hi.own.base ad ha).1; omega)
    · have Hlen := Lib.hid hlen
      clear hlen
      go_wp2_with fail
      exact ints_door w g s r k (.slice none 0 0) w1 _ rfl hg hdlt hr1 (hx0.comp hx1) (hx1.keeps (by rw [World.cell?_alloc_past _ _ _ (by simp)]; simp) (by simp only [Esc.just]; omega)) (hx1.keeps (by simp) (by simp only [Esc.just]; omega)) (by rw [hx1.frozen (p := ⟨w.heap.size + 1, 0, none⟩) (by simp) (by simp only [Esc.just]; omega)]; simp) (rInts_err H0.out Hlen.out)
  · have hb : (s.e == 0) = false := by rw [beq_eq_false_iff_ne]; exact h0
    have H0 := Lib.hid h0
    clear h0
    go_enter_defers Try.func87, Try.ntmps87
    go_wp2_with fail
    refine ints_out w g s _ none 0 _ rfl (by rw [rInts_skip H0.out]; exact h1) hx0 (by rw [World.cell?_alloc_past _ _ _ (by simp)]; simp) (by rw [rInts_skip H0.out]; simp) (by rw [rInts_skip H0.out]; exact Rd.nil _ _) (fun ad h => by cases h)
end Go.Proofs.Ytddobhihjljcgaa
