/- A collection whose rows the call owns, plainly. -/
import Derived.Test.YtejmmkjpncpedaaGreatRowB
import Derived.Test.YtejmmkjpncpedaaGreatCoR
namespace Go.Esc
open Go.RowKit
def Six.at (h : Six) : Nat → Option Addr
  | 0 => h.v
  | 1 => h.r
  | 2 => h.e
  | 3 => h.g
  | 4 => h.s
  | 5 => h.b
  | _ => none
/-- The rows of C lie at h, each in a block of its own, from block B on. -/
structure Mine (C : CollR) (w : World) (B : Nat) (h : Six) : Prop where
  v : Own w B h.v 3 C.v.length h.vc (rows DotR.cells C.v)
  r : Own w B h.r 7 C.regs.length h.rc (rows RegR.cells C.regs)
  e : Own w B h.e 6 C.elems.length h.ec (rows ElemR.cells C.elems)
  g : Own w B h.g 3 C.gone.length h.gc (rows DotR.cells C.gone)
  s : Own w B h.s 2 C.sums.length h.sc (rows SumR.cells C.sums)
  b : Own w B h.b 6 C.binds.length h.bc (rows BindR.cells C.binds)
  ap : ∀ i j, i ≠ j → Apart (h.at i) (h.at j)
theorem Mine.isIn {C : CollR} {w : World} {B : Nat} {h : Six} (m : Mine C w B h) : C.In w h :=
  ⟨m.v.rd, m.r.rd, m.e.rd, m.g.rd, m.s.rd, m.b.rd, m.v.nc, m.r.nc, m.e.nc, m.g.nc, m.s.nc, m.b.nc, m.v.cm, m.r.cm, m.e.cm, m.g.cm, m.s.cm, m.b.cm⟩
theorem Mine.base {C : CollR} {w : World} {B : Nat} {h : Six} (m : Mine C w B h) (i : Nat) (ad : Addr) (hi : h.at i = some ad) : B ≤ ad.block ∧ ad.block < w.heap.size := by
  match i, hi with
  | 0, hi => exact ⟨(m.v.base ad hi).1, (m.v.base ad hi).2.1⟩
  | 1, hi => exact ⟨(m.r.base ad hi).1, (m.r.base ad hi).2.1⟩
  | 2, hi => exact ⟨(m.e.base ad hi).1, (m.e.base ad hi).2.1⟩
  | 3, hi => exact ⟨(m.g.base ad hi).1, (m.g.base ad hi).2.1⟩
  | 4, hi => exact ⟨(m.s.base ad hi).1, (m.s.base ad hi).2.1⟩
  | 5, hi => exact ⟨(m.b.base ad hi).1, (m.b.base ad hi).2.1⟩
  | n + 6, hi => cases hi
theorem Mine.ext {C : CollR} {w w' : World} {B : Nat} {h : Six} {S : Nat → Prop} (m : Mine C w B h) (hx : Ext S w w') (hS : ∀ i ad, h.at i = some ad → ¬ S ad.block) : Mine C w' B h :=
  ⟨m.v.ext hx (hS 0), m.r.ext hx (hS 1), m.e.ext hx (hS 2), m.g.ext hx (hS 3), m.s.ext hx (hS 4), m.b.ext hx (hS 5), m.ap⟩
theorem Mine.no {C : CollR} {w w' : World} {B : Nat} {h : Six} (m : Mine C w B h) (hx : Ext no w w') : Mine C w' B h := m.ext hx (fun _ _ _ h => h)
theorem Mine.mono {C : CollR} {w : World} {B B' : Nat} {h : Six} (m : Mine C w B h) (hB : B' ≤ B) : Mine C w B' h :=
  ⟨m.v.mono hB, m.r.mono hB, m.e.mono hB, m.g.mono hB, m.s.mono hB, m.b.mono hB, m.ap⟩
/-- What was written lay in row number k. -/
theorem Mine.other {C : CollR} {w w' : World} {B : Nat} {h : Six} (m : Mine C w B h) (k : Nat) (_hx : Ext (blk (h.at k)) w w') : ∀ i, i ≠ k → ∀ ad, h.at i = some ad → ¬ blk (h.at k) ad.block := by
  rintro i hi ad ha ⟨x, hxx, hb⟩
  exact m.ap k i (Ne.symm hi) x ad hxx ha hb
theorem Mine.setR {C : CollR} {w w' : World} {B : Nat} {h : Six} (m : Mine C w B h) {l : List RegR} {a : Option Addr} {c n : Nat} (hn : n = l.length) (ho : Own w' B a 7 n c (rows RegR.cells l)) (hx : Ext (blk h.r) w w') (hnr : Near h.r w a) : Mine { C with regs := l } w' B { h with r := a, rc := c } := by
  subst hn
  have O := m.other 1 hx
  exact ⟨m.v.ext hx (O 0 (by omega)), ho, m.e.ext hx (O 2 (by omega)), m.g.ext hx (O 3 (by omega)), m.s.ext hx (O 4 (by omega)), m.b.ext hx (O 5 (by omega)),
    apart_upd m.ap (fun i ad hi => (m.base i ad hi).2) 1 (fun i hi => by rcases i with _ | _ | _ | _ | _ | _ | i <;> first | rfl | exact absurd rfl hi) hnr⟩
theorem Mine.setE {C : CollR} {w w' : World} {B : Nat} {h : Six} (m : Mine C w B h) {l : List ElemR} {a : Option Addr} {c n : Nat} (hn : n = l.length) (ho : Own w' B a 6 n c (rows ElemR.cells l)) (hx : Ext (blk h.e) w w') (hnr : Near h.e w a) : Mine { C with elems := l } w' B { h with e := a, ec := c } := by
  subst hn
  have O := m.other 2 hx
  exact ⟨m.v.ext hx (O 0 (by omega)), m.r.ext hx (O 1 (by omega)), ho, m.g.ext hx (O 3 (by omega)), m.s.ext hx (O 4 (by omega)), m.b.ext hx (O 5 (by omega)),
    apart_upd m.ap (fun i ad hi => (m.base i ad hi).2) 2 (fun i hi => by rcases i with _ | _ | _ | _ | _ | _ | i <;> first | rfl | exact absurd rfl hi) hnr⟩
theorem Mine.setG {C : CollR} {w w' : World} {B : Nat} {h : Six} (m : Mine C w B h) {l : List DotR} {a : Option Addr} {c n : Nat} (hn : n = l.length) (ho : Own w' B a 3 n c (rows DotR.cells l)) (hx : Ext (blk h.g) w w') (hnr : Near h.g w a) : Mine { C with gone := l } w' B { h with g := a, gc := c } := by
  subst hn
  have O := m.other 3 hx
  exact ⟨m.v.ext hx (O 0 (by omega)), m.r.ext hx (O 1 (by omega)), m.e.ext hx (O 2 (by omega)), ho, m.s.ext hx (O 4 (by omega)), m.b.ext hx (O 5 (by omega)),
    apart_upd m.ap (fun i ad hi => (m.base i ad hi).2) 3 (fun i hi => by rcases i with _ | _ | _ | _ | _ | _ | i <;> first | rfl | exact absurd rfl hi) hnr⟩
theorem Mine.setS {C : CollR} {w w' : World} {B : Nat} {h : Six} (m : Mine C w B h) {l : List SumR} {a : Option Addr} {c n : Nat} (hn : n = l.length) (ho : Own w' B a 2 n c (rows SumR.cells l)) (hx : Ext (blk h.s) w w') (hnr : Near h.s w a) : Mine { C with sums := l } w' B { h with s := a, sc := c } := by
  subst hn
  have O := m.other 4 hx
  exact ⟨m.v.ext hx (O 0 (by omega)), m.r.ext hx (O 1 (by omega)), m.e.ext hx (O 2 (by omega)), m.g.ext hx (O 3 (by omega)), ho, m.b.ext hx (O 5 (by omega)),
    apart_upd m.ap (fun i ad hi => (m.base i ad hi).2) 4 (fun i hi => by rcases i with _ | _ | _ | _ | _ | _ | i <;> first | rfl | exact absurd rfl hi) hnr⟩
theorem Mine.setB {C : CollR} {w w' : World} {B : Nat} {h : Six} (m : Mine C w B h) {l : List BindR} {a : Option Addr} {c n : Nat} (hn : n = l.length) (ho : Own w' B a 6 n c (rows BindR.cells l)) (hx : Ext (blk h.b) w w') (hnr : Near h.b w a) : Mine { C with binds := l } w' B { h with b := a, bc := c } := by
  subst hn
  have O := m.other 5 hx
  exact ⟨m.v.ext hx (O 0 (by omega)), m.r.ext hx (O 1 (by omega)), m.e.ext hx (O 2 (by omega)), m.g.ext hx (O 3 (by omega)), m.s.ext hx (O 4 (by omega)), ho,
    apart_upd m.ap (fun i ad hi => (m.base i ad hi).2) 5 (fun i hi => by rcases i with _ | _ | _ | _ | _ | _ | i <;> first | rfl | exact absurd rfl hi) hnr⟩
theorem Mine.setV {C : CollR} {w w' : World} {B : Nat} {h : Six} (m : Mine C w B h) {l : List DotR} {a : Option Addr} {c n : Nat} (hn : n = l.length) (ho : Own w' B a 3 n c (rows DotR.cells l)) (hx : Ext (blk h.v) w w') (hnr : Near h.v w a) : Mine { C with v := l } w' B { h with v := a, vc := c } := by
  subst hn
  have O := m.other 0 hx
  exact ⟨ho, m.r.ext hx (O 1 (by omega)), m.e.ext hx (O 2 (by omega)), m.g.ext hx (O 3 (by omega)), m.s.ext hx (O 4 (by omega)), m.b.ext hx (O 5 (by omega)),
    apart_upd m.ap (fun i ad hi => (m.base i ad hi).2) 0 (fun i hi => by rcases i with _ | _ | _ | _ | _ | _ | i <;> first | rfl | exact absurd rfl hi) hnr⟩
theorem atCmp_isAt' {α K : Type} [DecidableEq K] {κ : α → K} {lt : K → K → Bool} {cmp : α → Int} {key : K} (l : List α) (hz : ∀ x, cmp x = 0 ↔ κ x = key) : (match l[posOf κ lt key l]? with | some x => decide (cmp x = 0) | none => false) = isAt κ lt key l := by
  unfold isAt
  cases l[posOf κ lt key l]? with
  | none => rfl
  | some x => exact decide_eq_decide.2 (hz x)
theorem six_apart {h : Six} {s0 s1 s2 s3 s4 s5 s6 : Nat} (h0 : ∀ ad, h.v = some ad → s0 ≤ ad.block ∧ ad.block < s1) (h1 : ∀ ad, h.r = some ad → s1 ≤ ad.block ∧ ad.block < s2) (h2 : ∀ ad, h.e = some ad → s2 ≤ ad.block ∧ ad.block < s3)
    (h3 : ∀ ad, h.g = some ad → s3 ≤ ad.block ∧ ad.block < s4) (h4 : ∀ ad, h.s = some ad → s4 ≤ ad.block ∧ ad.block < s5) (h5 : ∀ ad, h.b = some ad → s5 ≤ ad.block ∧ ad.block < s6) (m0 : s0 ≤ s1) (m1 : s1 ≤ s2) (m2 : s2 ≤ s3) (m3 : s3 ≤ s4) (m4 : s4 ≤ s5) (m5 : s5 ≤ s6) :
    ∀ i j, i ≠ j → Apart (h.at i) (h.at j) := by
  obtain ⟨S, hS⟩ : ∃ S : Nat → Nat, S = fun | 0 => s0 | 1 => s1 | 2 => s2 | 3 => s3 | 4 => s4 | 5 => s5 | _ => s6 := ⟨_, rfl⟩
  have st : ∀ i, S i ≤ S (i + 1) := by
    intro i; subst hS
    match i with
    | 0 => exact m0
    | 1 => exact m1
    | 2 => exact m2
    | 3 => exact m3
    | 4 => exact m4
    | 5 => exact m5
    | n + 6 => exact Nat.le_refl _
  have mono : ∀ d i, S i ≤ S (i + d) := by
    intro d
    induction d with
    | zero => intro i; exact Nat.le_refl _
    | succ d ih => intro i; exact Nat.le_trans (ih i) (st (i + d))
  have lo : ∀ i ad, h.at i = some ad → S i ≤ ad.block ∧ ad.block < S (i + 1) := by
    intro i ad hi; subst hS
    match i, hi with
    | 0, hi => exact h0 ad hi
    | 1, hi => exact h1 ad hi
    | 2, hi => exact h2 ad hi
    | 3, hi => exact h3 ad hi
    | 4, hi => exact h4 ad hi
    | 5, hi => exact h5 ad hi
    | n + 6, hi => cases hi
  have key : ∀ i j, i < j → Apart (h.at i) (h.at j) := by
    intro i j hij x y hx hy
    have a := lo i x hx
    have b := lo j y hy
    have c := mono (j - (i + 1)) (i + 1)
    rw [show i + 1 + (j - (i + 1)) = j by omega] at c
    omega
  intro i j hij
  rcases Nat.lt_or_ge i j with h | h
  · exact key i j h
  · exact (key j i (by omega)).symm
theorem away_upd {C : CollR} {h h' : Six} {w w2 : World} {B : Nat} (m : Mine C w B h) (k : Nat) (hk : ∀ i, i ≠ k → h'.at i = h.at i) (hn : Near (h.at k) w2 (h'.at k)) {g : Nat} (h1 : w.heap.size ≤ g) (h2 : g < w2.heap.size) : ∀ i ad, h'.at i = some ad → ad.block ≠ g := by
  intro i ad hi
  by_cases e : i = k
  · subst e
    rcases hn ad hi with ⟨x, hx, hb⟩ | hb
    · have := (m.base i x hx).2; omega
    · omega
  · rw [hk i e] at hi
    have := (m.base i ad hi).2; omega
theorem Mine.away {C : CollR} {h : Six} {w : World} {B : Nat} (m : Mine C w B h) {g : Nat} (h1 : w.heap.size ≤ g) : ∀ i ad, h.at i = some ad → ad.block ≠ g := fun i ad hi => by have := (m.base i ad hi).2; omega
theorem Ext.upN {w w' : World} {B : Nat} (h : Ext no w w') : Ext (upfrom B) w w' := h.mono (fun _ _ h => absurd h (fun h => h))
theorem Ext.upJ {w w' : World} {B g : Nat} (h : Ext (just g) w w') (hB : B ≤ g) : Ext (upfrom B) w w' := h.mono (fun k _ e => by have e : k = g := e; subst e; exact hB)
theorem Ext.upO {w w' w0 : World} {B k n c : Nat} {a : Option Addr} {cs : List Value} (h : Ext (blk a) w w') (ho : Own w0 B a k n c cs) : Ext (upfrom B) w w' := h.mono (fun k _ e => by obtain ⟨ad, ha, hb⟩ := e; rw [← hb]; exact (ho.base ad ha).1)
theorem rows_setcell {α : Type} {f : α → List Value} {k : Nat} (hk : ∀ x, (f x).length = k) (l : List α) (i : Nat) (x y : α) (hx : l[i]? = some x) (m : Nat) (v : Value) (hm : m < k) (hy : (f x).set m v = f y) : (rows f l).set (i * k + m) v = rows f (l.set i y) := by
  induction l generalizing i with
  | nil => simp at hx
  | cons z l ih =>
    cases i with
    | zero =>
      simp at hx
      subst hx
      rw [Nat.zero_mul, Nat.zero_add, rows_cons, List.set_cons_zero, rows_cons, List.set_append_left _ _ (by rw [hk]; exact hm), hy]
    | succ i =>
      rw [rows_cons, List.set_cons_succ, rows_cons, List.set_append_right _ _ (by rw [hk, Nat.add_mul]; omega), hk, show (i + 1) * k + m - k = i * k + m by rw [Nat.add_mul]; omega, ih i (by simpa using hx)]
end Go.Esc
