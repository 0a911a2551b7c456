/- What the law JournalPlays is handed; two disks and two journals that go alike. -/
import Derived.Test.YtbmkmbankflbpaaOpenT
import Derived.Test.YtbmkmbankflbpaaJoM
namespace Go.Esc
open Go.RowKit Go.ChangeShapes Go.WideShapes Go.ChangeAt

/-- One call: which, a number, bytes. -/
structure CallR where
  kind : Int
  n : Int
  a : Option Addr
  b : List UInt8
  c : Nat
def CallR.cells (r : CallR) : List Value := [.int .i64 r.kind, .int .i64 r.n, .slice r.a r.b.length r.c]
def CallR.good (W : World) (r : CallR) : Prop := I64ok r.kind ∧ I64ok r.n ∧ Rd W r.a (bs r.b) ∧ r.b.length ≤ r.c ∧ r.c ≤ maxLen
end Go.Esc
namespace Go.Proofs.Ytbmkmbankflbpaa
open Go.RowKit Go.Esc

theorem open_calls {H : Type} {enc : TypeId × Value → H} {W : World} {v : Value} {d : DataW H} {p : List MemPlace} {base : Nat}
    (hv : Value.okWide Try.prog W .any base 44 v) (h : DataW.Trod enc Try.prog W 0 (fun _ => true) true 44 v d p) :
    ∃ (a : Option Addr) (l : List CallR) (c : Nat), v = .slice a l.length c ∧ Rd W a (l.flatMap CallR.cells) ∧ (∀ r ∈ l, r.good W) ∧ l.length ≤ c ∧ c ≤ maxLen := by
  refine open_rows_of Try.underlying44 (by kernel_rfl : Try.prog.cellsOf 52 = 3) (fun _ => rfl) ?_ hv h
  intro fuel cs x hf
  have hl := trod_cells Try.underlying52 hf
  rw [show Try.prog.cellsOf 52 = 3 by kernel_rfl] at hl
  obtain ⟨v0, v1, v2, rfl⟩ : ∃ v0 v1 v2, cs = [v0, v1, v2] := by
    match cs, hl with
    | [v0, v1, v2], _ => exact ⟨v0, v1, v2, rfl⟩
  obtain ⟨m0, y0, g0⟩ := trod_field Try.underlying52 hf 0 3 0 1 rfl rfl rfl (by kernel_rfl)
  obtain ⟨m1, y1, g1⟩ := trod_field Try.underlying52 hf 1 3 1 1 rfl rfl rfl (by kernel_rfl)
  obtain ⟨m2, y2, g2⟩ := trod_field Try.underlying52 hf 2 22 2 1 rfl rfl rfl (by kernel_rfl)
  obtain ⟨n0, e0, k0⟩ := trod_num Try.underlying3 g0
  obtain ⟨n1, e1, k1⟩ := trod_num Try.underlying3 g1
  obtain ⟨a, l, c, e2, k2, k3, k4⟩ := trod_bytes Try.underlying22 Try.underlying5 (by kernel_rfl) g2
  simp at e0 e1 e2
  subst e0 e1 e2
  exact ⟨⟨n0, n1, a, l, c⟩, rfl, k0, k1, k2, k3, k4⟩
end Go.Proofs.Ytbmkmbankflbpaa

namespace Go.Esc
theorem DS.ok_jadd {s : DS} (h : s.ok) (hd : s.done ≤ 999990) (b : List UInt8) : (s.jadd b).1.ok ∧ (s.jadd b).1.done ≤ s.done + 2 := by
  obtain ⟨h1, h2⟩ := DS.ok_append h (by omega) (frame b)
  unfold DS.jadd
  split
  · exact ⟨h1, by omega⟩
  · obtain ⟨h3, h4⟩ := DS.ok_sync h1 (by omega)
    exact ⟨h3, by omega⟩
theorem DS.ok_jsnap {s : DS} (h : s.ok) (hd : s.done ≤ 999990) (b : List UInt8) : (s.jsnap b).1.ok ∧ (s.jsnap b).1.done ≤ s.done + 1 := DS.ok_swap h (by omega) _
theorem DS.ok_opens {s : DS} (h : s.ok) (hd : s.done ≤ 999990) : s.opens.1.ok ∧ s.opens.1.done ≤ s.done + 1 ∧ s.opens.2.2.2.length ≤ 2097152 := by
  have hsc := scan_le s.log.length s.log (Nat.le_refl _)
  have h1 := h.fits
  have h2 := h.room
  have hc := DS.ok_cut h (by omega) ((scan s.log).2 : Int)
  have hl : (scan s.log).1.length ≤ 2097152 := by omega
  unfold DS.opens
  split
  · exact ⟨h, Nat.le_succ _, by simp⟩
  · split
    · exact ⟨h, Nat.le_succ _, by simp⟩
    · split
      · split
        · exact ⟨hc.1, hc.2, by simp⟩
        · exact ⟨hc.1, hc.2, hl⟩
      · exact ⟨h, Nat.le_succ _, hl⟩
end Go.Esc
namespace Go.Proofs.Ytbmkmbankflbpaa
open Go.RowKit Go.Esc

def pt (j : Nat) : Value := .pointer (some ⟨j, 0, none⟩)
/-- Two journals, of the disks g and x, that stand alike: or none. -/
def JJ (wr : World) (g x : Nat) (M : Nat → Prop) (v u : Value) (B : Nat) : Prop :=
  (v = .pointer none ∧ u = .pointer none) ∨ ∃ j y n, v = .pointer (some ⟨j, 0, none⟩) ∧ u = .pointer (some ⟨y, 0, none⟩) ∧ Blk wr j (jcells g n) ∧ Blk wr y (jcells x n) ∧ M j ∧ M y ∧ j ≠ g ∧ j ≠ x ∧ y ≠ g ∧ y ≠ x ∧ j ≠ y ∧ n ≤ B
theorem JJ.ext {S : Nat → Prop} {wr w1 : World} {g x : Nat} {M : Nat → Prop} {v u : Value} {B : Nat} (h : JJ wr g x M v u B) (hx : Ext S wr w1) (hS : ∀ i, S i → i = g ∨ i = x) : JJ w1 g x M v u B := by
  rcases h with h | ⟨j, y, n, h1, h2, h3, h4, h5, h6, h7, h8, h9, h10, h11, h12⟩
  · exact .inl h
  · exact .inr ⟨j, y, n, h1, h2, h3.ext (by simp [jcells]) hx (fun h => by have := hS _ h; omega), h4.ext (by simp [jcells]) hx (fun h => by have := hS _ h; omega), h5, h6, h7, h8, h9, h10, h11, h12⟩
theorem JJ.mono {wr : World} {g x : Nat} {M : Nat → Prop} {v u : Value} {B B' : Nat} (h : JJ wr g x M v u B) (hB : B ≤ B') : JJ wr g x M v u B' := by
  rcases h with h | ⟨j, y, n, h1, h2, h3, h4, h5, h6, h7, h8, h9, h10, h11, h12⟩
  · exact .inl h
  · exact .inr ⟨j, y, n, h1, h2, h3, h4, h5, h6, h7, h8, h9, h10, h11, Nat.le_trans h12 hB⟩

/-- Two disks that say the same, in blocks g and x; M: the blocks that are written. -/
structure Pr (w wr : World) (g x : Nat) (s : DS) (M : Nat → Prop) (v u : Value) (B : Nat) : Prop where
  D : Dk wr g s M
  R : Rk wr x s M
  ok : s.ok
  ne : g ≠ x
  Mg : M g
  Mx : M x
  lt : ∀ i, M i → i < wr.heap.size
  hi : ∀ i, M i → w.heap.size ≤ i
  J : JJ wr g x M v u B
  x : Ext no w wr
theorem Pr.no {w wr w1 : World} {g x : Nat} {s : DS} {M : Nat → Prop} {v u : Value} {B : Nat} (h : Pr w wr g x s M v u B) (hx : Ext Esc.no wr w1) : Pr w w1 g x s M v u B :=
  ⟨h.D.no hx, h.R.no hx, h.ok, h.ne, h.Mg, h.Mx, fun i hi => Nat.lt_of_lt_of_le (h.lt i hi) hx.size, h.hi, h.J.ext hx (fun _ h => h.elim), h.x.comp hx⟩
theorem Pr.mono {w wr : World} {g x : Nat} {s : DS} {M : Nat → Prop} {v u : Value} {B B' : Nat} (h : Pr w wr g x s M v u B) (hB : B ≤ B') : Pr w wr g x s M v u B' :=
  ⟨h.D, h.R, h.ok, h.ne, h.Mg, h.Mx, h.lt, h.hi, h.J.mono hB, h.x⟩
theorem Pr.low {w wr : World} {g x : Nat} {s : DS} {M : Nat → Prop} {v u : Value} {B : Nat} (h : Pr w wr g x s M v u B) {a : Option Addr} {l : List UInt8} (hr : Rd w a (bs l)) (i : Nat) (hi : M i) : l ≠ [] → ∀ ad, a = some ad → ad.block ≠ i := by
  intro hn ad ha
  obtain ⟨ad2, h2, h3⟩ := hr.ne (by rw [bs_length]; exact List.length_pos_iff.2 hn)
  rw [ha] at h2
  cases h2
  have := h.hi i hi
  omega
theorem Pr.over {S : Nat → Prop} {w wr w1 : World} {g x : Nat} {s : DS} {M : Nat → Prop} {v u : Value} {B : Nat} (h : Pr w wr g x s M v u B) (hx : Ext S wr w1) (hS : ∀ i, S i → M i) : Ext Esc.no w w1 :=
  h.x.trans hx (fun i hi hs => by have := h.hi i (hS i hs); omega)
/-- What holds between the two calls. -/
theorem Pr.mid {w wr w1 : World} {g x : Nat} {s : DS} {M : Nat → Prop} {v u : Value} {B : Nat} (h : Pr w wr g x s M v u B) (hx : Ext (just g) wr w1) : Rk w1 x s M ∧ (∀ i, M i → i < w1.heap.size) ∧ Ext Esc.no w w1 :=
  ⟨h.R.ext hx (fun e => h.ne (by simp only [Esc.just] at e; exact e.symm)) (fun i _ e => by simp only [Esc.just] at e; subst e; exact h.Mg), fun i hi => Nat.lt_of_lt_of_le (h.lt i hi) hx.size, h.over hx (fun i e => by simp only [Esc.just] at e; subst e; exact h.Mg)⟩
/-- One call each on the disks. -/
theorem Pr.both {w wr w1 w2 : World} {g x : Nat} {s s' : DS} {M : Nat → Prop} {v u : Value} {B : Nat} (h : Pr w wr g x s M v u B) (hx1 : Ext (just g) wr w1) (D1 : Dk w1 g s' M) (hx2 : Ext (just x) w1 w2) (R2 : Rk w2 x s' M) (ok : s'.ok) : Pr w w2 g x s' M v u B := by
  obtain ⟨_, m2, m3⟩ := h.mid hx1
  exact ⟨D1.ext hx2 (fun e => h.ne (by simp only [Esc.just] at e; exact e)) (fun i _ e => by simp only [Esc.just] at e; subst e; exact h.Mx), R2, ok, h.ne, h.Mg, h.Mx, fun i hi => Nat.lt_of_lt_of_le (m2 i hi) hx2.size, h.hi,
    (h.J.ext hx1 (fun i e => .inl e)).ext hx2 (fun i e => .inr e), m3.trans hx2 (fun i hi e => by simp only [Esc.just] at e; subst e; have := h.hi i h.Mx; omega)⟩
/-- One call each on the journals: between. -/
theorem Pr.midJ {w wr w1 : World} {g x : Nat} {s : DS} {M : Nat → Prop} {v u : Value} {B j y n : Nat} (h : Pr w wr g x s M v u B) (Jy : Blk wr y (jcells x n)) (hj : M j) (n1 : j ≠ x) (n2 : y ≠ g) (n3 : j ≠ y) (hx : Ext (either g j) wr w1) :
    Rk w1 x s M ∧ Blk w1 y (jcells x n) ∧ (∀ i, M i → i < w1.heap.size) ∧ Ext Esc.no w w1 :=
  ⟨h.R.ext hx (fun e => by rcases e with e | e; exact h.ne e.symm; exact n1 e.symm) (fun i _ e => by rcases e with e | e <;> subst e; exact h.Mg; exact hj), Jy.ext (by simp [jcells]) hx (fun e => by rcases e with e | e; exact n2 e; exact n3 e.symm), fun i hi => Nat.lt_of_lt_of_le (h.lt i hi) hx.size, h.over hx (fun i e => by rcases e with e | e <;> subst e; exact h.Mg; exact hj)⟩
theorem Pr.bothJ {w wr w1 w2 : World} {g x : Nat} {s s' : DS} {M : Nat → Prop} {v u : Value} {B B' j y n n' : Nat} (h : Pr w wr g x s M v u B) (Jy : Blk wr y (jcells x n)) (hj : M j) (hy : M y) (n0 : j ≠ g) (n1 : j ≠ x) (n2 : y ≠ g) (n4 : y ≠ x) (n3 : j ≠ y) (hx1 : Ext (either g j) wr w1) (D1 : Dk w1 g s' M) (J1 : Blk w1 j (jcells g n'))
    (hx2 : Ext (either x y) w1 w2) (R2 : Rk w2 x s' M) (J2 : Blk w2 y (jcells x n')) (ok : s'.ok) (hB : n' ≤ B') : Pr w w2 g x s' M (.pointer (some ⟨j, 0, none⟩)) (.pointer (some ⟨y, 0, none⟩)) B' := by
  obtain ⟨_, _, m2, m3⟩ := h.midJ Jy hj n1 n2 n3 hx1
  exact ⟨D1.ext hx2 (fun e => by rcases e with e | e; exact h.ne e; exact n2 e.symm) (fun i _ e => by rcases e with e | e <;> subst e; exact h.Mx; exact hy), R2, ok, h.ne, h.Mg, h.Mx, fun i hi => Nat.lt_of_lt_of_le (m2 i hi) hx2.size, h.hi,
    .inr ⟨j, y, n', rfl, rfl, J1.ext (by simp [jcells]) hx2 (fun e => by rcases e with e | e; exact n1 e; exact n3 e), J2, hj, hy, n0, n1, n2, n4, n3, hB⟩,
    m3.trans hx2 (fun i hi e => by rcases e with e | e <;> subst e; (have := h.hi i h.Mx; omega); (have := h.hi i hy; omega))⟩
/-- The blocks that are written once the first is opened. -/
def MJ (M : Nat → Prop) (J : Value) : Nat → Prop := fun i => M i ∨ J = .pointer (some ⟨i, 0, none⟩)
theorem Pr.midO {w wr w1 : World} {g x : Nat} {s s' : DS} {k n : Nat} {M : Nat → Prop} {v u J : Value} {B : Nat} (h : Pr w wr g x s M v u B) (hx1 : Ext (just g) wr w1)
    (e1 : (k ≠ 0 ∧ J = .pointer none ∧ Dk w1 g s' M) ∨ (k = 0 ∧ ∃ j, J = .pointer (some ⟨j, 0, none⟩) ∧ wr.heap.size ≤ j ∧ j < w1.heap.size ∧ Blk w1 j (jcells g n) ∧ Dk w1 g s' (fun i => M i ∨ i = j))) : Rk w1 x s (MJ M J) ∧ (∀ i, MJ M J i → i < w1.heap.size) ∧ Ext Esc.no w w1 := by
  obtain ⟨m1, m2, m3⟩ := h.mid hx1
  rcases e1 with ⟨k0, rfl, D1⟩ | ⟨k0, j, rfl, j1, j2, J1, D1⟩
  · exact ⟨m1.fewer (fun i _ e => by rcases e with e | e; exact e; cases e), (fun i e => by rcases e with e | e; exact m2 i e; cases e), m3⟩
  · refine ⟨?_, (fun i e => by rcases e with e | e; exact m2 i e; cases e; exact j2), m3⟩
    exact (h.R.fewer (N' := MJ M (.pointer (some ⟨j, 0, none⟩))) (fun i hi e => by rcases e with e | e; exact e; cases e; omega)).ext hx1 (fun e => h.ne (by simp only [Esc.just] at e; exact e.symm)) (fun i _ e => by simp only [Esc.just] at e; subst e; exact .inl h.Mg)
/-- Both opened. -/
theorem Pr.opened {w wr w1 w2 : World} {g x : Nat} {s s' : DS} {k n : Nat} {M : Nat → Prop} {v u J J' : Value} {B B' : Nat} (h : Pr w wr g x s M v u B) (hx1 : Ext (just g) wr w1)
    (e1 : (k ≠ 0 ∧ J = .pointer none ∧ Dk w1 g s' M) ∨ (k = 0 ∧ ∃ j, J = .pointer (some ⟨j, 0, none⟩) ∧ wr.heap.size ≤ j ∧ j < w1.heap.size ∧ Blk w1 j (jcells g n) ∧ Dk w1 g s' (fun i => M i ∨ i = j)))
    (hx2 : Ext (just x) w1 w2) (e2 : (k ≠ 0 ∧ J' = .pointer none ∧ Rk w2 x s' (MJ M J)) ∨ (k = 0 ∧ ∃ j, J' = .pointer (some ⟨j, 0, none⟩) ∧ w1.heap.size ≤ j ∧ j < w2.heap.size ∧ Blk w2 j (jcells x n) ∧ Rk w2 x s' (fun i => MJ M J i ∨ i = j))) (ok : s'.ok) (hn : n ≤ B') :
    ∃ M', Pr w w2 g x s' M' J J' B' ∧ (k ≠ 0 → J = .pointer none ∧ J' = .pointer none) ∧ (k = 0 → J ≠ .pointer none ∧ J' ≠ .pointer none) := by
  obtain ⟨m1, m2, m3⟩ := h.mid hx1
  have hs1 := hx1.size
  have hs2 := hx2.size
  have hxx : ∀ M' : Nat → Prop, M' x → ∀ i, just x i → M' i := fun M' hm i e => by simp only [Esc.just] at e; subst e; exact hm
  have hgx : ¬ just x g := fun e => h.ne (by simp only [Esc.just] at e; exact e)
  have hw2 : Ext Esc.no w w2 := m3.trans hx2 (fun i hi e => by simp only [Esc.just] at e; subst e; have := h.hi i h.Mx; omega)
  rcases e1 with ⟨k0, rfl, D1⟩ | ⟨k0, j, rfl, j1, j2, J1, D1⟩
  · rcases e2 with ⟨_, rfl, R2⟩ | ⟨k1, _⟩
    rotate_left
    · exact absurd k1 k0
    exact ⟨M, ⟨D1.ext hx2 hgx (fun i _ e => hxx M h.Mx i e), R2.fewer (fun i _ e => .inl e), ok, h.ne, h.Mg, h.Mx, fun i hi => Nat.lt_of_lt_of_le (m2 i hi) hs2, h.hi, .inl ⟨rfl, rfl⟩, hw2⟩, fun _ => ⟨rfl, rfl⟩, fun e => absurd e k0⟩
  · rcases e2 with ⟨k1, _⟩ | ⟨_, y, rfl, y1, y2, J2, R2⟩
    · exact absurd k0 k1
    have hglt := h.lt g h.Mg
    have hxlt := h.lt x h.Mx
    have hwr := h.x.size
    have hD : Dk w2 g s' (fun i => (M i ∨ i = j) ∨ i = y) := (D1.fewer (fun i hi e => by rcases e with e | e; exact e; omega)).ext hx2 hgx (fun i _ e => .inl (.inl (hxx M h.Mx i e)))
    have hRr : Rk w2 x s' (fun i => (M i ∨ i = j) ∨ i = y) := R2.fewer (fun i _ e => by rcases e with (e | e) | e; exact .inl (.inl e); (subst e; exact .inl (.inr rfl)); exact .inr e)
    exact ⟨fun i => (M i ∨ i = j) ∨ i = y, ⟨hD, hRr, ok, h.ne, .inl (.inl h.Mg), .inl (.inl h.Mx), fun i hi => by rcases hi with (hi | hi) | hi; (have := m2 i hi; omega); omega; omega, fun i hi => by rcases hi with (hi | hi) | hi; exact h.hi i hi; omega; omega,
      .inr ⟨j, y, n, rfl, rfl, J1.ext (by simp [jcells]) hx2 (by simp only [Esc.just]; omega), J2, .inl (.inr rfl), .inr rfl, by omega, by omega, by omega, by omega, by omega, hn⟩, hw2⟩, fun e => absurd k0 e, fun _ => ⟨by simp, by simp⟩⟩
end Go.Proofs.Ytbmkmbankflbpaa
