/- The reference's store in memory: put at any collection, Len. -/
import Derived.Test.YtpljcnjkdjblmaaKvR
namespace Go.Esc
open Go.RowKit
structure Trio where
  a0 : Option Addr
  c0 : Nat
  a1 : Option Addr
  c1 : Nat
  a2 : Option Addr
  c2 : Nat
/-- A reference's store in block x: its three rows lie at q, in other blocks. -/
structure KxAt (w : World) (x : Nat) (X : KvX) (q : Trio) : Prop where
  blk : Blk w x [.slice q.a0 X.r0.length q.c0, .slice q.a1 X.r1.length q.c1, .slice q.a2 X.r2.length q.c2]
  r0 : Rd w q.a0 (rows PairR.cells X.r0)
  r1 : Rd w q.a1 (rows PairR.cells X.r1)
  r2 : Rd w q.a2 (rows PairR.cells X.r2)
  l0 : X.r0.length ≤ q.c0
  l1 : X.r1.length ≤ q.c1
  l2 : X.r2.length ≤ q.c2
  n0 : ∀ ad, q.a0 = some ad → ad.block ≠ x
  n1 : ∀ ad, q.a1 = some ad → ad.block ≠ x
  n2 : ∀ ad, q.a2 = some ad → ad.block ≠ x
  b0 : ∀ ad, q.a0 = some ad → ad.block < w.heap.size
  b1 : ∀ ad, q.a1 = some ad → ad.block < w.heap.size
  b2 : ∀ ad, q.a2 = some ad → ad.block < w.heap.size
/-- Each row of q' is q's, or new. -/
def Trio.From (q q' : Trio) (n : Nat) : Prop := (∀ ad, q'.a0 = some ad → q.a0 = some ad ∨ n ≤ ad.block) ∧ (∀ ad, q'.a1 = some ad → q.a1 = some ad ∨ n ≤ ad.block) ∧ (∀ ad, q'.a2 = some ad → q.a2 = some ad ∨ n ≤ ad.block)
theorem Trio.From.refl (q : Trio) (n : Nat) : Trio.From q q n := ⟨fun _ h => .inl h, fun _ h => .inl h, fun _ h => .inl h⟩
theorem Trio.From.trans {q q' q2 : Trio} {n n' : Nat} (h : Trio.From q q' n) (h2 : Trio.From q' q2 n') (hn : n ≤ n') : Trio.From q q2 n :=
  ⟨fun ad ha => (h2.1 ad ha).elim (h.1 ad) (fun k => .inr (Nat.le_trans hn k)), fun ad ha => (h2.2.1 ad ha).elim (h.2.1 ad) (fun k => .inr (Nat.le_trans hn k)), fun ad ha => (h2.2.2 ad ha).elim (h.2.2 ad) (fun k => .inr (Nat.le_trans hn k))⟩
theorem KxAt.no {w w' : World} {x : Nat} {X : KvX} {q : Trio} (h : KxAt w x X q) (hx : Ext no w w') : KxAt w' x X q :=
  ⟨h.blk.ext (by simp) hx (fun h => h), kvRd_no h.r0 hx, kvRd_no h.r1 hx, kvRd_no h.r2 hx, h.l0, h.l1, h.l2, h.n0, h.n1, h.n2, fun ad ha => Nat.lt_of_lt_of_le (h.b0 ad ha) hx.size, fun ad ha => Nat.lt_of_lt_of_le (h.b1 ad ha) hx.size, fun ad ha => Nat.lt_of_lt_of_le (h.b2 ad ha) hx.size⟩
theorem kvRd_just {w w' : World} {x : Nat} {a : Option Addr} {cs : List Value} (h : Rd w a cs) (hx : Ext (just x) w w') (hn : ∀ ad, a = some ad → ad.block ≠ x) : Rd w' a cs := h.ext hx (fun ad ha e => hn ad ha e)
/-- Each row has at most n. -/
def KvX.most (X : KvX) (n : Nat) : Prop := X.r0.length ≤ n ∧ X.r1.length ≤ n ∧ X.r2.length ≤ n
end Go.Esc
namespace Go.Proofs.Ytpljcnjkdjblmaa
open Go.RowKit Go.Esc
set_option linter.unusedVariables false
set_option linter.unusedSimpArgs false

theorem rput_any (w : World) (x : Nat) (X : KvX) (q : Trio) (c : ChangeR) (h : KxAt w x X q) (hm : X.most 1099511627775) (hc : c.coll = 0 ∨ c.coll = 1 ∨ c.coll = 2) :
    Calls Try.prog 39 #[.pointer (some ⟨x, 0, none⟩), c.v] w fun e w' => e = .returned (.tuple #[]) ∧ ∃ q', KxAt w' x (X.put c) q' ∧ Trio.From q q' w.heap.size ∧ Ext (just x) w w' := by
  obtain ⟨j, k, v, d⟩ := c
  simp only at hc
  have hxl := h.blk.lt (by simp)
  rcases hc with rfl | rfl | rfl
  · refine (rput0_any w x (.bool true) _ _ q.a0 X.r0 q.c0 k v d h.blk h.r0 hm.1 h.l0).mono ?_
    rintro e w' ⟨rfl, a', c', hb, ho, hx⟩
    exact ⟨rfl, ⟨a', c', q.a1, q.c1, q.a2, q.c2⟩, ⟨hb, ho.rd, kvRd_just h.r1 hx h.n1, kvRd_just h.r2 hx h.n2, ho.nc, h.l1, h.l2, (fun ad ha => by have := (ho.base ad ha).1; omega), h.n1, h.n2, fun ad ha => (ho.base ad ha).2.1, fun ad ha => Nat.lt_of_lt_of_le (h.b1 ad ha) hx.size, fun ad ha => Nat.lt_of_lt_of_le (h.b2 ad ha) hx.size⟩, ⟨(fun ad ha => .inr (ho.base ad ha).1), (fun _ ha => .inl ha), (fun _ ha => .inl ha)⟩, hx⟩
  · refine (rput1_any w x _ (.bool true) _ q.a1 X.r1 q.c1 k v d h.blk h.r1 hm.2.1 h.l1).mono ?_
    rintro e w' ⟨rfl, a', c', hb, ho, hx⟩
    exact ⟨rfl, ⟨q.a0, q.c0, a', c', q.a2, q.c2⟩, ⟨hb, kvRd_just h.r0 hx h.n0, ho.rd, kvRd_just h.r2 hx h.n2, h.l0, ho.nc, h.l2, h.n0, (fun ad ha => by have := (ho.base ad ha).1; omega), h.n2, fun ad ha => Nat.lt_of_lt_of_le (h.b0 ad ha) hx.size, fun ad ha => (ho.base ad ha).2.1, fun ad ha => Nat.lt_of_lt_of_le (h.b2 ad ha) hx.size⟩, ⟨(fun _ ha => .inl ha), (fun ad ha => .inr (ho.base ad ha).1), (fun _ ha => .inl ha)⟩, hx⟩
  · refine (rput2_any w x _ _ (.bool true) q.a2 X.r2 q.c2 k v d h.blk h.r2 hm.2.2 h.l2).mono ?_
    rintro e w' ⟨rfl, a', c', hb, ho, hx⟩
    exact ⟨rfl, ⟨q.a0, q.c0, q.a1, q.c1, a', c'⟩, ⟨hb, kvRd_just h.r0 hx h.n0, kvRd_just h.r1 hx h.n1, ho.rd, h.l0, h.l1, ho.nc, h.n0, h.n1, (fun ad ha => by have := (ho.base ad ha).1; omega), fun ad ha => Nat.lt_of_lt_of_le (h.b0 ad ha) hx.size, fun ad ha => Nat.lt_of_lt_of_le (h.b1 ad ha) hx.size, fun ad ha => (ho.base ad ha).2.1⟩, ⟨(fun _ ha => .inl ha), (fun _ ha => .inl ha), (fun ad ha => .inr (ho.base ad ha).1)⟩, hx⟩

set_option maxRecDepth 100000 in
set_option maxHeartbeats 4000000 in
theorem rlen_any (w : World) (x : Nat) (X : KvX) (q : Trio) (h : KxAt w x X q) (hm : X.most 1099511627775) :
    Calls Try.prog 18 #[.pointer (some ⟨x, 0, none⟩)] w fun e w' => e = .returned (.int .i64 (X.len : Nat)) ∧ Ext no w w' := by
  obtain ⟨m0, m1, m2⟩ := hm
  have c0 := h.blk.cell 0 _ rfl
  have c1 := h.blk.cell 1 _ rfl
  have c2 := h.blk.cell 2 _ rfl
  have hL := Lib.hid (show ((X.r0.length : Int) + X.r1.length + X.r2.length) = ((X.len : Nat) : Int) by unfold KvX.len; omega)
  go_enter Try.func18, Try.ntmps18
  go_upto_region 1 with fail
  go_quiet (fail)
  have hx := Ext.drewN no w nq
  generalize w.drewN nq = wz at *
  go_wp2_with fail
  go_ret
  exact ⟨by rw [← hL.out]; rfl, hx⟩
end Go.Proofs.Ytpljcnjkdjblmaa
