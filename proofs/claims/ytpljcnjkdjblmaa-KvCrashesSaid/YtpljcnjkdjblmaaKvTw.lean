/- kv's store and the reference's that go alike. -/
import Derived.Test.YtpljcnjkdjblmaaKvAp
import Derived.Test.YtpljcnjkdjblmaaKvRa
namespace Go.Esc
open Go.RowKit
set_option linter.unusedVariables false
/-- How a batch ends: done or refused, by both; no room; no power. -/
theorem ap_ends {ds : DS} {n : Nat} {m : KvM} {X : KvX} {room Lf D : Nat} (hk : Kp ds X n room Lf D) (ht : Tells m X) (hg : X.Good) (hl : X.len ≤ 300) (l : List ChangeR) :
    ((apR ds n m l (kvEnc (wholeX X))).2.2 = xErr X l ∧ Kp (apR ds n m l (kvEnc (wholeX X))).1 (xAp X l) (apR ds n m l (kvEnc (wholeX X))).2.1 room Lf (D + 3) ∧ Tells (apM ds n m l (kvEnc (wholeX X))) (xAp X l) ∧ (xAp X l).Good ∧ (xAp X l).len ≤ 300) ∨
    (xErr X l = 0 ∧ (apR ds n m l (kvEnc (wholeX X))).2.2 = 17 ∧ room < 120000 ∧ Kp (apR ds n m l (kvEnc (wholeX X))).1 X (apR ds n m l (kvEnc (wholeX X))).2.1 room Lf (D + 3) ∧ apM ds n m l (kvEnc (wholeX X)) = m) ∨
    (xErr X l = 0 ∧ (apR ds n m l (kvEnc (wholeX X))).2.2 = 18 ∧ 1 ≤ Lf ∧ Dn (apR ds n m l (kvEnc (wholeX X))).1 X l room (D + 3) ∧ apM ds n m l (kvEnc (wholeX X)) = m) := by
  have he := kvErr_eq ht l
  by_cases h0 : xErr X l = 0
  · obtain ⟨h1, h2, h3⟩ := xErr_ok h0
    have hxa : xAp X l = X.puts l := by unfold xAp; rw [if_pos h0]
    have htp := ht.puts l (fun c hc => chErr_coll (h2 c hc))
    have hgp := hg.puts l h2
    rw [hxa]
    by_cases hn : l = []
    · have e : apR ds n m l (kvEnc (wholeX X)) = (ds, n, 0) := by
        unfold apR
        rw [if_neg (by rw [he, h0]; simp), if_pos hn]
      have e2 : apM ds n m l (kvEnc (wholeX X)) = kvLays m l := by unfold apM; rw [if_pos (by rw [e])]
      rw [e2, e]
      refine .inl ⟨h0.symm, ?_, htp, hgp, h3⟩
      rw [hn]
      exact hk.more (by omega)
    · have e : apR ds n m l (kvEnc (wholeX X)) = wrAll ds n (kvEnc (wholeX X)) (kvEnc l) := by
        unfold apR
        rw [if_neg (by rw [he, h0]; simp), if_neg hn]
      have eM : apM ds n m l (kvEnc (wholeX X)) = if (wrAll ds n (kvEnc (wholeX X)) (kvEnc l)).2.2 = 0 then kvLays m l else m := by unfold apM; rw [e]
      rw [eM, e]
      rcases hk.wrAll hg hl l ⟨h1, h2⟩ with ⟨f, hK⟩ | ⟨f, hr, hK⟩ | ⟨f, hL, hD⟩
      · rw [if_pos f]
        exact .inl ⟨by rw [f, h0], hK, htp, hgp, h3⟩
      · rw [if_neg (by omega)]
        exact .inr (.inl ⟨h0, f, hr, hK, rfl⟩)
      · rw [if_neg (by omega)]
        exact .inr (.inr ⟨h0, f, hL, hD, rfl⟩)
  · have hxa : xAp X l = X := by unfold xAp; rw [if_neg h0]
    have e : apR ds n m l (kvEnc (wholeX X)) = (ds, n, kvErr m l) := by unfold apR; rw [if_pos (by rw [he]; exact h0)]
    have e2 : apM ds n m l (kvEnc (wholeX X)) = m := by unfold apM; rw [if_neg (by rw [e, he]; exact h0)]
    rw [hxa, e2, e]
    exact .inl ⟨he, hk.more (by omega), ht, hg, hl⟩
/-- The rows of a reference's store lie in none of these blocks. -/
def Trio.off (q : Trio) (S : Nat → Prop) : Prop := (∀ ad, q.a0 = some ad → ¬ S ad.block) ∧ (∀ ad, q.a1 = some ad → ¬ S ad.block) ∧ (∀ ad, q.a2 = some ad → ¬ S ad.block)
theorem KxAt.ext {w w' : World} {x : Nat} {X : KvX} {q : Trio} {S : Nat → Prop} (h : KxAt w x X q) (hx : Ext S w w') (hn : ¬ S x) (ho : q.off S) : KxAt w' x X q :=
  ⟨h.blk.ext (by simp) hx hn, h.r0.ext hx (fun ad ha => ho.1 ad ha), h.r1.ext hx (fun ad ha => ho.2.1 ad ha), h.r2.ext hx (fun ad ha => ho.2.2 ad ha), h.l0, h.l1, h.l2, h.n0, h.n1, h.n2, fun ad ha => Nat.lt_of_lt_of_le (h.b0 ad ha) hx.size, fun ad ha => Nat.lt_of_lt_of_le (h.b1 ad ha) hx.size, fun ad ha => Nat.lt_of_lt_of_le (h.b2 ad ha) hx.size⟩
theorem Trio.off.from {q q' : Trio} {S : Nat → Prop} {n : Nat} (h : q.off S) (hf : Trio.From q q' n) (hS : ∀ k, S k → k < n) : q'.off S :=
  ⟨fun ad ha hs => (hf.1 ad ha).elim (fun k => h.1 ad k hs) (fun k => by have := hS _ hs; omega), fun ad ha hs => (hf.2.1 ad ha).elim (fun k => h.2.1 ad k hs) (fun k => by have := hS _ hs; omega), fun ad ha hs => (hf.2.2 ad ha).elim (fun k => h.2.2 ad k hs) (fun k => by have := hS _ hs; omega)⟩
def noTrio : Trio := ⟨none, 0, none, 0, none, 0⟩
/-- The two stores: the disk's room, how long its power lasts, how many operations it did. -/
structure Two (w : World) (g s j b x : Nat) (ds : DS) (n : Nat) (m : KvM) (X : KvX) (q : Trio) (room Lf D : Nat) : Prop where
  st : StM w g s j b ds n m (fun i => i = x)
  kx : KxAt w x X q
  tells : Tells m X
  good : X.Good
  few : X.len ≤ 300
  kp : Kp ds X n room Lf D
  xn : ¬ three g s j x ∧ x ≠ b
  off : q.off (three g s j)
theorem Two.no {w w' : World} {g s j b x : Nat} {ds : DS} {n : Nat} {m : KvM} {X : KvX} {q : Trio} {room Lf D : Nat} (h : Two w g s j b x ds n m X q room Lf D) (hx : Ext Esc.no w w') : Two w' g s j b x ds n m X q room Lf D :=
  ⟨h.st.no hx, h.kx.no hx, h.tells, h.good, h.few, h.kp, h.xn, h.off⟩
theorem KxAt.start (w : World) (ty : TypeId) : KxAt (w.alloc (.cells #[.slice none 0 0, .slice none 0 0, .slice none 0 0] ty)) w.heap.size KvX.nil noTrio :=
  ⟨Blk.lit w #[.slice none 0 0, .slice none 0 0, .slice none 0 0] ty, Rd.nil _ _, Rd.nil _ _, Rd.nil _ _, Nat.zero_le _, Nat.zero_le _, Nat.zero_le _, (fun ad h => by cases h), (fun ad h => by cases h), (fun ad h => by cases h), (fun ad h => by cases h), (fun ad h => by cases h), (fun ad h => by cases h)⟩
theorem Two.start {w : World} {g s j b room : Nat} (h : St w g s j b (DS.new room) 0 []) (ty : TypeId) : Two (w.alloc (.cells #[.slice none 0 0, .slice none 0 0, .slice none 0 0] ty)) g s j b w.heap.size (DS.new room) 0 [] KvX.nil noTrio room 0 0 := by
  obtain ⟨h1, h2, h3, h4⟩ := h.low
  refine ⟨(h.M.grow (Ext.alloc Esc.no w _) w.heap.size (Nat.le_refl _) (by simp)).less (fun k e => .inr e), KxAt.start w ty, Tells.nil, KvX.Good.nil, by simp [KvX.nil, KvX.len], Kp.new room, ⟨?_, by omega⟩, (fun ad h => by cases h), (fun ad h => by cases h), (fun ad h => by cases h)⟩
  rintro (e | e | e) <;> omega
theorem Kp.nle {s : DS} {X : KvX} {n room Lf D : Nat} (h : Kp s X n room Lf D) : n ≤ 16 := by
  obtain ⟨B, Ls, h, hn⟩ := h
  rw [hn]
  exact h.few
theorem Kp.dle {s : DS} {X : KvX} {n room Lf D : Nat} (h : Kp s X n room Lf D) : s.done ≤ D := by
  obtain ⟨B, Ls, h, hn⟩ := h
  exact h.done
theorem Two.three_lt {w : World} {g s j b x : Nat} {ds : DS} {n : Nat} {m : KvM} {X : KvX} {q : Trio} {room Lf D : Nat} (h : Two w g s j b x ds n m X q room Lf D) : ∀ k, three g s j k → k < w.heap.size := by
  obtain ⟨h1, h2, h3, _⟩ := h.st.st.low
  intro k hk
  rcases hk with e | e | e <;> omega
/-- Behind the batch in both. -/
theorem Two.step {w w1 w2 : World} {g s j b x b' : Nat} {ds ds' : DS} {n n' : Nat} {m m' : KvM} {X X' : KvX} {q q' : Trio} {room Lf D D' : Nat} (h : Two w g s j b x ds n m X q room Lf D)
    (hb : b' = b ∨ w.heap.size ≤ b') (hs : StM w1 g s j b' ds' n' m' (fun i => i = x)) (hx1 : Ext (three g s j) w w1) (hk : KxAt w2 x X' q') (hf : Trio.From q q' w1.heap.size) (hx2 : Ext (just x) w1 w2)
    (ht : Tells m' X') (hg : X'.Good) (hl : X'.len ≤ 300) (hp : Kp ds' X' n' room Lf D') : Two w2 g s j b' x ds' n' m' X' q' room Lf D' := by
  have hxw := h.kx.blk.lt (by simp)
  obtain ⟨h1, h2, h3, h4⟩ := hs.st.low
  have hxb : x ≠ b' := by rcases hb with e | e; rw [e]; exact h.xn.2; omega
  refine ⟨hs.ext hx2 (fun k e => e) ⟨fun e => h.xn.1 (.inl e.symm), fun e => h.xn.1 (.inr (.inl e.symm)), fun e => h.xn.1 (.inr (.inr e.symm)), fun e => hxb e.symm⟩, hk, ht, hg, hl, hp, ⟨h.xn.1, hxb⟩, h.off.from hf (fun k e => by rcases e with e | e | e <;> omega)⟩
theorem Two.kx1 {w w1 : World} {g s j b x : Nat} {ds : DS} {n : Nat} {m : KvM} {X : KvX} {q : Trio} {room Lf D : Nat} (h : Two w g s j b x ds n m X q room Lf D) (hx1 : Ext (three g s j) w w1) : KxAt w1 x X q := h.kx.ext hx1 h.xn.1 h.off
end Go.Esc
