/- Stores that are copied, and opened anew. -/
import Derived.Test.YtpljcnjkdjblmaaKvLo
import Derived.Test.YtpljcnjkdjblmaaKvSa
namespace Go.Esc
open Go.RowKit
set_option linter.unusedVariables false
theorem KxAt.copy {w : World} {x : Nat} {X : KvX} {q : Trio} (h : KxAt w x X q) (ty : TypeId) :
    KxAt (w.alloc (.cells #[.slice q.a0 X.r0.length q.c0, .slice q.a1 X.r1.length q.c1, .slice q.a2 X.r2.length q.c2] ty)) w.heap.size X q := by
  have h1 := h.no (Ext.alloc Esc.no w (.cells #[.slice q.a0 X.r0.length q.c0, .slice q.a1 X.r1.length q.c1, .slice q.a2 X.r2.length q.c2] ty))
  exact ⟨Blk.lit w #[.slice q.a0 X.r0.length q.c0, .slice q.a1 X.r1.length q.c1, .slice q.a2 X.r2.length q.c2] ty, h1.r0, h1.r1, h1.r2, h.l0, h.l1, h.l2, (fun ad ha => by have := h.b0 ad ha; omega), (fun ad ha => by have := h.b1 ad ha; omega), (fun ad ha => by have := h.b2 ad ha; omega), h1.b0, h1.b1, h1.b2⟩
/-- A store, and two of the reference's. -/
structure Duo (w : World) (g s j b x y : Nat) (ds : DS) (n : Nat) (m : KvM) (X : KvX) (q : Trio) (X' : KvX) (q' : Trio) : Prop where
  st : StM w g s j b ds n m (fun i => i = x ∨ i = y)
  kx : KxAt w x X q
  ky : KxAt w y X' q'
  xn : ¬ three g s j x ∧ x ≠ b
  yn : ¬ three g s j y ∧ y ≠ b
  ox : q.off (three g s j)
  oy : q'.off (three g s j)
theorem Two.fork {w wy w1 w2 : World} {g s j b x y : Nat} {ds : DS} {n : Nat} {m : KvM} {X X' : KvX} {q q' : Trio} {room Lf D : Nat} (h : Two w g s j b x ds n m X q room Lf D) (ha : Ext Esc.no w wy) (hy1 : w.heap.size ≤ y) (hy2 : y < wy.heap.size) (h1 : Ext Esc.no wy w1)
    (hk : KxAt w2 y X' q') (hf : Trio.From q q' w1.heap.size) (h2 : Ext (just y) w1 w2) : Duo w2 g s j b x y ds n m X q X' q' := by
  obtain ⟨l1, l2, l3, l4⟩ := h.st.st.low
  have hxl := h.kx.blk.lt (by simp)
  have hs1 := h.three_lt
  have s1 := ha.size
  have s2 := h1.size
  have hyn : ¬ three g s j y := fun e => by have := hs1 y e; omega
  refine ⟨((h.st.grow ha y hy1 hy2).no h1).ext h2 (fun k e => .inr e) ⟨?_, ?_, ?_, ?_⟩, (h.kx.no (ha.comp h1)).ext h2 (fun e => by have e : x = y := e; omega) ⟨fun ad h3 e => ?_, fun ad h3 e => ?_, fun ad h3 e => ?_⟩, hk, h.xn, ⟨hyn, by omega⟩, h.off, h.off.from hf (fun k e => by have := hs1 k e; omega)⟩
  · rintro (e | e); exact h.xn.1 (.inl e.symm); omega
  · rintro (e | e); exact h.xn.1 (.inr (.inl e.symm)); omega
  · rintro (e | e); exact h.xn.1 (.inr (.inr e.symm)); omega
  · rintro (e | e); exact h.xn.2 e.symm; omega
  · have e : ad.block = y := e; have := h.kx.b0 ad h3; omega
  · have e : ad.block = y := e; have := h.kx.b1 ad h3; omega
  · have e : ad.block = y := e; have := h.kx.b2 ad h3; omega
theorem Duo.no {w w' : World} {g s j b x y : Nat} {ds : DS} {n : Nat} {m : KvM} {X X' : KvX} {q q' : Trio} (h : Duo w g s j b x y ds n m X q X' q') (hx : Ext Esc.no w w') : Duo w' g s j b x y ds n m X q X' q' :=
  ⟨h.st.no hx, h.kx.no hx, h.ky.no hx, h.xn, h.yn, h.ox, h.oy⟩
theorem Duo.after {w w3 : World} {g s j b b' x y : Nat} {ds ds' : DS} {n n' : Nat} {m m' : KvM} {X X' : KvX} {q q' : Trio} (h : Duo w g s j b x y ds n m X q X' q') (hb : b' = b ∨ w.heap.size ≤ b') (hs : StM w3 g s j b' ds' n' m' (fun i => i = x ∨ i = y)) (hx : Ext (three g s j) w w3) :
    Duo w3 g s j b' x y ds' n' m' X q X' q' := by
  have hxl := h.kx.blk.lt (by simp)
  have hyl := h.ky.blk.lt (by simp)
  exact ⟨hs, h.kx.ext hx h.xn.1 h.ox, h.ky.ext hx h.yn.1 h.oy, ⟨h.xn.1, by rcases hb with e | e; rw [e]; exact h.xn.2; omega⟩, ⟨h.yn.1, by rcases hb with e | e; rw [e]; exact h.yn.2; omega⟩, h.ox, h.oy⟩
theorem Duo.left {w : World} {g s j b x y : Nat} {ds : DS} {n : Nat} {m : KvM} {X X' : KvX} {q q' : Trio} {room Lf D : Nat} (h : Duo w g s j b x y ds n m X q X' q') (ht : Tells m X) (hg : X.Good) (hl : X.len ≤ 300) (hk : Kp ds X n room Lf D) : Two w g s j b x ds n m X q room Lf D :=
  ⟨h.st.less (fun k e => .inl e), h.kx, ht, hg, hl, hk, h.xn, h.ox⟩
theorem Duo.right {w : World} {g s j b x y : Nat} {ds : DS} {n : Nat} {m : KvM} {X X' : KvX} {q q' : Trio} {room Lf D : Nat} (h : Duo w g s j b x y ds n m X q X' q') (ht : Tells m X') (hg : X'.Good) (hl : X'.len ≤ 300) (hk : Kp ds X' n room Lf D) : Two w g s j b y ds n m X' q' room Lf D :=
  ⟨h.st.less (fun k e => .inr e), h.ky, ht, hg, hl, hk, h.yn, h.oy⟩
theorem off_just {q : Trio} {g s j : Nat} (h : q.off (three g s j)) : q.off (just g) := ⟨fun ad ha e => h.1 ad ha (.inl e), fun ad ha e => h.2.1 ad ha (.inl e), fun ad ha e => h.2.2 ad ha (.inl e)⟩
theorem off_new {w : World} {x : Nat} {X : KvX} {q : Trio} {g s j s' j' : Nat} (hk : KxAt w x X q) (h : q.off (three g s j)) (h1 : w.heap.size ≤ s') (h2 : w.heap.size ≤ j') : q.off (three g s' j') := by
  refine ⟨fun ad ha e => ?_, fun ad ha e => ?_, fun ad ha e => ?_⟩
  · have := hk.b0 ad ha; rcases e with e | e | e; exact h.1 ad ha (.inl e); omega; omega
  · have := hk.b1 ad ha; rcases e with e | e | e; exact h.2.1 ad ha (.inl e); omega; omega
  · have := hk.b2 ad ha; rcases e with e | e | e; exact h.2.2 ad ha (.inl e); omega; omega
theorem Two.reopened {w w' : World} {g s j b x s' j' b' : Nat} {ds ds' : DS} {n n' : Nat} {m m' : KvM} {X : KvX} {q : Trio} {room Lf D D' : Nat} (h : Two w g s j b x ds n m X q room Lf D) (hs : StM w' g s' j' b' ds' n' m' (fun i => i = x)) (hn : w.heap.size ≤ s' ∧ w.heap.size ≤ j' ∧ w.heap.size ≤ b') (ht : Tells m' X) (hk : Kp ds' X n' room 0 D') (hx : Ext (just g) w w') :
    Two w' g s' j' b' x ds' n' m' X q room 0 D' := by
  have hxl := h.kx.blk.lt (by simp)
  refine ⟨hs, h.kx.ext hx (fun e => h.xn.1 (.inl e)) (off_just h.off), ht, h.good, h.few, hk, ⟨?_, by omega⟩, off_new h.kx h.off hn.1 hn.2.1⟩
  rintro (e | e | e)
  · exact h.xn.1 (.inl e)
  · omega
  · omega
end Go.Esc
namespace Go.Proofs.Ytpljcnjkdjblmaa
open Go.RowKit Go.Esc
set_option linter.unusedVariables false
theorem kvopen_opens (w : World) (g : Nat) (ds : DS) (M : Nat → Prop) (h : Dk w g ds M) (hM : ∀ k, M k → k < w.heap.size) (hok : ds.ok) (X : KvX) (room D : Nat) (hO : Opens ds X room D) :
    Calls Try.prog 13 #[.pointer (some ⟨g, 0, none⟩)] w fun e w' => ∃ s j b ds' n m, e = .returned (.tuple #[.pointer (some ⟨s, 0, none⟩), .int .i64 0]) ∧ StM w' g s j b ds' n m M ∧ (w.heap.size ≤ s ∧ w.heap.size ≤ j ∧ w.heap.size ≤ b) ∧ Tells m X ∧ X.Good ∧ Kp ds' X n room 0 D ∧ Ext (just g) w w' := by
  obtain ⟨ds', sn, B, Ls, h1, h2, h3⟩ := hO
  refine (kvopen_any w g ds ds' M h hM hok X room D sn B Ls h1 h2 h3).mono ?_
  rintro e w' ⟨s, j, b, rfl, h4, h5, h6⟩
  have hb := Tells.nil.puts B (fun c hc => chErr_coll (h2.bok c hc))
  have ht := folds_tells Ls _ _ hb h2.lok
  have hg := folds_good Ls _ (KvX.Good.nil.puts B h2.bok) h2.lok
  rw [← h2.says] at ht hg
  exact ⟨s, j, b, ds', Ls.length, _, rfl, h4, h5, ht, hg, ⟨B, Ls, h2, rfl⟩, h6⟩
end Go.Proofs.Ytpljcnjkdjblmaa
