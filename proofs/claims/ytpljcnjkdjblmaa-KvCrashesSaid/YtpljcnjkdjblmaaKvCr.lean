/- Stores whose power goes: what the law KvCrashes needs, plainly. -/
import Derived.Test.YtpljcnjkdjblmaaKvTo
import Derived.Test.YtpljcnjkdjblmaaKvI
namespace Go.Esc
open Go.RowKit
set_option linter.unusedVariables false
/-- Keys are one letter. -/
def KvX.Low (X : KvX) : Prop := ∀ (c : Int) (r : PairR), c = 0 ∨ c = 1 ∨ c = 2 → r ∈ X.row c → ∃ b : UInt8, r.key = [b] ∧ 97 ≤ b.toNat ∧ b.toNat < 110
theorem KvX.Low.nil : KvX.nil.Low := by
  intro c r _ h
  have hrow : KvX.nil.row c = [] := by unfold KvX.row KvX.nil; simp
  rw [hrow] at h
  cases h
theorem KvX.Low.put {X : KvX} (h : X.Low) (hg : X.Good) (c : ChangeR) (hc : c.coll = 0 ∨ c.coll = 1 ∨ c.coll = 2) (hk : ∃ b : UInt8, c.key = [b] ∧ 97 ≤ b.toNat ∧ b.toNat < 110) : (X.put c).Low := by
  intro k r hk' hr
  rw [X.row_put c hc k hk'] at hr
  split at hr
  · rw [rowPut_eq, insRow_mem (hg.rise k hk')] at hr
    rcases hr with ⟨_, rfl⟩ | ⟨hr, _⟩
    · exact hk
    · exact h k r hk' hr
  · exact h k r hk' hr
theorem KvX.Low.puts {X : KvX} (h : X.Low) (hg : X.Good) (l : List ChangeR) (hl : ∀ c ∈ l, chErr c = 0 ∧ ∃ b : UInt8, c.key = [b] ∧ 97 ≤ b.toNat ∧ b.toNat < 110) : (X.puts l).Low := by
  induction l generalizing X with
  | nil => exact h
  | cons c l ih => exact ih (h.put hg c (chErr_coll (hl c (by simp)).1) (hl c (by simp)).2) (hg.put c (hl c (by simp)).1) (fun d hd => hl d (List.mem_cons_of_mem _ hd))
theorem rise_len : ∀ (l : List PairR) (lo : Nat), Rising l → (∀ r ∈ l, ∃ b : UInt8, r.key = [b] ∧ lo ≤ b.toNat ∧ b.toNat < 110) → l.length ≤ 110 - lo
  | [], _, _, _ => by simp
  | r :: l, lo, h, hl => by
    obtain ⟨b, hb, h1, h2⟩ := hl r (by simp)
    have hp := List.pairwise_cons.1 h
    have := rise_len l (b.toNat + 1) hp.2 (fun x hx => by
      obtain ⟨d, hd, h3, h4⟩ := hl x (List.mem_cons_of_mem _ hx)
      refine ⟨d, hd, ?_, h4⟩
      have h5 := hp.1 x hx
      rw [hb, hd] at h5
      simp only [Op.bytesLess, Bool.and_false, Bool.or_false, decide_eq_true_eq] at h5
      have h6 := UInt8.lt_iff_toNat_lt.1 h5
      omega)
    rw [List.length_cons]
    omega
theorem KvX.Low.len {X : KvX} (h : X.Low) (hg : X.Good) : X.len ≤ 39 := by
  have h0 := rise_len X.r0 97 (hg.rise 0 (by simp)) (fun r hr => h 0 r (by simp) hr)
  have h1 := rise_len X.r1 97 (hg.rise 1 (by simp)) (fun r hr => h 1 r (by simp) hr)
  have h2 := rise_len X.r2 97 (hg.rise 2 (by simp)) (fun r hr => h 2 r (by simp) hr)
  unfold KvX.len
  omega
theorem goodL_low (l : List ChangeR) : ∀ c ∈ goodL l, chErr c = 0 ∧ ∃ b : UInt8, c.key = [b] ∧ 97 ≤ b.toNat ∧ b.toNat < 110 := by
  intro c hc
  refine ⟨goodL_err l c hc, ?_⟩
  obtain ⟨d, _, rfl⟩ := List.mem_map.1 hc
  exact ⟨gKey d, rfl, (gKey_at d).2.2, (gKey_at d).2.1⟩
theorem KvX.Low.good {X : KvX} (h : X.Low) (hg : X.Good) (l : List ChangeR) : xErr X (goodL l) = 0 ∧ (X.puts (goodL l)).Low := by
  have h1 := h.len hg
  have h2 := goodL_len l
  have h3 := puts_len (goodL l) X
  refine ⟨?_, h.puts hg _ (goodL_low l)⟩
  unfold xErr
  rw [if_neg (by omega), (firstErr_zero _).2 (goodL_err l), if_neg (by simp), if_neg (by omega)]
theorem Kp.lf {s : DS} {X : KvX} {n room Lf Lf' D : Nat} (h : Kp s X n room Lf D) (hL : Lf ≤ Lf') : Kp s X n room Lf' D := by
  obtain ⟨B, Ls, h, hn⟩ := h
  exact ⟨B, Ls, ⟨h.toKpS, h.dead, Nat.le_trans h.left hL, h.log, h.sync⟩, hn⟩
theorem Kp.alive {s : DS} {X : KvX} {n room Lf D : Nat} (h : Kp s X n room Lf D) : s.dead = false := by
  obtain ⟨B, Ls, h, hn⟩ := h
  exact h.dead
theorem Kp.stop {s : DS} {X : KvX} {n room Lf D : Nat} (h : Kp s X n room Lf D) (p : Int) (hp : p.toNat ≤ Lf) : Kp (s.stop p) X n room Lf D := by
  obtain ⟨B, Ls, h, hn⟩ := h
  exact ⟨B, Ls, ⟨⟨by show p.toNat % 2 ≤ 1; omega, h.rm, h.done, h.snap, h.says, h.bok, h.blen, h.lok, h.few, h.fits⟩, h.dead, hp, h.log, h.sync⟩, hn⟩
theorem Two.lf {w : World} {g s j b x : Nat} {ds : DS} {n : Nat} {m : KvM} {X : KvX} {q : Trio} {room Lf Lf' D D' : Nat} (h : Two w g s j b x ds n m X q room Lf D) (hL : Lf ≤ Lf') (hD : D ≤ D') : Two w g s j b x ds n m X q room Lf' D' :=
  ⟨h.st, h.kx, h.tells, h.good, h.few, (h.kp.lf hL).more hD, h.xn, h.off⟩
theorem Two.stop {w w' : World} {g s j b x : Nat} {ds : DS} {n : Nat} {m : KvM} {X : KvX} {q : Trio} {room Lf D : Nat} (h : Two w g s j b x ds n m X q room Lf D) (p : Int) (hD : Dk w' g (ds.stop p) (fun i => (i = s ∨ i = j ∨ i = b) ∨ i = x)) (hx : Ext (just g) w w') (hp : p.toNat ≤ Lf) :
    Two w' g s j b x (ds.stop p) n m X q room Lf D := by
  have hs := h.st.st
  refine ⟨⟨⟨hs.blk.ext (by simp) hx (fun e => hs.sg e), hD.fewer (fun k _ e => .inl e), hs.jn.ext (by simp) hx (fun e => hs.jg e), hs.mp.ext hx (fun e => hs.bg e), hs.sg, hs.jg, hs.bg, hs.sj, hs.sb, hs.jb⟩, hD, fun k hk => Nat.lt_of_lt_of_le (h.st.mlt k hk) hx.size⟩,
    h.kx.ext hx (fun e => h.xn.1 (.inl e)) (off_just h.off), h.tells, h.good, h.few, h.kp.stop p hp, h.xn, h.off⟩
/-- Opened anew behind a crash. -/
theorem Duo.reopened {w w' : World} {g s j b x y s' j' b' : Nat} {ds ds' : DS} {n n' : Nat} {m m' : KvM} {X X' : KvX} {q q' : Trio} (h : Duo w g s j b x y ds n m X q X' q') (hs : StM w' g s' j' b' ds' n' m' (fun i => i = x ∨ i = y)) (hn : w.heap.size ≤ s' ∧ w.heap.size ≤ j' ∧ w.heap.size ≤ b') (hx : Ext (just g) w w') :
    Duo w' g s' j' b' x y ds' n' m' X q X' q' := by
  have hxl := h.kx.blk.lt (by simp)
  have hyl := h.ky.blk.lt (by simp)
  refine ⟨hs, h.kx.ext hx (fun e => h.xn.1 (.inl e)) (off_just h.ox), h.ky.ext hx (fun e => h.yn.1 (.inl e)) (off_just h.oy), ⟨?_, by omega⟩, ⟨?_, by omega⟩, off_new h.kx h.ox hn.1 hn.2.1, off_new h.ky h.oy hn.1 hn.2.1⟩
  · rintro (e | e | e)
    · exact h.xn.1 (.inl e)
    · omega
    · omega
  · rintro (e | e | e)
    · exact h.yn.1 (.inl e)
    · omega
    · omega
end Go.Esc
