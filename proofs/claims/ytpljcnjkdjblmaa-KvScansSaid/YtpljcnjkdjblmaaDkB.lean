/- Walks of the package disk: what a disk is in memory; own, spend. -/
import Derived.Test.YtpljcnjkdjblmaaSl
import Derived.Test.YtpljcnjkdjblmaaDkA
import Derived.Deep.DeepCutAuto
import Derived.BigQuiet
namespace Go.Esc
open Go.RowKit
variable {w w' : World}

theorem Ext.at (w : World) (g k : Nat) (v : Value) : Ext (just g) w (w.setCell ⟨g, k, none⟩ v) := Ext.setCell _ _ _ rfl

/-- Bytes that a struct in block g refers to; they lie in no block of N. -/
def Sl (w : World) (g : Nat) (N : Nat → Prop) (a : Option Addr) (c : Nat) (l : List UInt8) : Prop :=
  Rd w a (bs l) ∧ l.length ≤ c ∧ c ≤ maxLen ∧ (l ≠ [] → ∀ ad, a = some ad → ad.block ≠ g ∧ ¬ N ad.block)
theorem Sl.nil (w : World) (g : Nat) (N : Nat → Prop) : Sl w g N none 0 [] := ⟨Rd.nil _ _, by simp, Nat.zero_le _, fun h => absurd rfl h⟩
theorem Sl.ext {S N : Nat → Prop} {g : Nat} {a : Option Addr} {c : Nat} {l : List UInt8} (h : Sl w g N a c l) (hx : Ext S w w') (hs : ∀ k, k < w.heap.size → S k → k = g ∨ N k) : Sl w' g N a c l := by
  obtain ⟨h1, h2, h3, h4⟩ := h
  refine ⟨?_, h2, h3, h4⟩
  by_cases he : l = []
  · rw [he]; exact Rd.nil _ _
  · obtain ⟨ad, ha, hlt⟩ := h1.ne (by rw [bs_length]; exact List.length_pos_iff.2 he)
    refine h1.ext hx (fun ad' ha' hS => ?_)
    rw [ha] at ha'
    cases ha'
    obtain ⟨h5, h6⟩ := h4 he ad ha
    rcases hs _ hlt hS with h | h
    · exact h5 h
    · exact h6 h
theorem Sl.own {N : Nat → Prop} {g B : Nat} {a : Option Addr} {n c : Nat} {l : List UInt8} (h : Own w B a 1 n c (bs l)) (hg : g < B) (hN : ∀ k, N k → k < B) : Sl w g N a c l := by
  refine ⟨h.rd, ?_, h.cm, fun _ ad ha => ?_⟩
  · have h1 := h.len; have h2 := h.nc; rw [bs_length] at h1; omega
  · have := (h.base ad ha).1
    exact ⟨by omega, fun hk => by have := hN _ hk; omega⟩
theorem Sl.take {N : Nat → Prop} {g : Nat} {a : Option Addr} {c : Nat} {l : List UInt8} (h : Sl w g N a c l) (k : Nat) : Sl w g N a c (l.take k) := by
  obtain ⟨h1, h2, h3, h4⟩ := h
  refine ⟨by rw [← bs_take]; exact h1.take k, by rw [List.length_take]; omega, h3, fun he => h4 (fun hh => he (by rw [hh]; simp))⟩
theorem Sl.fewer {N N' : Nat → Prop} {g : Nat} {a : Option Addr} {c : Nat} {l : List UInt8} (h : Sl w g N a c l) (hN : ∀ k, k < w.heap.size → N' k → N k) : Sl w g N' a c l := by
  obtain ⟨h1, h2, h3, h4⟩ := h
  refine ⟨h1, h2, h3, fun he ad ha => ⟨(h4 he ad ha).1, fun hk => ?_⟩⟩
  obtain ⟨ad', ha', hlt⟩ := h1.ne (by rw [bs_length]; exact List.length_pos_iff.2 he)
  rw [ha] at ha'
  cases ha'
  exact (h4 he ad ha).2 (hN _ hlt hk)

def dcells (s : DS) (la : Option Addr) (lc : Nat) (sa : Option Addr) (sc : Nat) : List Value :=
  [.int .i64 s.left, .int .i64 s.odd, .int .i64 s.done, .bool s.dead, .slice la s.log.length lc, .int .i64 s.synced, .slice sa s.snap.length sc, .int .i64 s.room]
/-- A disk in block g. -/
def Dk (w : World) (g : Nat) (s : DS) (N : Nat → Prop) : Prop := ∃ la lc sa sc, Blk w g (dcells s la lc sa sc) ∧ Sl w g N la lc s.log ∧ Sl w g N sa sc s.snap
theorem Dk.lt {g : Nat} {s : DS} {N : Nat → Prop} (h : Dk w g s N) : g < w.heap.size := by
  obtain ⟨_, _, _, _, h1, _⟩ := h
  exact h1.lt (by simp [dcells])
theorem Dk.ext {S N : Nat → Prop} {g : Nat} {s : DS} (h : Dk w g s N) (hx : Ext S w w') (hg : ¬ S g) (hs : ∀ k, k < w.heap.size → S k → N k) : Dk w' g s N := by
  obtain ⟨la, lc, sa, sc, h1, h2, h3⟩ := h
  exact ⟨la, lc, sa, sc, h1.ext (by simp [dcells]) hx hg, h2.ext hx (fun k hk h => .inr (hs k hk h)), h3.ext hx (fun k hk h => .inr (hs k hk h))⟩
theorem Dk.no {N : Nat → Prop} {g : Nat} {s : DS} (h : Dk w g s N) (hx : Ext no w w') : Dk w' g s N := h.ext hx (fun h => h) (fun _ _ h => h.elim)
theorem Dk.fewer {N N' : Nat → Prop} {g : Nat} {s : DS} (h : Dk w g s N) (hN : ∀ k, k < w.heap.size → N' k → N k) : Dk w g s N' := by
  obtain ⟨la, lc, sa, sc, h1, h2, h3⟩ := h
  exact ⟨la, lc, sa, sc, h1, h2.fewer hN, h3.fewer hN⟩
end Go.Esc
namespace Go.Proofs.Ytpljcnjkdjblmaa
open Go.RowKit Go.Esc

set_option maxHeartbeats 400000 in
theorem own_any (w : World) (a : Option Addr) (c : Nat) (l : List UInt8) (hrd : Rd w a (bs l)) (hl : l.length ≤ 70368744177664) :
    Calls Try.prog 40 #[.slice a l.length c] w fun e w' => ∃ a' c', e = .returned (.slice a' l.length c') ∧ Own w' w.heap.size a' 1 l.length c' (bs l) ∧ Ext no w w' := by
  go_enter Try.func40, Try.ntmps40
  go_wp2_with (with_reducible refine wpList_make_z TBytes rfl rfl rfl l.length rfl rfl rfl rfl w.heap.size (Nat.le_refl _) (by omega) (by unfold maxLen; omega) ?_)
  intro ad w1 hown hx1
  go_wp2_with (with_reducible refine wpList_copy TBytes rfl rfl hown (off := 0) rfl rfl (fun _ => by rw [Addr.add_zero']) (hrd.ext hx1 (fun _ _ h => h)) (by simp) (bs_one _) (Nat.le_refl _) (by omega) ?_)
  intro w2 hown2 hx2
  go_wp2_with fail
  go_ret
  exact ⟨some ad, l.length, rfl, hown2, Ext.ofBelow (hx1.belowAll.trans (hown.below hx2 hx1.size)) (Nat.le_refl _)⟩

/-- What an operation that is spent leaves in the first four cells. -/
def SpendEnd (w : World) (g left odd done : Nat) (r : List Value) (e : Ending) (w' : World) : Prop := e = .returned (.bool (decide (left ≠ 1))) ∧
  Blk w' g (.int .i64 (left - 1 : Nat) :: .int .i64 odd :: .int .i64 (if left = 1 then done else done + 1 : Nat) :: .bool (decide (left = 1)) :: r) ∧ Ext (just g) w w'

set_option maxHeartbeats 400000 in
theorem spend_any (w : World) (g : Nat) (left odd done : Nat) (r : List Value) (hB : Blk w g (.int .i64 left :: .int .i64 odd :: .int .i64 done :: .bool false :: r)) (hl : left ≤ 9223372036854775807) (hd : done ≤ 4611686018427387904) :
    Calls Try.prog 61 #[.pointer (some ⟨g, 0, none⟩)] w (SpendEnd w g left odd done r) := by
  have c0 := hB.cell 0 _ rfl
  have c2 := hB.cell 2 _ rfl
  have c3 := hB.cell 3 _ rfl
  have f0 := hB.fr 0
  have f2 := hB.fr 2
  have f3 := hB.fr 3
  by_cases h0 : left = 0
  · subst h0
    go_enter Try.func61, Try.ntmps61
    go_wp2_with fail
    go_ret
    refine ⟨rfl, ?_, Ext.setCell _ _ _ rfl⟩
    have := hB.set 2 (.int .i64 (done + 1 : Nat)) (by simp)
    simpa using this
  by_cases h1 : left = 1
  · subst h1
    go_enter Try.func61, Try.ntmps61
    go_wp2_with fail
    go_ret
    refine ⟨rfl, ?_, (Ext.at _ _ _ _).comp (Ext.at _ _ _ _)⟩
    have := (hB.set 0 (.int .i64 0) (by simp)).set 3 (.bool true) (by simp)
    simpa using this
  have hl2 : 2 ≤ left := by omega
  have hb : ((left : Int) - 1 == 0) = false := by rw [beq_eq_false_iff_ne]; omega
  have Hn := Lib.hid (show ((left : Int) - 1) = ((left - 1 : Nat) : Int) by omega)
  go_enter Try.func61, Try.ntmps61
  go_wp2_with fail
  go_ret
  refine ⟨?_, ?_, ((Ext.at _ _ _ _).comp (Ext.at _ _ _ _)).comp (Ext.at _ _ _ _)⟩
  · rw [decide_eq_true h1]; rfl
  · have := ((hB.set 0 (.int .i64 ((left : Int) - 1)) (by simp)).set 3 (.bool false) (by simp)).set 2 (.int .i64 ((done : Int) + 1)) (by simp)
    rw [decide_eq_false h1, if_neg h1, ← Hn.out]
    simpa using this

theorem spend_dk (w : World) (g : Nat) (s : DS) (la sa : Option Addr) (lc sc : Nat) (hB : Blk w g (dcells s la lc sa sc)) (hd : s.dead = false) (hl : s.left ≤ 9223372036854775807) (hn : s.done ≤ 4611686018427387904) :
    Calls Try.prog 61 #[.pointer (some ⟨g, 0, none⟩)] w fun e w' => e = .returned (.bool (decide (s.left ≠ 1))) ∧ Blk w' g (dcells s.spend la lc sa sc) ∧ Ext (just g) w w' := by
  unfold dcells at hB
  rw [hd] at hB
  refine (spend_any w g s.left s.odd s.done _ hB hl hn).mono ?_
  rintro e w' ⟨h1, h2, h3⟩
  refine ⟨h1, ?_, h3⟩
  unfold DS.spend dcells
  by_cases h : s.left = 1
  · simpa [h] using h2
  · simpa [h, hd] using h2
end Go.Proofs.Ytpljcnjkdjblmaa
