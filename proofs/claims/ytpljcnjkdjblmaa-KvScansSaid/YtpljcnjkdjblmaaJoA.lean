/- A journal, plainly; walks of Add, Snap, Count. -/
import Derived.Test.YtpljcnjkdjblmaaFrE
import Derived.Test.YtpljcnjkdjblmaaDkE
import Derived.Test.YtpljcnjkdjblmaaDkM
namespace Go.Esc

/-- A record is laid behind the others; a snapshot in the place of all. -/
def DS.jadd (s : DS) (b : List UInt8) : DS × Nat := if (s.append (frame b)).2 ≠ 0 then s.append (frame b) else (s.append (frame b)).1.sync
def DS.jsnap (s : DS) (b : List UInt8) : DS × Nat := s.swap (frame b)
/-- What Open finds. -/
def DS.opens (s : DS) : DS × Nat × List UInt8 × List (List UInt8) :=
  if s.dead = true then (s, 18, [], []) else
  if s.snap ≠ [] ∧ (one s.snap).2 ≠ 0 then (s, 10, [], []) else
  if (frScan s.log).2 < s.log.length then
    (if (s.cut (frScan s.log).2).2 ≠ 0 then ((s.cut (frScan s.log).2).1, (s.cut (frScan s.log).2).2, [], []) else ((s.cut (frScan s.log).2).1, 0, if s.snap = [] then [] else (one s.snap).1, (frScan s.log).1))
  else (s, 0, if s.snap = [] then [] else (one s.snap).1, (frScan s.log).1)

/-- How many records stand behind the snapshot: n1, if k is no error. -/
def tally (k n1 n : Nat) : Nat := if k = 0 then n1 else n
theorem tally_ok (n1 n : Nat) : tally 0 n1 n = n1 := rfl
theorem tally_err {k : Nat} (h : k ≠ 0) (n1 n : Nat) : tally k n1 n = n := if_neg h

def either (g j : Nat) : Nat → Prop := fun k => k = g ∨ k = j
end Go.Esc
namespace Go.Proofs.Ytpljcnjkdjblmaa
open Go.RowKit Go.Esc
set_option linter.unusedVariables false

theorem jmkFunc : ∀ (fn : Fn) (first cap : Array Value) (w : World), (Instr.makeFunc fn first cap).run Try.prog w = .ok (.func fn first cap) w := fun _ _ _ _ => rfl

/-- A journal in block j: its disk lies in block g, n records stand behind the snapshot. -/
def jcells (g n : Nat) : List Value := [.pointer (some ⟨g, 0, none⟩), .int .i64 n]
def JEnd (w : World) (g j : Nat) (N : Nat → Prop) (s : DS) (k n : Nat) (e : Ending) (w' : World) : Prop := e = .returned (.int .i64 k) ∧ Dk w' g s N ∧ Blk w' j (jcells g n) ∧ Ext (either g j) w w'

theorem appended_fresh {w w' : World} {a : Option Addr} {n c : Nat} {l : List UInt8} {g : Nat} (h : Own w' w.heap.size a 1 n c (bs l)) (hg : g < w.heap.size) : l ≠ [] → ∀ ad, a = some ad → ad.block ≠ g := fun _ ad ha => by have := (h.base ad ha).1; omega

set_option maxHeartbeats 1000000 in
theorem jadd_any (w : World) (g j n : Nat) (s : DS) (N : Nat → Prop) (h : Dk w g s N) (hJ : Blk w j (jcells g n)) (hjg : j ≠ g) (hNj : N j) (hN : ∀ k, N k → k < w.heap.size) (hok : s.ok) (hd : s.done ≤ 999990) (hn : n ≤ 1099511627776) (ba : Option Addr) (bc : Nat) (b : List UInt8) (hbd : Rd w ba (bs b)) (hbl : b.length ≤ 4194304) :
    Calls Try.prog 51 #[.pointer (some ⟨j, 0, none⟩), .slice ba b.length bc] w (JEnd w g j N (s.jadd b).1 (s.jadd b).2 (tally (s.jadd b).2 (n + 1) n)) := by
  have hgw := h.lt
  go_enter Try.func51, Try.ntmps51
  go_wp2_with fail
  refine (fframe_any w ba bc b hbd hbl).mono ?_
  rintro e w1 ⟨a1, c1, rfl, hown, hx1⟩
  have hJ1 := hJ.ext (by simp [jcells]) hx1 (fun h => h)
  have j0 := hJ1.cell 0 _ rfl
  have hfl : (frame b).length ≤ 1099511627776 := by rw [frame_length]; omega
  have hD1 := h.no hx1
  obtain ⟨hok2, hd2⟩ := DS.ok_append hok (by omega) (frame b)
  have Hj := Lib.hid (show s.jadd b = if (s.append (frame b)).2 ≠ 0 then s.append (frame b) else (s.append (frame b)).1.sync from rfl)
  go_wp2_with fail
  refine (append_any w1 g s N hD1 (fun k hk => Nat.lt_of_lt_of_le (hN k hk) hx1.size) hok a1 c1 (frame b) hown.rd (appended_fresh hown hgw) hfl).mono ?_
  rintro e w2 ⟨rfl, hD2, hx2⟩
  obtain ⟨s1, k, hr⟩ : ∃ s1 k, s.append (frame b) = (s1, k) := ⟨_, _, rfl⟩
  rw [hr] at Hj hok2 hd2 hD2 ⊢
  clear hr
  simp only at Hj hok2 hd2 hD2 ⊢
  have hx02 : Ext (just g) w w2 := (hx1.mono (fun _ _ h => h.elim)).comp hx2
  have hJ2 := hJ1.ext (by simp [jcells]) hx2 hjg
  clear j0 hJ1 hD1
  by_cases hk : k = 0
  rotate_left
  · have hkb : ((k : Int) == 0) = false := by rw [beq_eq_false_iff_ne]; omega
    rw [if_pos hk] at Hj
    go_wp2_with fail
    go_ret
    rw [Hj.out]
    simp only [tally_err hk]
    exact ⟨rfl, hD2, hJ2, hx02.mono (fun _ _ h => .inl h)⟩
  · subst hk
    rw [if_neg (by simp)] at Hj
    have j0 := hJ2.cell 0 _ rfl
    go_wp2_with fail
    refine (sync_any w2 g s1 N hD2 hok2).mono ?_
    rintro e w3 ⟨rfl, hD3, hx3⟩
    obtain ⟨s2, k, hr⟩ : ∃ s2 k, s1.sync = (s2, k) := ⟨_, _, rfl⟩
    rw [hr] at Hj hD3 ⊢
    clear hr
    simp only at hD3 ⊢
    have hx03 := hx02.comp hx3
    have hJ3 := hJ2.ext (by simp [jcells]) hx3 hjg
    clear j0 hJ2
    by_cases hk : k = 0
    rotate_left
    · have hkb : ((k : Int) == 0) = false := by rw [beq_eq_false_iff_ne]; omega
      go_wp2_with fail
      go_ret
      rw [Hj.out]
      simp only [tally_err hk]
      exact ⟨rfl, hD3, hJ3, hx03.mono (fun _ _ h => .inl h)⟩
    · subst hk
      have j1 := hJ3.cell 1 _ rfl
      have f1 := hJ3.fr 1
      go_wp2_with fail
      go_ret
      rw [Hj.out]
      simp only [tally_ok]
      refine ⟨rfl, hD3.ext (Ext.at w3 j 1 _) hjg.symm (fun k _ hk => by simp only [Esc.just] at hk; subst hk; exact hNj), ?_, (hx03.mono (fun _ _ h => .inl h)).comp (Ext.setCell _ _ _ (.inr rfl))⟩
      have := hJ3.set 1 (.int .i64 ((n + 1 : Nat) : Int)) (by simp [jcells])
      simpa [jcells] using this

set_option maxHeartbeats 1000000 in
theorem jsnap_any (w : World) (g j n : Nat) (s : DS) (N : Nat → Prop) (h : Dk w g s N) (hJ : Blk w j (jcells g n)) (hjg : j ≠ g) (hNj : N j) (hN : ∀ k, N k → k < w.heap.size) (hok : s.ok) (ba : Option Addr) (bc : Nat) (b : List UInt8) (hbd : Rd w ba (bs b)) (hbl : b.length ≤ 4194304) :
    Calls Try.prog 52 #[.pointer (some ⟨j, 0, none⟩), .slice ba b.length bc] w (JEnd w g j N (s.jsnap b).1 (s.jsnap b).2 (tally (s.jsnap b).2 0 n)) := by
  have hgw := h.lt
  go_enter Try.func52, Try.ntmps52
  go_wp2_with fail
  refine (fframe_any w ba bc b hbd hbl).mono ?_
  rintro e w1 ⟨a1, c1, rfl, hown, hx1⟩
  have hJ1 := hJ.ext (by simp [jcells]) hx1 (fun h => h)
  have j0 := hJ1.cell 0 _ rfl
  have hfl : (frame b).length ≤ 1099511627776 := by rw [frame_length]; omega
  have hD1 := h.no hx1
  go_wp2_with fail
  refine (swap_any w1 g s N hD1 (fun k hk => Nat.lt_of_lt_of_le (hN k hk) hx1.size) hok a1 c1 (frame b) hown.rd (appended_fresh hown hgw) hfl).mono ?_
  rintro e w2 ⟨rfl, hD2, hx2⟩
  obtain ⟨s1, k, hr⟩ : ∃ s1 k, s.swap (frame b) = (s1, k) := ⟨_, _, rfl⟩
  have Hj := Lib.hid (show s.jsnap b = (s1, k) from hr)
  rw [hr] at hD2 ⊢
  clear hr
  simp only at hD2 ⊢
  have hx02 : Ext (just g) w w2 := (hx1.mono (fun _ _ h => h.elim)).comp hx2
  have hJ2 := hJ1.ext (by simp [jcells]) hx2 hjg
  clear j0 hJ1 hD1
  by_cases hk : k = 0
  rotate_left
  · have hkb : ((k : Int) == 0) = false := by rw [beq_eq_false_iff_ne]; omega
    go_wp2_with fail
    go_ret
    rw [Hj.out]
    simp only [tally_err hk]
    exact ⟨rfl, hD2, hJ2, hx02.mono (fun _ _ h => .inl h)⟩
  · subst hk
    have j1 := hJ2.cell 1 _ rfl
    have f1 := hJ2.fr 1
    go_wp2_with fail
    go_ret
    rw [Hj.out]
    simp only [tally_ok]
    refine ⟨rfl, hD2.ext (Ext.at w2 j 1 _) hjg.symm (fun k _ hk => by simp only [Esc.just] at hk; subst hk; exact hNj), ?_, (hx02.mono (fun _ _ h => .inl h)).comp (Ext.setCell _ _ _ (.inr rfl))⟩
    have := hJ2.set 1 (.int .i64 0) (by simp [jcells])
    simpa [jcells] using this

theorem count_any (w : World) (g j n : Nat) (hJ : Blk w j (jcells g n)) :
    Calls Try.prog 50 #[.pointer (some ⟨j, 0, none⟩)] w fun e w' => e = .returned (.int .i64 n) ∧ w = w' := by
  have j1 := hJ.cell 1 _ rfl
  go_enter Try.func50, Try.ntmps50
  go_wp2_with fail
  go_ret
  exact ⟨rfl, rfl⟩
end Go.Proofs.Ytpljcnjkdjblmaa
