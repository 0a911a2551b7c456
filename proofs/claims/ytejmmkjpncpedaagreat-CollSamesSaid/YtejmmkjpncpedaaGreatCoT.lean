/- Operations picked by their devices, plainly: what CollOrders does. -/
import Derived.Test.YtejmmkjpncpedaaGreatCoS
namespace Go.Esc
open Go.RowKit
set_option linter.unusedSimpArgs false
/-- Each device is one of six. -/
def sixDev (L : List OpR) : Prop := ∀ o ∈ L, 0 ≤ o.dot.dev ∧ o.dot.dev < 6
theorem ofDev_mem {d : Int} {L : List OpR} {o : OpR} : o ∈ ofDev d L ↔ o ∈ L ∧ o.dot.dev = d := by unfold ofDev; simp [List.mem_filter]
theorem ofDev_self {d : Int} {L : List OpR} (h : ∀ o ∈ L, o.dot.dev = d) : ofDev d L = L := by
  unfold ofDev
  exact List.filter_eq_self.2 (fun o ho => by simp [h o ho])
def rest (rem : Nat → List OpR) : List OpR := rem 0 ++ (rem 1 ++ (rem 2 ++ (rem 3 ++ (rem 4 ++ rem 5))))
theorem rest_dev {rem : Nat → List OpR} (h : ∀ i : Nat, i < 6 → ∀ o ∈ rem i, o.dot.dev = i) (d : Int) : ofDev d (rest rem) = if 0 ≤ d ∧ d < 6 then rem d.toNat else [] := by
  have key : ∀ i : Nat, i < 6 → ofDev d (rem i) = if d = i then rem i else [] := by
    intro i hi
    by_cases e : d = i
    · rw [if_pos e]; exact ofDev_self (fun o ho => by rw [h i hi o ho, e])
    · rw [if_neg e]; exact ofDev_none (fun o ho => by rw [h i hi o ho]; exact fun h => e h.symm)
  unfold rest
  simp only [ofDev_append]
  rw [key 0 (by omega), key 1 (by omega), key 2 (by omega), key 3 (by omega), key 4 (by omega), key 5 (by omega)]
  by_cases hd : 0 ≤ d ∧ d < 6
  · rw [if_pos hd]
    obtain ⟨n, rfl⟩ : ∃ n : Nat, d = n := ⟨d.toNat, by omega⟩
    have hn : n < 6 := by omega
    rcases (show n = 0 ∨ n = 1 ∨ n = 2 ∨ n = 3 ∨ n = 4 ∨ n = 5 by omega) with rfl | rfl | rfl | rfl | rfl | rfl <;> simp
  · rw [if_neg hd]
    rw [if_neg (by omega), if_neg (by omega), if_neg (by omega), if_neg (by omega), if_neg (by omega), if_neg (by omega)]
    rfl
theorem six_length : ∀ {L : List OpR}, sixDev L → L.length = (ofDev 0 L).length + (ofDev 1 L).length + (ofDev 2 L).length + (ofDev 3 L).length + (ofDev 4 L).length + (ofDev 5 L).length
  | [], _ => rfl
  | o :: L, h => by
    have ih := six_length (L := L) (fun x hx => h x (by simp [hx]))
    have ho := h o (by simp)
    simp only [ofDev_cons, List.length_cons]
    rcases (show o.dot.dev = 0 ∨ o.dot.dev = 1 ∨ o.dot.dev = 2 ∨ o.dot.dev = 3 ∨ o.dot.dev = 4 ∨ o.dot.dev = 5 by omega) with e | e | e | e | e | e <;> simp [e] <;> omega
/-- What was picked, and what is left of each device's. -/
structure Picked (G L : List OpR) (rem : Nat → List OpR) : Prop where
  gd : sixDev G
  ld : sixDev L
  eq : ∀ i : Nat, i < 6 → ofDev i L ++ rem i = ofDev i G
theorem Picked.dev {G L : List OpR} {rem : Nat → List OpR} (h : Picked G L rem) (i : Nat) (hi : i < 6) : ∀ o ∈ rem i, o.dot.dev = i := by
  intro o ho
  have : o ∈ ofDev i G := by rw [← h.eq i hi]; simp [ho]
  exact (ofDev_mem.1 this).2
theorem Picked.all {G L : List OpR} {rem : Nat → List OpR} (h : Picked G L rem) (d : Int) : ofDev d (L ++ rest rem) = ofDev d G := by
  rw [ofDev_append, rest_dev h.dev]
  by_cases hd : 0 ≤ d ∧ d < 6
  · rw [if_pos hd]
    have := h.eq d.toNat (by omega)
    rw [show ((d.toNat : Nat) : Int) = d by omega] at this
    exact this
  · rw [if_neg hd, List.append_nil, ofDev_none, ofDev_none]
    · intro o ho e; have := h.gd o ho; omega
    · intro o ho e; have := h.ld o ho; omega
theorem Picked.begin {G : List OpR} (h : sixDev G) : Picked G [] (fun i => ofDev i G) := ⟨h, fun o ho => (by cases ho), fun i hi => rfl⟩
/-- One more is picked. -/
def less (rem : Nat → List OpR) (k : Nat) (R : List OpR) : Nat → List OpR := fun i => if i = k then R else rem i
theorem Picked.pick {G L : List OpR} {rem : Nat → List OpR} (h : Picked G L rem) {k : Nat} (hk : k < 6) {x : OpR} {R : List OpR} (hx : rem k = x :: R) : Picked G (L ++ [x]) (less rem k R) := by
  have hd := h.dev k hk x (by rw [hx]; simp)
  refine ⟨h.gd, fun o ho => ?_, fun i hi => ?_⟩
  · rcases List.mem_append.1 ho with ho | ho
    · exact h.ld o ho
    · rw [List.mem_singleton.1 ho]; omega
  · unfold less
    rw [ofDev_append]
    by_cases e : i = k
    · subst e
      rw [if_pos rfl, ← h.eq i hi, hx, ofDev_self (d := (i : Int)) (L := [x]) (fun o ho => by rw [List.mem_singleton.1 ho]; exact hd)]
      simp
    · rw [if_neg e, ← h.eq i hi, ofDev_none (d := (i : Int)) (L := [x]) (fun o ho => by rw [List.mem_singleton.1 ho]; omega)]
      simp
theorem Picked.runs {G L : List OpR} {rem : Nat → List OpR} (h : Picked G L rem) (hr : Runs CollR.nil G) : Runs CollR.nil L := by
  have := orders G CollR.nil (L ++ rest rem) CollR.fine_nil hr h.all
  exact (runs_append.1 this.1).1
theorem runs_last {C : CollR} {L : List OpR} {x : OpR} (h : Runs C (L ++ [x])) : applyErr (foldC C L) x = 0 := by
  have := (runs_append.1 h).2
  exact this.1
theorem Picked.next {G L : List OpR} {rem : Nat → List OpR} (h : Picked G L rem) (hr : Runs CollR.nil G) {k : Nat} (hk : k < 6) {x : OpR} {R : List OpR} (hx : rem k = x :: R) : applyErr (foldC CollR.nil L) x = 0 :=
  runs_last ((h.pick hk hx).runs hr)
theorem Picked.length {G L : List OpR} {rem : Nat → List OpR} (h : Picked G L rem) : G.length = L.length + ((rem 0).length + (rem 1).length + (rem 2).length + (rem 3).length + (rem 4).length + (rem 5).length) := by
  have e := six_length h.gd
  have f := six_length h.ld
  have h0 := congrArg List.length (h.eq 0 (by omega))
  have h1 := congrArg List.length (h.eq 1 (by omega))
  have h2 := congrArg List.length (h.eq 2 (by omega))
  have h3 := congrArg List.length (h.eq 3 (by omega))
  have h4 := congrArg List.length (h.eq 4 (by omega))
  have h5 := congrArg List.length (h.eq 5 (by omega))
  simp only [List.length_append] at h0 h1 h2 h3 h4 h5
  rw [show ((0 : Nat) : Int) = 0 from rfl] at h0
  rw [show ((1 : Nat) : Int) = 1 from rfl] at h1
  rw [show ((2 : Nat) : Int) = 2 from rfl] at h2
  rw [show ((3 : Nat) : Int) = 3 from rfl] at h3
  rw [show ((4 : Nat) : Int) = 4 from rfl] at h4
  rw [show ((5 : Nat) : Int) = 5 from rfl] at h5
  omega
/-- Something is left: a device within the next six. -/
theorem Picked.some {G L : List OpR} {rem : Nat → List OpR} (h : Picked G L rem) (hl : L.length < G.length) (k : Nat) : ∃ j, k ≤ j ∧ j < k + 6 ∧ rem (j % 6) ≠ [] := by
  have hs : ∃ i, i < 6 ∧ rem i ≠ [] := by
    have e := h.length
    refine Classical.byContradiction (fun hc => ?_)
    have z : ∀ i, i < 6 → (rem i).length = 0 := fun i hi => by
      refine Classical.byContradiction (fun hn => hc ⟨i, hi, fun e => hn (by rw [e]; rfl)⟩)
    rw [z 0 (by omega), z 1 (by omega), z 2 (by omega), z 3 (by omega), z 4 (by omega), z 5 (by omega)] at e
    omega
  obtain ⟨i, hi, hr⟩ := hs
  refine ⟨k + (i + 6 - k % 6) % 6, by omega, by omega, ?_⟩
  rw [show (k + (i + 6 - k % 6) % 6) % 6 = i by omega]
  exact hr
theorem Picked.done {G L : List OpR} {rem : Nat → List OpR} (h : Picked G L rem) (hr : Runs CollR.nil G) (hl : L.length = G.length) : foldC CollR.nil L = foldC CollR.nil G := by
  have e := h.length
  have := orders G CollR.nil (L ++ rest rem) CollR.fine_nil hr h.all
  have h0 : rest rem = [] := by
    unfold rest
    apply List.eq_nil_of_length_eq_zero
    simp only [List.length_append]
    omega
  rw [h0, List.append_nil] at this
  exact this.2
end Go.Esc
