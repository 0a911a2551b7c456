/- Rows of operations such as may be, each device's numbered one behind the other, plainly. -/
import Derived.Test.YtejmmkjpncpedaaGreatCoQ
namespace Go.Esc
open Go.RowKit
theorem check_num (o : OpR) (m : Int) (h1 : 1 ≤ m) (h2 : m ≤ 1073741824) (h : checkOp o = 0) : checkOp { o with dot := ⟨o.dot.dev, 1, m⟩ } = 0 := by
  unfold checkOp at *
  split at h
  · cases h
  · rename_i hh
    split at h
    · cases h
    · rename_i hk
      split at h
      · cases h
      · rename_i ht
        have hh' := Decidable.not_not.1 hh
        have : headOk { o with dot := ⟨o.dot.dev, 1, m⟩ } := by
          unfold headOk at *
          simp only
          omega
        rw [if_neg (fun e => e this), if_neg hk, if_neg ht]
        exact h
/-- How far a device's count goes on. -/
def gap (o : OpR) : Int := 1 + (o.dot.seq % 5) / 4
theorem gap_pos (o : OpR) : 1 ≤ gap o ∧ gap o ≤ 2 := by unfold gap; omega
def devN (o : OpR) : Nat := (o.dot.dev % 6).toNat
theorem devN_lt (o : OpR) : devN o < 6 := by unfold devN; omega
theorem devN_eq (o : OpR) : (devN o : Int) = o.dot.dev % 6 := by unfold devN; omega
def rowOp (o : OpR) (m : Int) : OpR := { goodOp o with dot := ⟨o.dot.dev % 6, 1, m⟩ }
def nextN (n : List Int) (o : OpR) : List Int := n.set (devN o) (n.getD (devN o) 0 + gap o)
def rowL : List Int → List OpR → List OpR
  | _, [] => []
  | n, o :: l => rowOp o (n.getD (devN o) 0 + gap o) :: rowL (nextN n o) l
def rowN : List Int → List OpR → List Int
  | n, [] => n
  | n, o :: l => rowN (nextN n o) l
theorem rowL_append (l m : List OpR) : ∀ n, rowL n (l ++ m) = rowL n l ++ rowL (rowN n l) m := by
  induction l with
  | nil => intro n; rfl
  | cons o l ih => intro n; simp only [List.cons_append, rowL, rowN, ih]
theorem rowN_append (l m : List OpR) : ∀ n, rowN n (l ++ m) = rowN (rowN n l) m := by
  induction l with
  | nil => intro n; rfl
  | cons o l ih => intro n; simp only [List.cons_append, rowN, ih]
theorem rowL_length (l : List OpR) : ∀ n, (rowL n l).length = l.length := by
  induction l with
  | nil => intro n; rfl
  | cons o l ih => intro n; simp only [rowL, List.length_cons, ih]
theorem rowN_length (l : List OpR) : ∀ n, (rowN n l).length = n.length := by
  induction l with
  | nil => intro n; rfl
  | cons o l ih => intro n; simp only [rowN, ih]; simp [nextN]
theorem getD_set (n : List Int) (i j : Nat) (x : Int) (hi : i < n.length) : (n.set i x).getD j 0 = if j = i then x else n.getD j 0 := by
  rw [List.getD_eq_getElem?_getD, List.getD_eq_getElem?_getD, List.getElem?_set]
  by_cases e : j = i
  · subst e; simp [hi]
  · rw [if_neg (fun h => e h.symm), if_neg e]
theorem rowN_bound (l : List OpR) : ∀ (n : List Int) (m : Nat), n.length = 6 → (∀ i, 0 ≤ n.getD i 0 ∧ n.getD i 0 ≤ 2 * m) → ∀ i, 0 ≤ (rowN n l).getD i 0 ∧ (rowN n l).getD i 0 ≤ 2 * ((m + l.length : Nat) : Int) := by
  induction l with
  | nil => intro n m _ h i; have := h i; simp only [rowN, List.length_nil]; omega
  | cons o l ih =>
    intro n m h6 h i
    have hg := gap_pos o
    have hd := devN_lt o
    have := ih (nextN n o) (m + 1) (by simp [nextN, h6]) (fun j => by
      unfold nextN
      rw [getD_set _ _ _ _ (by omega)]
      have h1 := h j
      have h2 := h (devN o)
      split <;> omega) i
    simp only [rowN, List.length_cons]
    omega
theorem rowOp_ok (o : OpR) (h : o.ok) (m : Int) (h1 : 1 ≤ m) (h2 : m ≤ 1073741824) : (rowOp o m).ok ∧ checkOp (rowOp o m) = 0 := by
  have g := goodOp_ok o h
  refine ⟨⟨⟨g.dot.1, ⟨by show (-9223372036854775808 : Int) ≤ 1; omega, by show (1 : Int) ≤ 9223372036854775807; omega⟩, ⟨?_, ?_⟩⟩, g.coll, g.ver, g.kind, g.n, g.time, g.key, g.text, g.dots⟩, check_num (goodOp o) m h1 h2 (goodOp_check o)⟩
  · show _ ≤ m; omega
  · show m ≤ _; omega
theorem rowL_runs (l : List OpR) : ∀ (n : List Int) (m : Nat) (C : CollR), C.fine → n.length = 6 → (∀ i, 0 ≤ n.getD i 0 ∧ n.getD i 0 ≤ 2 * m) → m + l.length ≤ 1000 → (∀ i : Nat, i < 6 → seen C.v i 1 ≤ n.getD i 0) → (∀ o ∈ l, o.ok) → Runs C (rowL n l) := by
  induction l with
  | nil => intros; trivial
  | cons o l ih =>
    intro n m C hC h6 hn hm hs hok
    have hg := gap_pos o
    have hd := devN_lt o
    have he := devN_eq o
    have hnd := hn (devN o)
    rw [List.length_cons] at hm
    have hx := (rowOp_ok o (hok o (by simp)) (n.getD (devN o) 0 + gap o) (by omega) (by omega)).2
    have herr : applyErr C (rowOp o (n.getD (devN o) 0 + gap o)) = 0 := by
      rw [applyErr_zero]
      refine ⟨hx, stepErr_zero.2 ⟨⟨?_, ?_, ?_⟩, ?_⟩⟩
      · show 0 ≤ o.dot.dev % 6; omega
      · show (0 : Int) ≤ 1; omega
      · show 1 ≤ n.getD (devN o) 0 + gap o; omega
      · show seen C.v (o.dot.dev % 6) 1 < n.getD (devN o) 0 + gap o
        rw [← he]
        have := hs (devN o) hd
        omega
    refine ⟨herr, ih (nextN n o) (m + 1) _ (hC.apply _) (by simp [nextN, h6]) (fun j => ?_) (by omega) (fun i hi => ?_) (fun x hx => hok x (by simp [hx]))⟩
    · unfold nextN
      rw [getD_set _ _ _ _ (by omega)]
      have h1 := hn j
      split <;> omega
    · rw [applyC_v herr, seen_step hC.v _ (by show 0 ≤ n.getD (devN o) 0 + gap o; omega)]
      unfold nextN
      rw [getD_set _ _ _ _ (by omega)]
      have h1 := hs i hi
      have hp : (((i : Int), (1 : Int)) = (rowOp o (n.getD (devN o) 0 + gap o)).dot.pair) ↔ i = devN o := by
        show (((i : Int), (1 : Int)) = (o.dot.dev % 6, (1 : Int))) ↔ _
        rw [← he, Prod.mk.injEq]
        omega
      have hq : (rowOp o (n.getD (devN o) 0 + gap o)).dot.seq = n.getD (devN o) 0 + gap o := rfl
      rw [hq]
      by_cases e : i = devN o
      · rw [if_pos (hp.2 e), if_pos e]
        subst e
        omega
      · rw [if_neg (fun h => e (hp.1 h)), if_neg e]; exact h1
end Go.Esc
