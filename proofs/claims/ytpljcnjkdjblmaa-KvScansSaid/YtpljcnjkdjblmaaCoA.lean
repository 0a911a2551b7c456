/- Lists in order, plainly: where something is, what is laid there. -/
import Derived.Test.YtpljcnjkdjblmaaOpF
import Derived.Test.YtpljcnjkdjblmaaRow
namespace Go.Esc
open Go.RowKit
set_option linter.unusedSectionVars false

structure Order {K : Type} (lt : K → K → Bool) : Prop where
  irr : ∀ a, lt a a = false
  tr : ∀ {a b c}, lt a b = true → lt b c = true → lt a c = true
  tot : ∀ {a b}, lt a b = false → lt b a = false → a = b

theorem Order.asym {K : Type} {lt : K → K → Bool} (h : Order lt) {a b : K} (hab : lt a b = true) : lt b a = false := by
  cases e : lt b a with
  | false => rfl
  | true => have := h.tr hab e; rw [h.irr] at this; cases this
/-- What stands at most where something stands that is less, is less. -/
theorem Order.le_lt {K : Type} {lt : K → K → Bool} (h : Order lt) {a b c : K} (hab : lt b a = false) (hbc : lt b c = true) : lt a c = true := by
  cases e : lt a b with
  | true => exact h.tr e hbc
  | false => rw [h.tot e hab]; exact hbc

def intLt (a b : Int) : Bool := decide (a < b)
theorem intOrd : Order intLt := ⟨fun a => by simp [intLt], fun {a b c} h1 h2 => by simp [intLt] at *; omega, fun {a b} h1 h2 => by simp [intLt] at *; omega⟩
theorem bytesOrd : Order Op.bytesLess := by
  refine ⟨?_, ?_, ?_⟩
  · intro a
    induction a with
    | nil => rfl
    | cons x l ih => simp only [Op.bytesLess, ih, Bool.and_false, Bool.or_false, decide_eq_false_iff_not]; exact fun h => absurd h (by simp)
  · intro a
    induction a with
    | nil =>
      intro b c h1 h2
      cases b with
      | nil => simp [Op.bytesLess] at h1
      | cons y b =>
        cases c with
        | nil => simp [Op.bytesLess] at h2
        | cons z c => rfl
    | cons x a ih =>
      intro b c h1 h2
      cases b with
      | nil => simp [Op.bytesLess] at h1
      | cons y b =>
        cases c with
        | nil => simp [Op.bytesLess] at h2
        | cons z c =>
          simp only [Op.bytesLess, Bool.or_eq_true, Bool.and_eq_true, decide_eq_true_eq, beq_iff_eq] at *
          rcases h1 with h1 | ⟨rfl, h1⟩
          · rcases h2 with h2 | ⟨rfl, h2⟩
            · exact .inl (UInt8.lt_trans h1 h2)
            · exact .inl h1
          · rcases h2 with h2 | ⟨rfl, h2⟩
            · exact .inl h2
            · exact .inr ⟨rfl, ih h1 h2⟩
  · intro a
    induction a with
    | nil =>
      intro b h1 h2
      cases b with
      | nil => rfl
      | cons y b => simp [Op.bytesLess] at h1
    | cons x a ih =>
      intro b h1 h2
      cases b with
      | nil => simp [Op.bytesLess] at h2
      | cons y b =>
        simp only [Op.bytesLess, Bool.or_eq_false_iff, Bool.and_eq_false_iff, decide_eq_false_iff_not, beq_eq_false_iff_ne] at *
        obtain ⟨h1, h3⟩ := h1
        obtain ⟨h2, h4⟩ := h2
        have e : x = y := UInt8.le_antisymm (UInt8.not_lt.1 h2) (UInt8.not_lt.1 h1)
        subst e
        rw [ih (h3.resolve_left (fun h => h rfl)) (h4.resolve_left (fun h => h rfl))]
theorem dotOrd : Order DotR.lt := by
  refine ⟨fun a => ?_, fun {a b c} h1 h2 => ?_, fun {a b} h1 h2 => ?_⟩
  · cases e : a.lt a with
    | false => rfl
    | true => rw [DotR.lt_def] at e; omega
  · rw [DotR.lt_def] at *; omega
  · have g1 : ¬ a.lt b = true := by rw [h1]; simp
    have g2 : ¬ b.lt a = true := by rw [h2]; simp
    rw [DotR.lt_def] at g1 g2
    cases a; cases b
    simp only [DotR.mk.injEq]
    simp only at g1 g2
    omega
/-- One order, then another one. -/
def lexLt {K L : Type} [DecidableEq K] (f : K → K → Bool) (g : L → L → Bool) (a b : K × L) : Bool := f a.1 b.1 || (decide (a.1 = b.1) && g a.2 b.2)
theorem Order.lex {K L : Type} [DecidableEq K] {f : K → K → Bool} {g : L → L → Bool} (hf : Order f) (hg : Order g) : Order (lexLt f g) := by
  refine ⟨fun a => ?_, fun {a b c} h1 h2 => ?_, fun {a b} h1 h2 => ?_⟩
  · simp [lexLt, hf.irr, hg.irr]
  · simp only [lexLt, Bool.or_eq_true, Bool.and_eq_true, decide_eq_true_eq] at *
    rcases h1 with h1 | ⟨e1, h1⟩
    · rcases h2 with h2 | ⟨e2, h2⟩
      · exact .inl (hf.tr h1 h2)
      · exact .inl (e2 ▸ h1)
    · rcases h2 with h2 | ⟨e2, h2⟩
      · exact .inl (e1 ▸ h2)
      · exact .inr ⟨e1.trans e2, hg.tr h1 h2⟩
  · simp only [lexLt, Bool.or_eq_false_iff, Bool.and_eq_false_iff, decide_eq_false_iff_not] at *
    have e := hf.tot h1.1 h2.1
    exact Prod.ext e (hg.tot (h1.2.resolve_left (fun h => h e)) (h2.2.resolve_left (fun h => h e.symm)))

section
variable {α K : Type} [DecidableEq K] (κ : α → K) (lt : K → K → Bool)

def posOf (key : K) (l : List α) : Nat := (l.takeWhile (fun x => lt (κ x) key)).length
def look (key : K) (l : List α) : Option α := l.find? (fun x => decide (κ x = key))
/-- In order (what is alike may stand side by side). -/
def InOrd (l : List α) : Prop := l.Pairwise (fun a b => lt (κ b) (κ a) = false)
def putAt (n : Nat) (x : α) (l : List α) : List α := l.take n ++ [x] ++ l.drop n
/-- Is what stands at the place what is looked for? -/
def isAt (key : K) (l : List α) : Bool := match l[posOf κ lt key l]? with
  | some x => decide (κ x = key)
  | none => false

variable {κ lt}
theorem posOf_le (key : K) (l : List α) : posOf κ lt key l ≤ l.length := (List.takeWhile_sublist _).length_le
theorem posOf_cons (key : K) (x : α) (l : List α) : posOf κ lt key (x :: l) = if lt (κ x) key = true then posOf κ lt key l + 1 else 0 := by
  unfold posOf
  rw [List.takeWhile_cons]
  split <;> simp
theorem InOrd.cons {x : α} {l : List α} (h : InOrd κ lt (x :: l)) : InOrd κ lt l ∧ ∀ y ∈ l, lt (κ y) (κ x) = false := by
  unfold InOrd at *
  rw [List.pairwise_cons] at h
  exact ⟨h.2, h.1⟩
/-- What the binary search stands on. -/
theorem less_iff (ho : Order lt) (key : K) (l : List α) (h : InOrd κ lt l) (j : Nat) (x : α) (hj : l[j]? = some x) : lt (κ x) key = true ↔ j < posOf κ lt key l := by
  induction l generalizing j with
  | nil => simp at hj
  | cons y l ih =>
    obtain ⟨h1, h2⟩ := h.cons
    rw [posOf_cons]
    by_cases hy : lt (κ y) key = true
    · rw [if_pos hy]
      cases j with
      | zero => simp at hj; subst hj; simp [hy]
      | succ j => rw [ih h1 j (by simpa using hj)]; omega
    · rw [if_neg hy]
      cases j with
      | zero => simp at hj; subst hj; simp [hy]
      | succ j =>
        have hx := h2 x (List.mem_of_getElem? (by simpa using hj : l[j]? = some x))
        constructor
        · intro hxk; exact absurd (ho.le_lt hx hxk) hy
        · intro hlt; omega
theorem look_at (ho : Order lt) (key : K) (l : List α) (h : InOrd κ lt l) : look κ key l = if isAt κ lt key l = true then l[posOf κ lt key l]? else none := by
  induction l with
  | nil => simp [look, isAt, posOf]
  | cons y l ih =>
    obtain ⟨h1, h2⟩ := h.cons
    have hl : look κ key (y :: l) = if κ y = key then some y else look κ key l := by
      unfold look; rw [List.find?_cons]; split <;> simp_all
    rw [hl]
    by_cases hy : lt (κ y) key = true
    · have hne : ¬ κ y = key := fun e => by rw [e, ho.irr] at hy; cases hy
      rw [if_neg hne, ih h1]
      have e1 : isAt κ lt key (y :: l) = isAt κ lt key l := by unfold isAt; rw [posOf_cons, if_pos hy, List.getElem?_cons_succ]
      rw [e1, posOf_cons, if_pos hy, List.getElem?_cons_succ]
    · have e1 : posOf κ lt key (y :: l) = 0 := by rw [posOf_cons, if_neg hy]
      have e2 : isAt κ lt key (y :: l) = decide (κ y = key) := by unfold isAt; rw [e1]; rfl
      rw [e2, e1]
      by_cases he : κ y = key
      · simp [he]
      · rw [if_neg he]
        simp only [he, decide_false, Bool.false_eq_true, if_false]
        unfold look
        rw [List.find?_eq_none]
        intro x hx
        simp only [decide_eq_true_eq]
        intro e
        have := h2 x hx
        rw [e] at this
        exact he (ho.tot (by simpa using hy) this)
theorem isAt_iff (ho : Order lt) (key : K) (l : List α) (h : InOrd κ lt l) : isAt κ lt key l = true ↔ ∃ x, look κ key l = some x := by
  rw [look_at ho key l h]
  constructor
  · intro hi
    rw [if_pos hi]
    unfold isAt at hi
    cases hq : l[posOf κ lt key l]? with
    | none => rw [hq] at hi; simp at hi
    | some x => exact ⟨x, rfl⟩
  · rintro ⟨x, hx⟩
    split at hx
    · assumption
    · cases hx
theorem InOrd.putAt {x : α} {l : List α} (ho : Order lt) (h : InOrd κ lt l) : InOrd κ lt (putAt (posOf κ lt (κ x) l) x l) := by
  induction l with
  | nil => simp [Esc.putAt, InOrd, posOf]
  | cons y l ih =>
    obtain ⟨h1, h2⟩ := h.cons
    rw [posOf_cons]
    by_cases hy : lt (κ y) (κ x) = true
    · rw [if_pos hy]
      have e : Esc.putAt (posOf κ lt (κ x) l + 1) x (y :: l) = y :: Esc.putAt (posOf κ lt (κ x) l) x l := by simp [Esc.putAt]
      rw [e]
      refine List.pairwise_cons.2 ⟨fun z hz => ?_, ih h1⟩
      unfold Esc.putAt at hz
      simp only [List.mem_append, List.mem_singleton] at hz
      rcases hz with (hz | rfl) | hz
      · exact h2 z (List.mem_of_mem_take hz)
      · exact ho.asym hy
      · exact h2 z (List.mem_of_mem_drop hz)
    · rw [if_neg hy]
      have e : Esc.putAt 0 x (y :: l) = x :: y :: l := by simp [Esc.putAt]
      rw [e]
      refine List.pairwise_cons.2 ⟨fun z hz => ?_, h⟩
      rcases List.mem_cons.1 hz with rfl | hz
      · simpa using hy
      · cases e2 : lt (κ z) (κ x) with
        | false => rfl
        | true => exact absurd (ho.le_lt (h2 z hz) e2) hy
theorem InOrd.set {x : α} {l : List α} (h : InOrd κ lt l) (n : Nat) (y : α) (hn : l[n]? = some y) (he : κ x = κ y) : InOrd κ lt (l.set n x) := by
  unfold InOrd at *
  rw [List.pairwise_iff_getElem] at *
  intro i j hi hj hij
  have hi' : i < l.length := by simpa using hi
  have hj' : j < l.length := by simpa using hj
  have hk : ∀ m (hm : m < l.length), κ ((l.set n x)[m]'(by simpa using hm)) = κ l[m] := by
    intro m hm
    rw [List.getElem_set]
    split
    · rename_i e
      subst e
      rw [List.getElem?_eq_getElem hm] at hn
      cases hn
      exact he
    · rfl
  rw [hk i hi', hk j hj']
  exact h i j hi' hj' hij
theorem look_putAt (ho : Order lt) {x : α} {l : List α} (h : InOrd κ lt l) (key : K) : look κ key (putAt (posOf κ lt (κ x) l) x l) = if key = κ x then some x else look κ key l := by
  induction l with
  | nil => simp [putAt, look, posOf]; split <;> simp_all [eq_comm]
  | cons y l ih =>
    obtain ⟨h1, h2⟩ := h.cons
    have hl : ∀ (y : α) (l : List α), look κ key (y :: l) = if κ y = key then some y else look κ key l := by
      intro y l; unfold look; rw [List.find?_cons]; split <;> simp_all
    rw [posOf_cons]
    by_cases hy : lt (κ y) (κ x) = true
    · rw [if_pos hy]
      have e : putAt (posOf κ lt (κ x) l + 1) x (y :: l) = y :: putAt (posOf κ lt (κ x) l) x l := by simp [putAt]
      rw [e, hl, ih h1, hl]
      have hne : κ y ≠ κ x := fun e => by rw [e, ho.irr] at hy; cases hy
      by_cases e1 : κ y = key
      · rw [if_pos e1, if_pos e1, if_neg (fun e2 => hne (e1.trans e2))]
      · rw [if_neg e1, if_neg e1]
    · rw [if_neg hy]
      have e : putAt 0 x (y :: l) = x :: y :: l := by simp [putAt]
      rw [e, hl]
      by_cases e1 : key = κ x
      · rw [if_pos e1, if_pos e1.symm]
      · rw [if_neg e1, if_neg (fun e2 => e1 e2.symm)]
theorem look_set {x : α} {l : List α} (ho : Order lt) (h : InOrd κ lt l) (key : K) (hi : isAt κ lt (κ x) l = true) : look κ key (l.set (posOf κ lt (κ x) l) x) = if key = κ x then some x else look κ key l := by
  induction l with
  | nil => simp [isAt, posOf] at hi
  | cons y l ih =>
    obtain ⟨h1, h2⟩ := h.cons
    have hl : ∀ (y : α) (l : List α), look κ key (y :: l) = if κ y = key then some y else look κ key l := by
      intro y l; unfold look; rw [List.find?_cons]; split <;> simp_all
    by_cases hy : lt (κ y) (κ x) = true
    · have e1 : isAt κ lt (κ x) (y :: l) = isAt κ lt (κ x) l := by unfold isAt; rw [posOf_cons, if_pos hy, List.getElem?_cons_succ]
      rw [posOf_cons, if_pos hy, List.set_cons_succ, hl, ih h1 (e1 ▸ hi), hl]
      have hne : κ y ≠ κ x := fun e => by rw [e, ho.irr] at hy; cases hy
      by_cases e1 : κ y = key
      · rw [if_pos e1, if_pos e1, if_neg (fun e2 => hne (e1.trans e2))]
      · rw [if_neg e1, if_neg e1]
    · have e0 : posOf κ lt (κ x) (y :: l) = 0 := by rw [posOf_cons, if_neg hy]
      have e1 : κ y = κ x := by unfold isAt at hi; rw [e0] at hi; simpa using hi
      rw [e0, List.set_cons_zero, hl, hl]
      by_cases e2 : key = κ x
      · rw [if_pos e2, if_pos e2.symm]
      · rw [if_neg e2, if_neg (fun e => e2 e.symm), if_neg (fun e => e2 (e1 ▸ e.symm))]
theorem putAt_length (n : Nat) (x : α) (l : List α) : (putAt n x l).length = l.length + 1 := by
  unfold putAt
  have : l.length = (l.take n).length + (l.drop n).length := by rw [← List.length_append, List.take_append_drop]
  simp only [List.length_append, List.length_singleton]
  omega
theorem putAt_mem {n : Nat} {x y : α} {l : List α} (h : y ∈ putAt n x l) : y = x ∨ y ∈ l := by
  unfold putAt at h
  simp only [List.mem_append, List.mem_singleton] at h
  rcases h with (h | h) | h
  · exact .inr (List.mem_of_mem_take h)
  · exact .inl h
  · exact .inr (List.mem_of_mem_drop h)
theorem isAt_some {key : K} {l : List α} (h : isAt κ lt key l = true) : ∃ x, l[posOf κ lt key l]? = some x ∧ κ x = key := by
  unfold isAt at h
  cases hq : l[posOf κ lt key l]? with
  | none => rw [hq] at h; simp at h
  | some x => rw [hq] at h; exact ⟨x, rfl, by simpa using h⟩
end
end Go.Esc
