/- Collections in order, plainly: rows that rise, told by what is found in them; operations of unlike devices laid in any order. -/
import Derived.Test.YtejmmkjpncpedaaGreatCoB
namespace Go.Esc
open Go.RowKit
set_option linter.unusedSectionVars false
section
variable {α K β : Type} [DecidableEq K] {κ : α → K} {lt : K → K → Bool}
/-- Rising: each once. -/
def Rise (κ : α → K) (lt : K → K → Bool) (l : List α) : Prop := l.Pairwise (fun a b => lt (κ a) (κ b) = true)
theorem Rise.inOrd (ho : Order lt) {l : List α} (h : Rise κ lt l) : InOrd κ lt l := List.Pairwise.imp (fun h => ho.asym h) h
theorem Rise.cons {x : α} {l : List α} (h : Rise κ lt (x :: l)) : Rise κ lt l ∧ ∀ y ∈ l, lt (κ x) (κ y) = true := by
  unfold Rise at *
  rw [List.pairwise_cons] at h
  exact ⟨h.2, h.1⟩
theorem look_cons (key : K) (y : α) (l : List α) : look κ key (y :: l) = if κ y = key then some y else look κ key l := by
  unfold look; rw [List.find?_cons]; split <;> simp_all
theorem look_key {key : K} {l : List α} {x : α} (h : look κ key l = some x) : κ x = key ∧ x ∈ l := by
  unfold look at h
  exact ⟨by simpa using List.find?_some h, List.mem_of_find?_eq_some h⟩
theorem look_none {key : K} {l : List α} (h : ∀ x ∈ l, κ x ≠ key) : look κ key l = none := by
  unfold look
  rw [List.find?_eq_none]
  intro x hx
  simpa using h x hx
theorem look_mem (ho : Order lt) {l : List α} (h : Rise κ lt l) {x : α} (hx : x ∈ l) : look κ (κ x) l = some x := by
  induction l with
  | nil => cases hx
  | cons y l ih =>
    obtain ⟨h1, h2⟩ := h.cons
    rw [look_cons]
    rcases List.mem_cons.1 hx with rfl | hx
    · rw [if_pos rfl]
    · rw [if_neg (fun e => by have := h2 x hx; rw [e, ho.irr] at this; cases this), ih h1 hx]
/-- A rising row is what is found in it. -/
theorem Rise.ext (ho : Order lt) {l m : List α} (hl : Rise κ lt l) (hm : Rise κ lt m) (h : ∀ k, look κ k l = look κ k m) : l = m := by
  induction l generalizing m with
  | nil =>
    cases m with
    | nil => rfl
    | cons y m => have := h (κ y); rw [look_cons, if_pos rfl] at this; simp [look] at this
  | cons x l ih =>
    cases m with
    | nil => have := h (κ x); rw [look_cons, if_pos rfl] at this; simp [look] at this
    | cons y m =>
      obtain ⟨hl1, hl2⟩ := hl.cons
      obtain ⟨hm1, hm2⟩ := hm.cons
      have e : κ x = κ y := by
        refine ho.tot ?_ ?_
        · cases q : lt (κ x) (κ y) with
          | false => rfl
          | true =>
            have := h (κ x)
            rw [look_cons, if_pos rfl] at this
            obtain ⟨_, hmem⟩ := look_key this.symm
            rcases List.mem_cons.1 hmem with rfl | hmem
            · rw [ho.irr] at q; cases q
            · have h2 := ho.tr q (hm2 x hmem)
              rw [ho.irr] at h2; cases h2
        · cases q : lt (κ y) (κ x) with
          | false => rfl
          | true =>
            have := h (κ y)
            rw [look_cons (l := m), if_pos rfl] at this
            obtain ⟨_, hmem⟩ := look_key this
            rcases List.mem_cons.1 hmem with rfl | hmem
            · rw [ho.irr] at q; cases q
            · have h2 := ho.tr q (hl2 y hmem)
              rw [ho.irr] at h2; cases h2
      have exy : x = y := by
        have := h (κ x)
        rw [look_cons, if_pos rfl, look_cons, if_pos e.symm] at this
        exact Option.some.inj this
      subst exy
      rw [ih hl1 hm1 fun k => ?_]
      have := h k
      rw [look_cons, look_cons] at this
      by_cases hk : κ x = k
      · subst hk
        rw [look_none (fun z hz e => by have := hl2 z hz; rw [e, ho.irr] at this; cases this), look_none (fun z hz e => by have := hm2 z hz; rw [e, ho.irr] at this; cases this)]
      · rw [if_neg hk, if_neg hk] at this; exact this
theorem isAt_look (ho : Order lt) {l : List α} (h : Rise κ lt l) (key : K) : isAt κ lt key l = (look κ key l).isSome := by
  have := isAt_iff (κ := κ) ho key l (h.inOrd ho)
  cases q : isAt κ lt key l with
  | true => obtain ⟨x, hx⟩ := this.1 q; rw [hx]; rfl
  | false =>
    cases q2 : look κ key l with
    | none => rfl
    | some x => rw [this.2 ⟨x, q2⟩] at q; cases q
theorem Rise.putAt (ho : Order lt) {x : α} {l : List α} (h : Rise κ lt l) (hn : look κ (κ x) l = none) : Rise κ lt (putAt (posOf κ lt (κ x) l) x l) := by
  induction l with
  | nil => simp [Esc.putAt, Rise, posOf]
  | cons y l ih =>
    obtain ⟨h1, h2⟩ := h.cons
    rw [look_cons] at hn
    have hne : ¬ κ y = κ x := fun e => by rw [if_pos e] at hn; cases hn
    rw [if_neg hne] at hn
    rw [posOf_cons]
    by_cases hy : lt (κ y) (κ x) = true
    · rw [if_pos hy]
      have e : Esc.putAt (posOf κ lt (κ x) l + 1) x (y :: l) = y :: Esc.putAt (posOf κ lt (κ x) l) x l := by simp [Esc.putAt]
      rw [e]
      refine List.pairwise_cons.2 ⟨fun z hz => ?_, ih h1 hn⟩
      rcases putAt_mem hz with rfl | hz
      · exact hy
      · exact h2 z hz
    · rw [if_neg hy]
      have e : Esc.putAt 0 x (y :: l) = x :: y :: l := by simp [Esc.putAt]
      rw [e]
      have hxy : lt (κ x) (κ y) = true := by
        cases q : lt (κ x) (κ y) with
        | true => rfl
        | false => exact absurd (ho.tot (by simpa using hy) q) hne
      refine List.pairwise_cons.2 ⟨fun z hz => ?_, h⟩
      rcases List.mem_cons.1 hz with rfl | hz
      · exact hxy
      · exact ho.tr hxy (h2 z hz)
theorem Rise.set {x : α} {l : List α} (h : Rise κ lt l) (n : Nat) (y : α) (hn : l[n]? = some y) (he : κ x = κ y) : Rise κ lt (l.set n x) := by
  unfold Rise at *
  rw [List.pairwise_iff_getElem] at *
  intro i j hi hj hij
  have hi' : i < l.length := by simpa using hi
  have hj' : j < l.length := by simpa using hj
  have hk : ∀ m (hm : m < l.length), κ ((l.set n x)[m]'(by simpa using hm)) = κ l[m] := by
    intro m hm
    rw [List.getElem_set]
    split
    · rename_i e
      subst e
      rw [List.getElem?_eq_getElem hm] at hn
      cases hn
      exact he
    · rfl
  rw [hk i hi', hk j hj']
  exact h i j hi' hj' hij
/-- What is laid under a key, whether or not something stands there. -/
def layAt (κ : α → K) (lt : K → K → Bool) (x : α) (l : List α) : List α := if isAt κ lt (κ x) l = true then l.set (posOf κ lt (κ x) l) x else Esc.putAt (posOf κ lt (κ x) l) x l
theorem layAt_rise (ho : Order lt) {x : α} {l : List α} (h : Rise κ lt l) : Rise κ lt (layAt κ lt x l) := by
  unfold layAt
  split
  · rename_i hi
    obtain ⟨y, hy, he⟩ := isAt_some hi
    exact h.set _ y hy he.symm
  · rename_i hi
    refine h.putAt ho ?_
    rw [isAt_look ho h] at hi
    cases q : look κ (κ x) l with
    | none => rfl
    | some y => rw [q] at hi; exact absurd rfl hi
theorem layAt_look (ho : Order lt) {x : α} {l : List α} (h : Rise κ lt l) (k : K) : look κ k (layAt κ lt x l) = if k = κ x then some x else look κ k l := by
  unfold layAt
  split
  · rename_i hi
    exact look_set ho (h.inOrd ho) k hi
  · exact look_putAt ho (h.inOrd ho) k
theorem set_same {l : List α} {n : Nat} {x : α} (h : l[n]? = some x) : l.set n x = l := by
  apply List.ext_getElem?
  intro i
  rw [List.getElem?_set]
  split
  · rename_i e; subst e
    obtain ⟨hlt, e⟩ := List.getElem?_eq_some_iff.1 h
    rw [if_pos hlt, h]
  · rfl
theorem layAt_same (ho : Order lt) {x : α} {l : List α} (h : Rise κ lt l) (hx : look κ (κ x) l = some x) : layAt κ lt x l = l := by
  refine (layAt_rise ho h).ext ho h fun k => ?_
  rw [layAt_look ho h]
  split
  · rename_i e; rw [e, hx]
  · rfl
theorem layAt_comm (ho : Order lt) {x y : α} {l : List α} (h : Rise κ lt l) (hne : κ x ≠ κ y) : layAt κ lt y (layAt κ lt x l) = layAt κ lt x (layAt κ lt y l) := by
  refine (layAt_rise ho (layAt_rise ho h)).ext ho (layAt_rise ho (layAt_rise ho h)) fun k => ?_
  rw [layAt_look ho (layAt_rise ho h), layAt_look ho h, layAt_look ho (layAt_rise ho h), layAt_look ho h]
  by_cases h1 : k = κ x
  · by_cases h2 : k = κ y
    · exact absurd (h1.symm.trans h2) hne
    · simp [h1, hne]
  · simp [h1]
theorem layAt_over (ho : Order lt) {x y : α} {l : List α} (h : Rise κ lt l) (he : κ x = κ y) : layAt κ lt y (layAt κ lt x l) = layAt κ lt y l := by
  refine (layAt_rise ho (layAt_rise ho h)).ext ho (layAt_rise ho h) fun k => ?_
  rw [layAt_look ho (layAt_rise ho h), layAt_look ho h, layAt_look ho h]
  by_cases h1 : k = κ y
  · rw [if_pos h1, if_pos h1]
  · rw [if_neg h1, if_neg h1, if_neg (fun e => h1 (e.trans he))]
/-- Under a key is laid what g makes of what stands there. -/
def layG (κ : α → K) (lt : K → K → Bool) (key : β → K) (g : β → Option α → α) (o : β) (l : List α) : List α := layAt κ lt (g o (look κ (key o) l)) l
theorem layG_comm (ho : Order lt) {key : β → K} {g : β → Option α → α} (hk : ∀ o m, (∀ x, m = some x → κ x = key o) → κ (g o m) = key o) {o p : β} {l : List α} (h : Rise κ lt l)
    (hg : key o = key p → g p (some (g o (look κ (key o) l))) = g o (some (g p (look κ (key p) l)))) : layG κ lt key g p (layG κ lt key g o l) = layG κ lt key g o (layG κ lt key g p l) := by
  have ko := hk o (look κ (key o) l) (fun x hx => (look_key hx).1)
  have kp := hk p (look κ (key p) l) (fun x hx => (look_key hx).1)
  unfold layG
  rw [layAt_look ho h, layAt_look ho h]
  by_cases e : key o = key p
  · have := hg e
    have k2 := hk p (some (g o (look κ (key o) l))) (fun x hx => by cases hx; rw [ko, e])
    have k3 := hk o (some (g p (look κ (key p) l))) (fun x hx => by cases hx; rw [kp, e])
    rw [if_pos (by rw [ko, e]), if_pos (by rw [kp, e]), layAt_over ho h (by rw [ko, k2, e]), layAt_over ho h (by rw [kp, k3, e]), this]
  · rw [if_neg (fun e2 => e (by rw [e2, ko])), if_neg (fun e2 => e (by rw [e2, kp]))]
    exact layAt_comm ho h (by rw [ko, kp]; exact e)
theorem layG_rise (ho : Order lt) {key : β → K} {g : β → Option α → α} {o : β} {l : List α} (h : Rise κ lt l) : Rise κ lt (layG κ lt key g o l) := layAt_rise ho h
end
end Go.Esc
