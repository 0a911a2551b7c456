/- Sets, plainly: what CollSets does. -/
import Derived.Test.YtejmmkjpncpedaaGreatDoorCoU
import Derived.Test.YtejmmkjpncpedaaGreatDoorScA
import Derived.Sort.KeysCollected
namespace Go.Esc
open Go.RowKit
set_option linter.unusedSimpArgs false
set_option linter.unusedVariables false

/-- The first error of a set's texts by a version. -/
def memErr (l : List ElemR) (key : List UInt8) (ver : Int) : Nat := match l with
  | [] => 0
  | x :: l => if x.key = key ∧ upErr x.ver ver ≠ 0 then upErr x.ver ver else memErr l key ver
def memTexts (l : List ElemR) (key : List UInt8) (ver : Int) : List (List UInt8) := (l.filter (fun x => decide (x.key = key))).map (fun x => up x.text x.ver ver)
/-- L is the texts, in order, each once. -/
def isMem (l : List ElemR) (key : List UInt8) (ver : Int) (L : List (List UInt8)) : Prop :=
  ∃ ss : List (List UInt8), L = ss.mergeSort (fun x y => decide (x ≤ y)) ∧ ss.Nodup ∧ ∀ t, t ∈ ss ↔ t ∈ memTexts l key ver
theorem memErr_all {l : List ElemR} {key : List UInt8} {ver : Int} (h : ∀ x ∈ l, x.key = key → upErr x.ver ver = 0) : memErr l key ver = 0 := by
  induction l with
  | nil => rfl
  | cons x l ih =>
    unfold memErr
    rw [if_neg (fun e => e.2 (h x (by simp) e.1))]
    exact ih (fun y hy => h y (by simp [hy]))
theorem perm_of {ss tt : List (List UInt8)} (h1 : ss.Nodup) (h2 : tt.Nodup) (h : ∀ t, t ∈ ss ↔ t ∈ tt) : ss.Perm tt := (List.perm_ext_iff_of_nodup h1 h2).2 h
/-- The same texts: the same row. -/
theorem isMem_same {l m : List ElemR} {key : List UInt8} {ver : Int} {L M : List (List UInt8)} (hl : isMem l key ver L) (hm : isMem m key ver M) (h : ∀ t, t ∈ memTexts l key ver ↔ t ∈ memTexts m key ver) : L = M := by
  obtain ⟨ss, rfl, h1, h2⟩ := hl
  obtain ⟨tt, rfl, h3, h4⟩ := hm
  exact Go.mergeSort_of_perm (perm_of h1 h3 (fun t => by rw [h2, h4, h]))
/-- One text less. -/
theorem isMem_less {l m : List ElemR} {key : List UInt8} {ver : Int} {L M : List (List UInt8)} (hl : isMem l key ver L) (hm : isMem m key ver M) (t : List UInt8) (h1 : t ∈ memTexts m key ver) (h : ∀ s, s ∈ memTexts l key ver ↔ s ∈ memTexts m key ver ∧ s ≠ t) : M.length = L.length + 1 := by
  obtain ⟨ss, rfl, e1, e2⟩ := hl
  obtain ⟨tt, rfl, e3, e4⟩ := hm
  rw [List.length_mergeSort, List.length_mergeSort]
  have hn : (t :: ss).Nodup := List.nodup_cons.2 ⟨fun hs => ((h t).1 ((e2 t).1 hs)).2 rfl, e1⟩
  have hp : (t :: ss).Perm tt := (List.perm_ext_iff_of_nodup hn e3).2 (fun s => by
    rw [List.mem_cons, e2, h, e4]
    constructor
    · rintro (rfl | ⟨h, _⟩)
      · exact h1
      · exact h
    · intro hs
      by_cases e : s = t
      · exact .inl e
      · exact .inr ⟨hs, e⟩)
  rw [← hp.length_eq]
  rfl

def dotsL (l : List ElemR) (key text : List UInt8) : List DotR := (l.filter (fun x => decide (x.key = key) && decide (x.text = text))).map ElemR.dot
theorem remL_less (ds : List DotR) : ∀ p : List DotR × List ElemR, (remL ds p).2 = p.2.filter (fun x => decide (x.dot ∉ ds)) := by
  induction ds with
  | nil => intro p; simp only [remL, List.not_mem_nil, not_false_eq_true, decide_true]; exact (List.filter_eq_self.2 (fun _ _ => rfl)).symm
  | cons d ds ih =>
    intro p
    rw [remL, ih]
    unfold lessL
    rw [List.filter_filter]
    congr 1
    funext x
    simp only [List.mem_cons, not_or, ← Bool.decide_and]
    exact decide_eq_decide.2 ⟨fun h => ⟨h.2, h.1⟩, fun h => ⟨h.2, h.1⟩⟩
theorem applyC_elems {C : CollR} {o : OpR} (h : applyErr C o = 0) : (applyC C o).elems = if o.kind = 2 then addL C.gone C.elems o else if o.kind = 3 then C.elems.filter (fun x => decide (x.dot ∉ o.dots)) else C.elems := by
  rw [applyC_zero h]
  unfold layC
  by_cases h1 : o.kind = 1
  · rw [if_pos h1, if_neg (by omega), if_neg (by omega)]
  · rw [if_neg h1]
    by_cases h2 : o.kind = 2
    · rw [if_pos h2, if_pos h2]
    · rw [if_neg h2, if_neg h2]
      by_cases h3 : o.kind = 3
      · rw [if_pos h3, if_pos h3]
        exact remL_less o.dots _
      · rw [if_neg h3, if_neg h3]
        split
        · rfl
        · split <;> rfl
theorem applyC_gone {C : CollR} {o : OpR} (h : applyErr C o = 0) (hk : o.kind = 2) : (applyC C o).gone = C.gone := by
  rw [applyC_zero h]
  unfold layC
  rw [if_neg (by omega), if_pos hk]

/-- The texts that are added. -/
def pqr : Nat → List UInt8
  | 0 => [112]
  | 1 => [113]
  | _ => [114]
theorem pqr_ok : ∀ n, n < 3 → textOk (pqr n) = true := by decide
def addOp (d n : Nat) (t : List UInt8) : OpR := ⟨⟨d, 1, n⟩, 0, 3, 2, [107], t, 0, 0, []⟩
def remOp (t : List UInt8) (l : List DotR) : OpR := ⟨⟨2, 1, 1⟩, 0, 3, 3, [107], t, 0, 0, l⟩
theorem addOp_ok (d n : Nat) (hd : d < 6) (hn : n < 100) (h1 : 1 ≤ n) (t : List UInt8) (ht : textOk t = true) : checkOp (addOp d n t) = 0 := by
  unfold checkOp
  have hh : headOk (addOp d n t) := by
    unfold headOk addOp
    simp only
    omega
  rw [if_neg (fun e => e hh), if_neg (fun e => e (by show (1 : Int) ≤ 2 ∧ (2 : Int) ≤ 5; omega)), if_neg (fun e => e ⟨(by decide : textOk [107] = true), ht⟩)]
  unfold kindErr
  have hk : (addOp d n t).kind = 2 := rfl
  have hy : (addOp d n t).key ≠ [] := by show ([107] : List UInt8) ≠ []; decide
  rw [if_neg (fun e => hy e.2), hk]
  rfl
theorem remOp_ok (t : List UInt8) (ht : textOk t = true) (l : List DotR) (hl : l.length ≤ 8) (hr : risesB l = true) : checkOp (remOp t l) = 0 := by
  unfold checkOp
  have hh : headOk (remOp t l) := by
    unfold headOk remOp
    simp only
    omega
  rw [if_neg (fun e => e hh), if_neg (fun e => e (by show (1 : Int) ≤ 3 ∧ (3 : Int) ≤ 5; omega)), if_neg (fun e => e ⟨(by decide : textOk [107] = true), ht⟩)]
  unfold kindErr
  have hk : (remOp t l).kind = 3 := rfl
  have hd : (remOp t l).dots = l := rfl
  have hy : (remOp t l).key ≠ [] := by show ([107] : List UInt8) ≠ []; decide
  rw [if_neg (fun e => hy e.2), if_pos hk, hd]
  unfold dotsErr
  rw [if_neg (by omega), if_pos hr]

/-- What n adds make. -/
structure Adds (n : Nat) (C : CollR) : Prop where
  fine : C.fine
  sm : C.small (8 * n)
  saw : ∀ d : Nat, seen C.v d 1 = if d = 0 then (n : Int) else 0
  gone : C.gone = []
  el : ∀ x ∈ C.elems, x.key = [107] ∧ x.ver = 3 ∧ x.text.length ≤ 1 ∧ ∃ s : Nat, x.dot = ⟨0, 1, s⟩ ∧ s ≤ n
  one : ∀ x ∈ C.elems, ∀ y ∈ C.elems, x.dot = y.dot → x = y
theorem adds_nil : Adds 0 CollR.nil := ⟨CollR.fine_nil, CollR.small_nil, fun d => by split <;> rfl, rfl, (fun x hx => by cases hx), (fun x hx => by cases hx)⟩
theorem mem_putAt {α : Type} {n : Nat} {x y : α} {l : List α} : y ∈ putAt n x l ↔ y = x ∨ y ∈ l := by
  unfold putAt
  simp only [List.mem_append, List.mem_singleton]
  constructor
  · rintro ((h | h) | h)
    · exact .inr (List.mem_of_mem_take h)
    · exact .inl h
    · exact .inr (List.mem_of_mem_drop h)
  · rintro (h | h)
    · exact .inl (.inr h)
    · have : y ∈ l.take n ++ l.drop n := by rw [List.take_append_drop]; exact h
      rcases List.mem_append.1 this with h | h
      · exact .inl (.inl h)
      · exact .inr h
theorem Adds.ok {n : Nat} {C : CollR} (h : Adds n C) (hn : n < 40) (d : Nat) (hd : d < 6) (t : List UInt8) (ht : textOk t = true) : applyErr C (addOp d (if d = 0 then n + 1 else 1) t) = 0 := by
  refine applyErr_zero.2 ⟨addOp_ok d _ hd (by split <;> omega) (by split <;> omega) t ht, ?_⟩
  rw [stepErr_zero]
  have hs := h.saw d
  refine ⟨⟨?_, ?_, ?_⟩, ?_⟩
  · show (0 : Int) ≤ d; omega
  · show (0 : Int) ≤ 1; omega
  · show (1 : Int) ≤ ((if d = 0 then n + 1 else 1 : Nat) : Int); split <;> omega
  · show seen C.v d 1 < ((if d = 0 then n + 1 else 1 : Nat) : Int)
    rw [hs]
    split <;> omega
theorem Adds.elems {n : Nat} {C : CollR} (h : Adds n C) {o : OpR} (he : applyErr C o = 0) (hk : o.kind = 2) (x : ElemR) : x ∈ (applyC C o).elems ↔ x = elemOf o ∨ x ∈ C.elems := by
  rw [applyC_elems he, if_pos hk]
  unfold addL
  rw [h.gone, if_neg (by show ¬ isAt (fun d => d) DotR.lt o.dot ([] : List DotR) = true; simp [isAt, posOf])]
  exact mem_putAt
theorem Adds.step {n : Nat} {C : CollR} (h : Adds n C) (hn : n < 30) (t : List UInt8) (ht : textOk t = true) (h1 : t.length ≤ 1) : applyErr C (addOp 0 (n + 1) t) = 0 ∧ Adds (n + 1) (applyC C (addOp 0 (n + 1) t)) := by
  have he := h.ok (by omega) 0 (by omega) t ht
  rw [if_pos rfl] at he
  refine ⟨he, h.fine.apply _, (h.sm.apply _).mono (by omega), fun d => ?_, by rw [applyC_gone he rfl]; exact h.gone, fun x hx => ?_, fun x hx y hy hd => ?_⟩
  · rw [applyC_v he, seen_step h.fine.v _ (by show (0 : Int) ≤ ((n + 1 : Nat) : Int); omega)]
    have hp : (((d : Int), (1 : Int)) = (DotR.mk (0 : Nat) 1 ((n + 1 : Nat) : Int)).pair) ↔ d = 0 := by
      show (((d : Int), (1 : Int)) = (((0 : Nat) : Int), (1 : Int))) ↔ _
      rw [Prod.mk.injEq]
      omega
    have hs := h.saw d
    by_cases e : d = 0
    · rw [if_pos e] at hs
      rw [if_pos (show _ = (addOp 0 (n + 1) t).dot.pair from hp.2 e), if_pos e, hs]
      show max (n : Int) ((n + 1 : Nat) : Int) = _
      omega
    · rw [if_neg e] at hs
      rw [if_neg (show ¬ _ = (addOp 0 (n + 1) t).dot.pair from fun q => e (hp.1 q)), if_neg e, hs]
  · rcases (h.elems he rfl x).1 hx with rfl | hx
    · exact ⟨rfl, rfl, h1, n + 1, rfl, Nat.le_refl _⟩
    · obtain ⟨a, b, c, s, d, e⟩ := h.el x hx
      exact ⟨a, b, c, s, d, by omega⟩
  · rcases (h.elems he rfl x).1 hx with rfl | hx <;> rcases (h.elems he rfl y).1 hy with rfl | hy
    · rfl
    · obtain ⟨_, _, _, s, e, hs⟩ := h.el y hy
      have e2 : (⟨((0 : Nat) : Int), 1, ((n + 1 : Nat) : Int)⟩ : DotR) = y.dot := hd
      rw [e] at e2
      injection e2 with _ _ e3
      omega
    · obtain ⟨_, _, _, s, e, hs⟩ := h.el x hx
      have e2 : x.dot = (⟨((0 : Nat) : Int), 1, ((n + 1 : Nat) : Int)⟩ : DotR) := hd
      rw [e] at e2
      injection e2 with _ _ e3
      omega
    · exact h.one x hx y hy hd

theorem rise_lt {a b : DotR} : DotR.lt a b = true ↔ DotR.lt a b = true := Iff.rfl
/-- The dots of one text stand in order. -/
theorem dotsL_rise {l : List ElemR} (h : Rise ElemR.k3 elemLt l) (key text : List UInt8) : (dotsL l key text).Pairwise (fun a b => DotR.lt a b = true) := by
  unfold dotsL
  rw [List.pairwise_map]
  refine (List.Pairwise.filter _ h).imp_of_mem ?_
  intro a b ha hb hab
  rw [List.mem_filter, Bool.and_eq_true, decide_eq_true_iff, decide_eq_true_iff] at ha hb
  unfold elemLt lexLt ElemR.k3 at hab
  simp only [ha.2.1, ha.2.2, hb.2.1, hb.2.2, bytesOrd.irr, decide_true, Bool.true_and, Bool.false_or] at hab
  exact hab
theorem rises_of {l : List DotR} (h : l.Pairwise (fun a b => DotR.lt a b = true)) : risesB l = true := by
  rw [risesB_iff]
  intro j a b ha hb
  obtain ⟨hj, rfl⟩ := List.getElem?_eq_some_iff.1 ha
  obtain ⟨hj2, rfl⟩ := List.getElem?_eq_some_iff.1 hb
  exact (List.pairwise_iff_getElem.1 h) j (j + 1) hj hj2 (by omega)
theorem mem_dotsL {l : List ElemR} {key text : List UInt8} {d : DotR} : d ∈ dotsL l key text ↔ ∃ x ∈ l, x.key = key ∧ x.text = text ∧ x.dot = d := by
  unfold dotsL
  rw [List.mem_map]
  constructor
  · rintro ⟨x, hx, rfl⟩
    rw [List.mem_filter, Bool.and_eq_true, decide_eq_true_iff, decide_eq_true_iff] at hx
    exact ⟨x, hx.1, hx.2.1, hx.2.2, rfl⟩
  · rintro ⟨x, hx, h1, h2, rfl⟩
    exact ⟨x, by rw [List.mem_filter, Bool.and_eq_true, decide_eq_true_iff, decide_eq_true_iff]; exact ⟨hx, h1, h2⟩, rfl⟩
theorem seen_other {C : CollR} {n : Nat} (h : Adds n C) : seen C.v 2 1 = 0 := by have := h.saw 2; simpa using this

/-- All of it. -/
theorem sets {n : Nat} {C : CollR} (h : Adds n C) (hn : n < 30) (t : List UInt8) (ht : textOk t = true) (h1 : t.length ≤ 1) (D : List DotR) (hD : D = (dotsL C.elems [107] t).take 8) :
    applyErr C (addOp 1 1 t) = 0 ∧ applyErr (applyC C (addOp 1 1 t)) (remOp t D) = 0 ∧ applyErr C (remOp t D) = 0 ∧
    0 < (dotsL (applyC (applyC C (addOp 1 1 t)) (remOp t D)).elems [107] t).length ∧
    (∀ x ∈ C.elems, x.key = [107] → upErr x.ver 3 = 0) ∧ (∀ x ∈ (applyC C (remOp t D)).elems, x.key = [107] → upErr x.ver 3 = 0) ∧
    (((dotsL C.elems [107] t).length = 0 ∨ 8 < (dotsL C.elems [107] t).length) → ∀ s, s ∈ memTexts (applyC C (remOp t D)).elems [107] 3 ↔ s ∈ memTexts C.elems [107] 3) ∧
    (¬ ((dotsL C.elems [107] t).length = 0 ∨ 8 < (dotsL C.elems [107] t).length) → t ∈ memTexts C.elems [107] 3 ∧ (∀ s, s ∈ memTexts (applyC C (remOp t D)).elems [107] 3 ↔ s ∈ memTexts C.elems [107] 3 ∧ s ≠ t) ∧ (dotsL (applyC C (remOp t D)).elems [107] t).length = 0) := by
  have hrise := dotsL_rise h.fine.e [107] t
  have hDr : risesB D = true := by rw [hD]; exact rises_of (hrise.sublist (List.take_sublist _ _))
  have hD8 : D.length ≤ 8 := by rw [hD, List.length_take]; omega
  have hDm : ∀ d ∈ D, ∃ x ∈ C.elems, x.key = [107] ∧ x.text = t ∧ x.dot = d := fun d hd => mem_dotsL.1 (List.mem_of_mem_take (hD ▸ hd))
  have he1 := h.ok (by omega) 1 (by omega) t ht
  rw [if_neg (by omega)] at he1
  have hok := remOp_ok t ht D hD8 hDr
  have hs0 : ∀ v : List DotR, seen v 2 1 = 0 → stepErr v (remOp t D).dot = 0 := by
    intro v hv
    rw [stepErr_zero]
    refine ⟨by show ((0 : Int) ≤ 2 ∧ (0 : Int) ≤ 1 ∧ (1 : Int) ≤ 1); omega, ?_⟩
    show seen v 2 1 < 1
    omega
  have he3 : applyErr C (remOp t D) = 0 := applyErr_zero.2 ⟨hok, hs0 _ (seen_other h)⟩
  have he2 : applyErr (applyC C (addOp 1 1 t)) (remOp t D) = 0 := applyErr_zero.2 ⟨hok, hs0 _ (by
    rw [applyC_v he1, seen_step h.fine.v _ (by show (0 : Int) ≤ ((1 : Nat) : Int); omega), if_neg (by show ¬ (((2 : Int), (1 : Int)) = (((1 : Nat) : Int), (1 : Int))); rw [Prod.mk.injEq]; omega)]
    exact seen_other h)⟩
  have hup : ∀ x ∈ C.elems, x.key = [107] → upErr x.ver 3 = 0 := fun x hx _ => by rw [(h.el x hx).2.1]; decide
  have hY : ∀ x, x ∈ (applyC C (remOp t D)).elems ↔ x ∈ C.elems ∧ x.dot ∉ D := by
    intro x
    rw [applyC_elems he3, if_neg (by show ¬ (3 : Int) = 2; omega), if_pos (show (remOp t D).kind = 3 from rfl), List.mem_filter, decide_eq_true_iff]
    exact Iff.rfl
  have hmt : ∀ (l : List ElemR), (∀ x ∈ l, x ∈ C.elems) → ∀ s, s ∈ memTexts l [107] 3 ↔ ∃ x ∈ l, x.text = s := by
    intro l hl s
    unfold memTexts
    rw [List.mem_map]
    constructor
    · rintro ⟨x, hx, rfl⟩
      have hx := (List.mem_filter.1 hx).1
      refine ⟨x, hx, ?_⟩
      rw [(h.el x (hl x hx)).2.1]
      rfl
    · rintro ⟨x, hx, rfl⟩
      refine ⟨x, by rw [List.mem_filter, decide_eq_true_iff]; exact ⟨hx, (h.el x (hl x hx)).1⟩, ?_⟩
      rw [(h.el x (hl x hx)).2.1]
      rfl
  refine ⟨he1, he2, he3, ?_, hup, fun x hx hk => hup x ((hY x).1 hx).1 hk, ?_, ?_⟩
  · have hm : (⟨((1 : Nat) : Int), 1, ((1 : Nat) : Int)⟩ : DotR) ∈ dotsL (applyC (applyC C (addOp 1 1 t)) (remOp t D)).elems [107] t := by
      refine mem_dotsL.2 ⟨elemOf (addOp 1 1 t), ?_, rfl, rfl, rfl⟩
      rw [applyC_elems he2, if_neg (by show ¬ (3 : Int) = 2; omega), if_pos (show (remOp t D).kind = 3 from rfl), List.mem_filter, decide_eq_true_iff]
      refine ⟨(h.elems he1 rfl _).2 (.inl rfl), fun hd => ?_⟩
      obtain ⟨x, hx, _, _, e⟩ := hDm _ hd
      obtain ⟨_, _, _, s, e2, _⟩ := h.el x hx
      rw [e] at e2
      have e3 : (⟨((1 : Nat) : Int), 1, ((1 : Nat) : Int)⟩ : DotR) = ⟨0, 1, (s : Int)⟩ := e2
      injection e3 with e4
      omega
    exact List.length_pos_of_mem hm
  · intro hc s
    rw [hmt _ (fun x hx => ((hY x).1 hx).1), hmt _ (fun x hx => hx)]
    constructor
    · rintro ⟨x, hx, rfl⟩; exact ⟨x, ((hY x).1 hx).1, rfl⟩
    · rintro ⟨x, hx, rfl⟩
      by_cases e : x.text = t
      · rcases hc with hc | hc
        · exfalso
          have : x.dot ∈ dotsL C.elems [107] t := mem_dotsL.2 ⟨x, hx, (h.el x hx).1, e, rfl⟩
          rw [List.length_eq_zero_iff.1 hc] at this
          cases this
        · obtain ⟨d, hd⟩ : ∃ d, (dotsL C.elems [107] t)[8]? = some d := ⟨_, List.getElem?_eq_getElem hc⟩
          obtain ⟨y, hy, h1, h2, h3⟩ := mem_dotsL.1 (List.mem_of_getElem? hd)
          refine ⟨y, (hY y).2 ⟨hy, ?_⟩, by rw [h2, e]⟩
          rw [h3, hD]
          intro hin
          obtain ⟨i, hi⟩ := List.getElem?_of_mem hin
          rw [List.getElem?_take] at hi
          split at hi
          · obtain ⟨hi1, hi2⟩ := List.getElem?_eq_some_iff.1 hi
            obtain ⟨hj1, hj2⟩ := List.getElem?_eq_some_iff.1 hd
            have := (List.pairwise_iff_getElem.1 hrise) i 8 hi1 hj1 (by omega)
            rw [hi2, hj2, dotOrd.irr] at this
            cases this
          · cases hi
      · refine ⟨x, (hY x).2 ⟨hx, fun hin => ?_⟩, rfl⟩
        obtain ⟨y, hy, _, e2, e3⟩ := hDm _ hin
        exact e (by rw [← h.one y hy x hx e3, e2])
  · intro hc
    have hall : D = dotsL C.elems [107] t := by rw [hD, List.take_of_length_le (by omega)]
    obtain ⟨d, hd⟩ : ∃ d, (dotsL C.elems [107] t)[0]? = some d := ⟨_, List.getElem?_eq_getElem (by omega)⟩
    obtain ⟨y, hy, h1, h2, h3⟩ := mem_dotsL.1 (List.mem_of_getElem? hd)
    refine ⟨(hmt _ (fun x hx => hx) t).2 ⟨y, hy, h2⟩, fun s => ?_, ?_⟩
    · rw [hmt _ (fun x hx => ((hY x).1 hx).1), hmt _ (fun x hx => hx)]
      constructor
      · rintro ⟨x, hx, rfl⟩
        refine ⟨⟨x, ((hY x).1 hx).1, rfl⟩, fun e => ((hY x).1 hx).2 ?_⟩
        rw [hall]
        exact mem_dotsL.2 ⟨x, ((hY x).1 hx).1, (h.el x ((hY x).1 hx).1).1, e, rfl⟩
      · rintro ⟨⟨x, hx, rfl⟩, hne⟩
        refine ⟨x, (hY x).2 ⟨hx, fun hin => ?_⟩, rfl⟩
        obtain ⟨z, hz, _, e2, e3⟩ := hDm _ hin
        exact hne (by rw [← h.one z hz x hx e3, e2])
    · rw [List.length_eq_zero_iff, List.eq_nil_iff_forall_not_mem]
      intro d hd
      obtain ⟨x, hx, _, e2, e3⟩ := mem_dotsL.1 hd
      refine ((hY x).1 hx).2 ?_
      rw [hall]
      exact mem_dotsL.2 ⟨x, ((hY x).1 hx).1, (h.el x ((hY x).1 hx).1).1, e2, rfl⟩
end Go.Esc
