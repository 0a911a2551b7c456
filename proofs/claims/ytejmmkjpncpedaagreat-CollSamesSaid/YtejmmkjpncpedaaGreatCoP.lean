/- Operations of unlike devices laid in any order make the same collection, plainly. -/
import Derived.Test.YtejmmkjpncpedaaGreatCoO
namespace Go.Esc
open Go.RowKit
def setG (o : OpR) : Option RegR → RegR
  | some r => if younger o r = true then regOf o else r
  | none => regOf o
def countG (o : OpR) : Option SumR → SumR
  | some x => ⟨o.key, wrap64 (x.n + o.n)⟩
  | none => ⟨o.key, o.n⟩
def bindG (o : OpR) : Option BindR → BindR
  | some b => if DotR.lt o.dot b.dot = true then bindOf o else b
  | none => bindOf o
def stepG (d : DotR) : Option DotR → DotR
  | some x => ⟨d.dev, d.ep, max x.seq d.seq⟩
  | none => d
theorem layAt_yes {α K : Type} [DecidableEq K] {κ : α → K} {lt : K → K → Bool} (ho : Order lt) {l : List α} (h : Rise κ lt l) {x y : α} (hl : look κ (κ x) l = some y) : layAt κ lt x l = l.set (posOf κ lt (κ x) l) x := by
  unfold layAt; rw [isAt_look ho h, hl]; rfl
theorem layAt_no {α K : Type} [DecidableEq K] {κ : α → K} {lt : K → K → Bool} (ho : Order lt) {l : List α} (h : Rise κ lt l) {x : α} (hl : look κ (κ x) l = none) : layAt κ lt x l = putAt (posOf κ lt (κ x) l) x l := by
  unfold layAt; rw [isAt_look ho h, hl]; rfl
theorem setL_lay {l : List RegR} (h : Rise RegR.key Op.bytesLess l) (o : OpR) : setL l o = layG RegR.key Op.bytesLess OpR.key setG o l := by
  unfold setL layG
  cases q : look RegR.key o.key l with
  | none => exact (layAt_no (x := regOf o) bytesOrd h q).symm
  | some r =>
    have hk := (look_key q).1
    simp only [setG]
    split
    · exact (layAt_yes (x := regOf o) bytesOrd h q).symm
    · exact (layAt_same bytesOrd h (by rw [hk, q])).symm
theorem countL_lay {l : List SumR} (h : Rise SumR.key Op.bytesLess l) (o : OpR) : countL l o = layG SumR.key Op.bytesLess OpR.key countG o l := by
  unfold countL layG
  cases q : look SumR.key o.key l with
  | none => exact (layAt_no (x := ⟨o.key, o.n⟩) bytesOrd h q).symm
  | some r => exact (layAt_yes (x := ⟨o.key, wrap64 (r.n + o.n)⟩) bytesOrd h q).symm
theorem bindL_lay {l : List BindR} (h : Rise BindR.id intLt l) (o : OpR) : bindL l o = layG BindR.id intLt OpR.n bindG o l := by
  unfold bindL layG
  cases q : look BindR.id o.n l with
  | none => exact (layAt_no (x := bindOf o) intOrd h q).symm
  | some r =>
    have hk := (look_key q).1
    simp only [bindG]
    split
    · exact (layAt_yes (x := bindOf o) intOrd h q).symm
    · exact (layAt_same intOrd h (by rw [hk, q])).symm
theorem stepV_lay {l : List DotR} (h : Rise DotR.pair pairLt l) (d : DotR) : stepV l d = layG DotR.pair pairLt DotR.pair stepG d l := by
  unfold stepV layG
  rw [isAt_look pairOrd h]
  have hs : seen l d.dev d.ep = match look DotR.pair d.pair l with | some x => x.seq | none => 0 := rfl
  cases q : look DotR.pair d.pair l with
  | none => exact (layAt_no (x := d) pairOrd h q).symm
  | some r =>
    rw [q] at hs
    simp only [hs, Option.isSome_some, if_true]
    exact (layAt_yes (x := ⟨d.dev, d.ep, max r.seq d.seq⟩) pairOrd h q).symm
theorem setG_key (o : OpR) (m : Option RegR) (h : ∀ x, m = some x → x.key = o.key) : (setG o m).key = o.key := by
  cases m with
  | none => rfl
  | some x => simp only [setG]; split; rfl; exact h x rfl
theorem countG_key (o : OpR) (m : Option SumR) (h : ∀ x, m = some x → x.key = o.key) : (countG o m).key = o.key := by cases m <;> rfl
theorem bindG_key (o : OpR) (m : Option BindR) (h : ∀ x, m = some x → x.id = o.n) : (bindG o m).id = o.n := by
  cases m with
  | none => rfl
  | some x => simp only [bindG]; split; rfl; exact h x rfl
theorem stepG_key (o : DotR) (m : Option DotR) (h : ∀ x, m = some x → x.pair = o.pair) : (stepG o m).pair = o.pair := by cases m <;> rfl
theorem wrap64_add2 (n a b : Int) : wrap64 (wrap64 (n + a) + b) = wrap64 (wrap64 (n + b) + a) := by
  unfold wrap64
  simp only [IntKind.wrap_i64]
  omega
theorem wrap64_swap (a b : Int) : wrap64 (a + b) = wrap64 (b + a) := by rw [Int.add_comm]
/-- The order of registers' words. -/
def ageLt (a b : Int × DotR) : Bool := lexLt intLt DotR.lt a b
theorem ageOrd : Order ageLt := intOrd.lex dotOrd
def RegR.age (r : RegR) : Int × DotR := (r.time, r.dot)
theorem younger_age (o : OpR) (r : RegR) : younger o r = ageLt r.age (regOf o).age := by
  unfold younger ageLt lexLt RegR.age regOf intLt
  congr 1
  congr 1
  exact decide_eq_decide.2 eq_comm
theorem setG_comm (o p : OpR) (hne : o.dot ≠ p.dot) (m : Option RegR) : setG p (some (setG o m)) = setG o (some (setG p m)) := by
  have key : ∀ {a b : RegR}, ageLt a.age b.age = false → ageLt b.age a.age = false → a.age = b.age := fun h1 h2 => ageOrd.tot h1 h2
  have hd : (regOf o).age ≠ (regOf p).age := fun e => hne (congrArg Prod.snd e)
  cases m with
  | none =>
    simp only [setG, younger_age]
    cases q1 : ageLt (regOf o).age (regOf p).age with
    | true => rw [ageOrd.asym q1]; simp
    | false =>
      cases q2 : ageLt (regOf p).age (regOf o).age with
      | true => simp
      | false => exact absurd (ageOrd.tot q1 q2) hd
  | some r =>
    simp only [setG, younger_age]
    cases q3 : ageLt r.age (regOf o).age with
    | true =>
      cases q4 : ageLt r.age (regOf p).age with
      | true =>
        simp only [if_true]
        cases q1 : ageLt (regOf o).age (regOf p).age with
        | true => rw [ageOrd.asym q1]; simp
        | false =>
          cases q2 : ageLt (regOf p).age (regOf o).age with
          | true => simp
          | false => exact absurd (ageOrd.tot q1 q2) hd
      | false =>
        have : ageLt (regOf o).age (regOf p).age = false := by
          cases q : ageLt (regOf o).age (regOf p).age with
          | false => rfl
          | true => rw [ageOrd.tr q3 q] at q4; cases q4
        simp [this, q3]
    | false =>
      cases q4 : ageLt r.age (regOf p).age with
      | true =>
        have : ageLt (regOf p).age (regOf o).age = false := by
          cases q : ageLt (regOf p).age (regOf o).age with
          | false => rfl
          | true => rw [ageOrd.tr q4 q] at q3; cases q3
        simp [this, q4]
      | false => simp [q3, q4]
theorem bindG_comm (o p : OpR) (hne : o.dot ≠ p.dot) (m : Option BindR) : bindG p (some (bindG o m)) = bindG o (some (bindG p m)) := by
  have ho : (bindOf o).dot = o.dot := rfl
  have hp : (bindOf p).dot = p.dot := rfl
  have bb : ∀ x y : DotR, DotR.lt x y = true ∨ DotR.lt x y = false := fun x y => by cases DotR.lt x y <;> simp
  cases m with
  | none =>
    simp only [bindG, ho, hp]
    rcases bb o.dot p.dot with q1 | q1
    · simp [q1, dotOrd.asym q1]
    · rcases bb p.dot o.dot with q2 | q2
      · simp [q1, q2]
      · exact absurd (dotOrd.tot q1 q2) hne
  | some r =>
    simp only [bindG]
    rcases bb o.dot r.dot with q3 | q3
    · rcases bb p.dot r.dot with q4 | q4
      · simp only [q3, q4, if_true, ho, hp]
        rcases bb o.dot p.dot with q1 | q1
        · simp [q1, dotOrd.asym q1]
        · rcases bb p.dot o.dot with q2 | q2
          · simp [q1, q2]
          · exact absurd (dotOrd.tot q1 q2) hne
      · have : DotR.lt p.dot o.dot = false := by
          rcases bb p.dot o.dot with q | q
          · rw [dotOrd.tr q q3] at q4; cases q4
          · exact q
        simp [ho, this, q3, q4]
    · rcases bb p.dot r.dot with q4 | q4
      · have : DotR.lt o.dot p.dot = false := by
          rcases bb o.dot p.dot with q | q
          · rw [dotOrd.tr q q4] at q3; cases q3
          · exact q
        simp [hp, this, q3, q4]
      · simp [q3, q4]
theorem countG_comm (o p : OpR) (he : o.key = p.key) (m : Option SumR) : countG p (some (countG o m)) = countG o (some (countG p m)) := by
  cases m with
  | none => simp only [countG, he, wrap64_swap]
  | some r => simp only [countG, he, wrap64_add2]
/-! ### elements and dots that are gone -/
abbrev idD : DotR → DotR := fun d => d
theorem goneL_lay {g : List DotR} (h : Rise idD DotR.lt g) (d : DotR) : goneL g d = layAt idD DotR.lt d g := by
  unfold goneL
  rw [isAt_look dotOrd h]
  cases q : look idD d g with
  | none => exact (layAt_no (κ := idD) (x := d) dotOrd h q).symm
  | some r =>
    have : r = d := (look_key q).1
    subst this
    exact (layAt_same (κ := idD) dotOrd h q).symm
theorem lessL_rise {l : List ElemR} (h : Rise ElemR.k3 elemLt l) (d : DotR) : Rise ElemR.k3 elemLt (lessL l d) := List.Pairwise.filter _ h
theorem lessL_look (l : List ElemR) (d : DotR) (k : List UInt8 × List UInt8 × DotR) : look ElemR.k3 k (lessL l d) = if k.2.2 = d then none else look ElemR.k3 k l := by
  induction l with
  | nil => simp [lessL, look]
  | cons y l ih =>
    have e : lessL (y :: l) d = if y.dot ≠ d then y :: lessL l d else lessL l d := by
      unfold lessL; rw [List.filter_cons]; simp only [decide_eq_true_eq]
    rw [e, look_cons]
    by_cases hy : y.dot = d
    · rw [if_neg (fun h => h hy), ih]
      by_cases hk : ElemR.k3 y = k
      · rw [if_pos (show k.2.2 = d by rw [← hk]; exact hy), if_pos (show k.2.2 = d by rw [← hk]; exact hy)]
      · rw [if_neg hk]
    · rw [if_pos hy, look_cons, ih]
      by_cases hk : ElemR.k3 y = k
      · rw [if_pos hk, if_pos hk, if_neg (show ¬ k.2.2 = d by rw [← hk]; exact hy)]
      · rw [if_neg hk, if_neg hk]
structure Pr2 (p : List DotR × List ElemR) : Prop where
  g : Rise idD DotR.lt p.1
  e : Rise ElemR.k3 elemLt p.2
theorem remL_spec (ds : List DotR) : ∀ (p : List DotR × List ElemR), Pr2 p → Pr2 (remL ds p) ∧ (∀ d, look idD d (remL ds p).1 = if d ∈ ds then some d else look idD d p.1) ∧ (∀ k, look ElemR.k3 k (remL ds p).2 = if k.2.2 ∈ ds then none else look ElemR.k3 k p.2) := by
  induction ds with
  | nil => intro p h; exact ⟨h, fun d => by simp [remL], fun k => by simp [remL]⟩
  | cons d ds ih =>
    intro p h
    have e := goneL_lay h.g d
    have h2 : Pr2 (goneL p.1 d, lessL p.2 d) := ⟨by rw [e]; exact layAt_rise dotOrd h.g, lessL_rise h.e d⟩
    obtain ⟨i1, i2, i3⟩ := ih _ h2
    refine ⟨i1, fun x => ?_, fun k => ?_⟩
    · show look idD x (remL ds (goneL p.1 d, lessL p.2 d)).1 = _
      rw [i2 x]
      show (if x ∈ ds then some x else look idD x (goneL p.1 d)) = _
      rw [e, layAt_look dotOrd h.g]
      by_cases h1 : x ∈ ds
      · simp [h1]
      · by_cases h2 : x = d
        · simp [h2]
        · simp [h1, h2]
    · show look ElemR.k3 k (remL ds (goneL p.1 d, lessL p.2 d)).2 = _
      rw [i3 k]
      show (if k.2.2 ∈ ds then none else look ElemR.k3 k (lessL p.2 d)) = _
      rw [lessL_look]
      by_cases h1 : k.2.2 ∈ ds
      · simp [h1]
      · by_cases h2 : k.2.2 = d
        · simp [h2]
        · simp [h1, h2]
theorem addL_spec {g : List DotR} {l : List ElemR} (h : Pr2 (g, l)) (o : OpR) (hn : look ElemR.k3 (elemOf o).k3 l = none) :
    Pr2 (g, addL g l o) ∧ ∀ k, look ElemR.k3 k (addL g l o) = if k = (elemOf o).k3 ∧ look idD o.dot g = none then some (elemOf o) else look ElemR.k3 k l := by
  unfold addL
  rw [isAt_look (κ := idD) dotOrd h.g]
  cases q : look idD o.dot g with
  | some x =>
    simp only [Option.isSome_some, if_true]
    exact ⟨h, fun k => by simp⟩
  | none =>
    simp only [Option.isSome_none, Bool.false_eq_true, if_false]
    exact ⟨⟨h.g, h.e.putAt elemOrd hn⟩, fun k => by rw [look_putAt elemOrd (h.e.inOrd elemOrd)]; simp⟩
/-- What an operation does to elements and gone dots. -/
def setE (o : OpR) (p : List DotR × List ElemR) : List DotR × List ElemR :=
  if o.kind = 2 then (p.1, addL p.1 p.2 o) else if o.kind = 3 then remL o.dots p else p
def isNew (o : OpR) (p : List DotR × List ElemR) : Prop := look ElemR.k3 (elemOf o).k3 p.2 = none
theorem setE_spec (o : OpR) (p : List DotR × List ElemR) (h : Pr2 p) (hn : isNew o p) :
    Pr2 (setE o p) ∧ (∀ d, look idD d (setE o p).1 = if o.kind = 3 ∧ d ∈ o.dots then some d else look idD d p.1) ∧
    (∀ k, look ElemR.k3 k (setE o p).2 = if o.kind = 2 ∧ k = (elemOf o).k3 ∧ look idD o.dot p.1 = none then some (elemOf o) else if o.kind = 3 ∧ k.2.2 ∈ o.dots then none else look ElemR.k3 k p.2) := by
  unfold setE
  by_cases h2 : o.kind = 2
  · have h3 : ¬ o.kind = 3 := by omega
    obtain ⟨s1, s2⟩ := addL_spec h o hn
    rw [if_pos h2]
    refine ⟨s1, fun d => by simp [h3], fun k => ?_⟩
    show look ElemR.k3 k (addL p.1 p.2 o) = _
    rw [s2]
    simp [h2]
  · by_cases h3 : o.kind = 3
    · obtain ⟨s1, s2, s3⟩ := remL_spec o.dots p h
      rw [if_neg h2, if_pos h3]
      exact ⟨s1, fun d => by rw [s2]; simp [h3], fun k => by rw [s3]; simp [h3]⟩
    · rw [if_neg h2, if_neg h3]
      exact ⟨h, fun d => by simp [h3], fun k => by simp [h2, h3]⟩
theorem setE_new {o q : OpR} {p : List DotR × List ElemR} (h : Pr2 p) (ho : isNew o p) (hq : isNew q p) (hne : o.dot ≠ q.dot) : isNew q (setE o p) := by
  unfold isNew at *
  rw [(setE_spec o p h ho).2.2, hq]
  have : ¬ (elemOf q).k3 = (elemOf o).k3 := fun e => hne (congrArg (fun k => k.2.2) e).symm
  simp [this]
theorem ite2 {A B : Prop} [Decidable A] [Decidable B] {α : Type} (a c : α) : (if B then a else if A then a else c) = if A then a else if B then a else c := by
  by_cases hA : A <;> by_cases hB : B <;> simp only [hA, hB, if_true, if_false]
theorem setE_comm {o q : OpR} {p : List DotR × List ElemR} (h : Pr2 p) (ho : isNew o p) (hq : isNew q p) (hne : o.dot ≠ q.dot) : setE q (setE o p) = setE o (setE q p) := by
  obtain ⟨a1, a2, a3⟩ := setE_spec o p h ho
  obtain ⟨b1, b2, b3⟩ := setE_spec q p h hq
  obtain ⟨c1, c2, c3⟩ := setE_spec q _ a1 (setE_new h ho hq hne)
  obtain ⟨d1, d2, d3⟩ := setE_spec o _ b1 (setE_new h hq ho (Ne.symm hne))
  refine Prod.ext (c1.g.ext dotOrd d1.g fun d => ?_) (c1.e.ext elemOrd d1.e fun k => ?_)
  · rw [c2, d2, a2, b2]
    exact ite2 _ _
  · rw [c3, d3, a3, b3, a2, b2]
    have ek : ∀ x : OpR, ∀ k, k = (elemOf x).k3 → k.2.2 = x.dot := fun x k e => by rw [e]; rfl
    by_cases k1 : k = (elemOf o).k3
    · have kd := ek o k k1
      have k2 : ¬ k = (elemOf q).k3 := fun e => hne (kd.symm.trans (ek q k e))
      simp only [k2, false_and, and_false, if_false]
      rw [kd]
      by_cases h3 : q.kind = 3 ∧ o.dot ∈ q.dots
      · simp only [if_pos h3, reduceCtorEq, and_false, if_false, ite_self]
      · simp only [if_neg h3]
    · simp only [k1, false_and, and_false, if_false]
      by_cases k2 : k = (elemOf q).k3
      · have kd := ek q k k2
        rw [kd]
        by_cases h3 : o.kind = 3 ∧ q.dot ∈ o.dots
        · simp only [if_pos h3, reduceCtorEq, and_false, if_false, ite_self]
        · simp only [if_neg h3]
      · simp only [k2, false_and, and_false, if_false]
        exact ite2 _ _
end Go.Esc
