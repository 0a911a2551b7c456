/- Operations of unlike devices laid in any order make the same collection, plainly: whole collections, rows of operations. -/
import Derived.Test.YtejmmkjpncpedaaGreatCoP
namespace Go.Esc
open Go.RowKit
structure CollR.fine (C : CollR) : Prop where
  v : Rise DotR.pair pairLt C.v
  r : Rise RegR.key Op.bytesLess C.regs
  e : Rise ElemR.k3 elemLt C.elems
  g : Rise idD DotR.lt C.gone
  s : Rise SumR.key Op.bytesLess C.sums
  b : Rise BindR.id intLt C.binds
  saw : ∀ x ∈ C.elems, x.dot.seq ≤ seen C.v x.dot.dev x.dot.ep
theorem CollR.fine.ok {C : CollR} (h : C.fine) : C.ok := ⟨h.v.inOrd pairOrd, h.r.inOrd bytesOrd, h.e.inOrd elemOrd, h.g.inOrd dotOrd, h.s.inOrd bytesOrd, h.b.inOrd intOrd⟩
theorem CollR.fine_nil : CollR.nil.fine := ⟨List.Pairwise.nil, List.Pairwise.nil, List.Pairwise.nil, List.Pairwise.nil, List.Pairwise.nil, List.Pairwise.nil, fun x h => by cases h⟩
def CollR.ge (C : CollR) : List DotR × List ElemR := (C.gone, C.elems)
theorem layC_v (C : CollR) (o : OpR) : (layC C o).v = C.v := by unfold layC; split <;> (try rfl); split <;> (try rfl); split <;> (try rfl); split <;> (try rfl); split <;> rfl
theorem layC_regs (C : CollR) (o : OpR) : (layC C o).regs = if o.kind = 1 then setL C.regs o else C.regs := by unfold layC; split <;> (try rfl); split <;> (try rfl); split <;> (try rfl); split <;> (try rfl); split <;> rfl
theorem layC_sums (C : CollR) (o : OpR) : (layC C o).sums = if o.kind = 4 then countL C.sums o else C.sums := by
  unfold layC
  by_cases h1 : o.kind = 1
  · rw [if_pos h1, if_neg (by omega)]
  · by_cases h2 : o.kind = 2
    · rw [if_neg h1, if_pos h2, if_neg (by omega)]
    · by_cases h3 : o.kind = 3
      · rw [if_neg h1, if_neg h2, if_pos h3, if_neg (by omega)]
      · by_cases h4 : o.kind = 4
        · rw [if_neg h1, if_neg h2, if_neg h3, if_pos h4, if_pos h4]
        · rw [if_neg h1, if_neg h2, if_neg h3, if_neg h4, if_neg h4]; split <;> rfl
theorem layC_binds (C : CollR) (o : OpR) : (layC C o).binds = if o.kind = 5 then bindL C.binds o else C.binds := by
  unfold layC
  by_cases h1 : o.kind = 1
  · rw [if_pos h1, if_neg (by omega)]
  · by_cases h2 : o.kind = 2
    · rw [if_neg h1, if_pos h2, if_neg (by omega)]
    · by_cases h3 : o.kind = 3
      · rw [if_neg h1, if_neg h2, if_pos h3, if_neg (by omega)]
      · by_cases h4 : o.kind = 4
        · rw [if_neg h1, if_neg h2, if_neg h3, if_pos h4, if_neg (by omega)]
        · rw [if_neg h1, if_neg h2, if_neg h3, if_neg h4]; split <;> rfl
theorem layC_ge (C : CollR) (o : OpR) : (layC C o).ge = setE o C.ge := by
  unfold layC setE CollR.ge
  by_cases h1 : o.kind = 1
  · rw [if_pos h1, if_neg (by omega), if_neg (by omega)]
  · by_cases h2 : o.kind = 2
    · rw [if_neg h1, if_pos h2, if_pos h2]
    · by_cases h3 : o.kind = 3
      · rw [if_neg h1, if_neg h2, if_pos h3, if_neg h2, if_pos h3]
      · rw [if_neg h1, if_neg h2, if_neg h3, if_neg h2, if_neg h3]
        split
        · rfl
        · split <;> rfl
theorem CollR.same {C D : CollR} (h1 : C.v = D.v) (h2 : C.regs = D.regs) (h3 : C.ge = D.ge) (h4 : C.sums = D.sums) (h5 : C.binds = D.binds) : C = D := by
  cases C; cases D
  simp only [CollR.ge, Prod.mk.injEq] at h3
  simp_all
theorem seen_step {v : List DotR} (h : Rise DotR.pair pairLt v) (d : DotR) (hs : 0 ≤ d.seq) (a b : Int) : seen (stepV v d) a b = if (a, b) = d.pair then max (seen v a b) d.seq else seen v a b := by
  rw [stepV_lay h]
  unfold seen layG
  rw [layAt_look pairOrd h, stepG_key d _ (fun x hx => (look_key hx).1)]
  by_cases e : (a, b) = d.pair
  · rw [if_pos e, if_pos e, ← e]
    cases q : look DotR.pair (a, b) v with
    | none => simp only [stepG]; omega
    | some x => simp only [stepG]
  · rw [if_neg e, if_neg e]
theorem stepErr_zero {v : List DotR} {d : DotR} : stepErr v d = 0 ↔ (0 ≤ d.dev ∧ 0 ≤ d.ep ∧ 1 ≤ d.seq) ∧ seen v d.dev d.ep < d.seq := by
  unfold stepErr
  constructor
  · intro h
    split at h
    · cases h
    · split at h
      · cases h
      · omega
  · intro h
    rw [if_neg (by omega), if_neg (by omega)]
theorem applyErr_zero {C : CollR} {o : OpR} : applyErr C o = 0 ↔ checkOp o = 0 ∧ stepErr C.v o.dot = 0 := by
  unfold applyErr
  by_cases h : checkOp o = 0
  · rw [if_neg (fun e => e h)]; simp [h]
  · rw [if_pos h]; simp [h]
theorem applyC_zero {C : CollR} {o : OpR} (h : applyErr C o = 0) : applyC C o = layC { C with v := stepV C.v o.dot } o := by unfold applyC; rw [if_neg (fun e => e h)]
theorem CollR.fine.isNew {C : CollR} (h : C.fine) {o : OpR} (he : applyErr C o = 0) : isNew o C.ge := by
  unfold Esc.isNew
  cases q : look ElemR.k3 (elemOf o).k3 C.ge.2 with
  | none => rfl
  | some x =>
    obtain ⟨h1, h2⟩ := look_key q
    have hd : x.dot = o.dot := congrArg (fun k => k.2.2) h1
    have := h.saw x h2
    have h3 := (stepErr_zero.1 (applyErr_zero.1 he).2).2
    rw [hd] at this
    omega
/-- The parts of what comes out. -/
theorem applyC_v {C : CollR} {o : OpR} (h : applyErr C o = 0) : (applyC C o).v = stepV C.v o.dot := by rw [applyC_zero h, layC_v]
theorem applyC_regs {C : CollR} {o : OpR} (h : applyErr C o = 0) : (applyC C o).regs = if o.kind = 1 then setL C.regs o else C.regs := by rw [applyC_zero h, layC_regs]
theorem applyC_sums {C : CollR} {o : OpR} (h : applyErr C o = 0) : (applyC C o).sums = if o.kind = 4 then countL C.sums o else C.sums := by rw [applyC_zero h, layC_sums]
theorem applyC_binds {C : CollR} {o : OpR} (h : applyErr C o = 0) : (applyC C o).binds = if o.kind = 5 then bindL C.binds o else C.binds := by rw [applyC_zero h, layC_binds]
theorem applyC_ge {C : CollR} {o : OpR} (h : applyErr C o = 0) : (applyC C o).ge = setE o C.ge := by rw [applyC_zero h, layC_ge]; rfl
theorem CollR.fine.pr2 {C : CollR} (h : C.fine) : Pr2 C.ge := ⟨h.g, h.e⟩
theorem CollR.fine.apply {C : CollR} (h : C.fine) (o : OpR) : (applyC C o).fine := by
  by_cases he : applyErr C o = 0
  · obtain ⟨s1, s2, s3⟩ := setE_spec o C.ge h.pr2 (h.isNew he)
    have hst := stepErr_zero.1 (applyErr_zero.1 he).2
    have hge := applyC_ge he
    have hg : (applyC C o).gone = (setE o C.ge).1 := by rw [← hge]; rfl
    have hel : (applyC C o).elems = (setE o C.ge).2 := by rw [← hge]; rfl
    refine ⟨?_, ?_, ?_, ?_, ?_, ?_, ?_⟩
    · rw [applyC_v he, stepV_lay h.v]; exact layG_rise pairOrd h.v
    · rw [applyC_regs he]; split
      · rw [setL_lay h.r]; exact layG_rise bytesOrd h.r
      · exact h.r
    · rw [hel]; exact s1.e
    · rw [hg]; exact s1.g
    · rw [applyC_sums he]; split
      · rw [countL_lay h.s]; exact layG_rise bytesOrd h.s
      · exact h.s
    · rw [applyC_binds he]; split
      · rw [bindL_lay h.b]; exact layG_rise intOrd h.b
      · exact h.b
    · intro x hx
      rw [hel] at hx
      have hl := look_mem elemOrd s1.e hx
      rw [s3] at hl
      rw [applyC_v he, seen_step h.v _ (by omega)]
      split at hl
      · cases hl
        have e : ((elemOf o).dot.dev, (elemOf o).dot.ep) = o.dot.pair := rfl
        have e2 : (elemOf o).dot.seq = o.dot.seq := rfl
        rw [if_pos e]
        omega
      · split at hl
        · cases hl
        · have := h.saw x (look_key hl).2
          split <;> omega
  · have : applyC C o = C := by unfold applyC; rw [if_pos he]
    rw [this]; exact h
theorem apply_two {C : CollR} (h : C.fine) {o p : OpR} (hne : o.dot.dev ≠ p.dot.dev) (ho : applyErr C o = 0) : applyErr (applyC C o) p = 0 ↔ applyErr C p = 0 := by
  have hst := stepErr_zero.1 (applyErr_zero.1 ho).2
  rw [applyErr_zero, applyErr_zero, stepErr_zero, stepErr_zero, applyC_v ho, seen_step h.v _ (by omega), if_neg (fun e => hne (congrArg Prod.fst e).symm)]
theorem apply_comm {C : CollR} (h : C.fine) {o p : OpR} (hne : o.dot.dev ≠ p.dot.dev) (ho : applyErr C o = 0) (hp : applyErr C p = 0) : applyC (applyC C o) p = applyC (applyC C p) o := by
  have hd : o.dot ≠ p.dot := fun e => hne (congrArg DotR.dev e)
  have hop := (apply_two h hne ho).2 hp
  have hpo := (apply_two h (Ne.symm hne) hp).2 ho
  have fo := h.apply o
  have fp := h.apply p
  refine CollR.same ?_ ?_ ?_ ?_ ?_
  · rw [applyC_v hop, applyC_v hpo, stepV_lay fo.v, stepV_lay fp.v, applyC_v ho, applyC_v hp, stepV_lay h.v, stepV_lay h.v]
    exact layG_comm pairOrd stepG_key h.v (fun e => absurd (congrArg Prod.fst e) hne)
  · rw [applyC_regs hop, applyC_regs hpo, applyC_regs ho, applyC_regs hp]
    by_cases h1 : o.kind = 1
    · by_cases h2 : p.kind = 1
      · simp only [if_pos h1, if_pos h2]
        have e1 : Rise RegR.key Op.bytesLess (setL C.regs o) := by rw [setL_lay h.r]; exact layG_rise bytesOrd h.r
        have e2 : Rise RegR.key Op.bytesLess (setL C.regs p) := by rw [setL_lay h.r]; exact layG_rise bytesOrd h.r
        rw [setL_lay e1, setL_lay e2, setL_lay h.r, setL_lay h.r]
        exact layG_comm bytesOrd setG_key h.r (fun e => by rw [e]; exact setG_comm o p hd _)
      · simp only [if_pos h1, if_neg h2]
    · simp only [if_neg h1]
  · rw [applyC_ge hop, applyC_ge hpo, applyC_ge ho, applyC_ge hp]
    exact setE_comm h.pr2 (h.isNew ho) (h.isNew hp) hd
  · rw [applyC_sums hop, applyC_sums hpo, applyC_sums ho, applyC_sums hp]
    by_cases h1 : o.kind = 4
    · by_cases h2 : p.kind = 4
      · simp only [if_pos h1, if_pos h2]
        have e1 : Rise SumR.key Op.bytesLess (countL C.sums o) := by rw [countL_lay h.s]; exact layG_rise bytesOrd h.s
        have e2 : Rise SumR.key Op.bytesLess (countL C.sums p) := by rw [countL_lay h.s]; exact layG_rise bytesOrd h.s
        rw [countL_lay e1, countL_lay e2, countL_lay h.s, countL_lay h.s]
        exact layG_comm bytesOrd countG_key h.s (fun e => by rw [e]; exact countG_comm o p e _)
      · simp only [if_pos h1, if_neg h2]
    · simp only [if_neg h1]
  · rw [applyC_binds hop, applyC_binds hpo, applyC_binds ho, applyC_binds hp]
    by_cases h1 : o.kind = 5
    · by_cases h2 : p.kind = 5
      · simp only [if_pos h1, if_pos h2]
        have e1 : Rise BindR.id intLt (bindL C.binds o) := by rw [bindL_lay h.b]; exact layG_rise intOrd h.b
        have e2 : Rise BindR.id intLt (bindL C.binds p) := by rw [bindL_lay h.b]; exact layG_rise intOrd h.b
        rw [bindL_lay e1, bindL_lay e2, bindL_lay h.b, bindL_lay h.b]
        exact layG_comm intOrd bindG_key h.b (fun e => by rw [e]; exact bindG_comm o p hd _)
      · simp only [if_pos h1, if_neg h2]
    · simp only [if_neg h1]
/-! ### rows of operations -/
def foldC (C : CollR) (L : List OpR) : CollR := L.foldl applyC C
def Runs : CollR → List OpR → Prop
  | _, [] => True
  | C, o :: L => applyErr C o = 0 ∧ Runs (applyC C o) L
theorem foldC_fine {C : CollR} (h : C.fine) (L : List OpR) : (foldC C L).fine := by
  induction L generalizing C with
  | nil => exact h
  | cons o L ih => exact ih (h.apply o)
theorem runs_append {C : CollR} {L M : List OpR} : Runs C (L ++ M) ↔ Runs C L ∧ Runs (foldC C L) M := by
  induction L generalizing C with
  | nil => simp [Runs, foldC]
  | cons o L ih =>
    show applyErr C o = 0 ∧ Runs (applyC C o) (L ++ M) ↔ (applyErr C o = 0 ∧ Runs (applyC C o) L) ∧ Runs (foldC (applyC C o) L) M
    rw [ih, and_assoc]
theorem foldC_append (C : CollR) (L M : List OpR) : foldC C (L ++ M) = foldC (foldC C L) M := List.foldl_append
/-- One device's. -/
def ofDev (d : Int) (L : List OpR) : List OpR := L.filter (fun o => decide (o.dot.dev = d))
theorem ofDev_cons (d : Int) (o : OpR) (L : List OpR) : ofDev d (o :: L) = if o.dot.dev = d then o :: ofDev d L else ofDev d L := by
  unfold ofDev; rw [List.filter_cons]; simp only [decide_eq_true_eq]
theorem ofDev_append (d : Int) (L M : List OpR) : ofDev d (L ++ M) = ofDev d L ++ ofDev d M := List.filter_append ..
theorem ofDev_none {d : Int} {L : List OpR} (h : ∀ o ∈ L, o.dot.dev ≠ d) : ofDev d L = [] := by
  unfold ofDev
  rw [List.filter_eq_nil_iff]
  intro o ho
  simpa using h o ho
theorem runs_front {C : CollR} (h : C.fine) (x : OpR) : ∀ (L : List OpR) (M : List OpR), (∀ o ∈ L, o.dot.dev ≠ x.dot.dev) → Runs C (x :: (L ++ M)) → Runs C (L ++ x :: M) ∧ foldC C (L ++ x :: M) = foldC C (x :: (L ++ M)) := by
  intro L
  induction L generalizing C with
  | nil => intro M _ hr; exact ⟨hr, rfl⟩
  | cons y L ih =>
    intro M hl hr
    obtain ⟨hx, hy, hr⟩ := hr
    have hne : x.dot.dev ≠ y.dot.dev := Ne.symm (hl y (by simp))
    have hy0 := (apply_two h hne hx).1 hy
    have hx0 := (apply_two h (Ne.symm hne) hy0).2 hx
    have hc := apply_comm h hne hx hy0
    obtain ⟨i1, i2⟩ := ih (C := applyC C y) (h.apply y) M (fun o ho => hl o (by simp [ho])) ⟨hx0, by rw [← hc]; exact hr⟩
    refine ⟨⟨hy0, i1⟩, ?_⟩
    show foldC (applyC C y) (L ++ x :: M) = foldC (applyC (applyC C x) y) (L ++ M)
    rw [i2, hc]
    rfl
theorem first_of {d : Int} : ∀ {L : List OpR} {x : OpR} {R : List OpR}, ofDev d L = x :: R → ∃ L1 L2, L = L1 ++ x :: L2 ∧ (∀ o ∈ L1, o.dot.dev ≠ d) ∧ x.dot.dev = d ∧ ofDev d L2 = R
  | [], x, R, h => by cases h
  | y :: L, x, R, h => by
    rw [ofDev_cons] at h
    by_cases hy : y.dot.dev = d
    · rw [if_pos hy] at h
      cases h
      exact ⟨[], L, rfl, by simp, hy, rfl⟩
    · rw [if_neg hy] at h
      obtain ⟨L1, L2, e, h1, h2, h3⟩ := first_of h
      exact ⟨y :: L1, L2, by rw [e]; rfl, fun o ho => by
        rcases List.mem_cons.1 ho with rfl | ho
        · exact hy
        · exact h1 o ho, h2, h3⟩
/-- Whatever the order, as long as each device's own stands. -/
theorem orders : ∀ (G : List OpR) (C : CollR) (L : List OpR), C.fine → Runs C G → (∀ d, ofDev d L = ofDev d G) → Runs C L ∧ foldC C L = foldC C G
  | [], C, L, _, _, hd => by
    cases L with
    | nil => exact ⟨trivial, rfl⟩
    | cons y L => have := hd y.dot.dev; rw [ofDev_cons, if_pos rfl] at this; cases this
  | x :: G, C, L, h, hr, hd => by
    have h0 := hd x.dot.dev
    rw [ofDev_cons, if_pos rfl] at h0
    obtain ⟨L1, L2, rfl, h1, h2, h3⟩ := first_of h0
    have hsub : ∀ d, ofDev d (L1 ++ L2) = ofDev d G := fun d => by
      have := hd d
      rw [ofDev_append, ofDev_cons, ofDev_cons] at this
      rw [ofDev_append]
      by_cases e : x.dot.dev = d
      · subst e
        rw [if_pos rfl, if_pos rfl, ofDev_none h1, List.nil_append] at this
        rw [ofDev_none h1, List.nil_append]
        exact (List.cons.inj this).2
      · rw [if_neg e, if_neg e] at this; exact this
    obtain ⟨i1, i2⟩ := orders G (applyC C x) (L1 ++ L2) (h.apply x) hr.2 hsub
    obtain ⟨j1, j2⟩ := runs_front h x L1 L2 h1 ⟨hr.1, i1⟩
    exact ⟨j1, by rw [j2]; exact i2⟩
end Go.Esc
