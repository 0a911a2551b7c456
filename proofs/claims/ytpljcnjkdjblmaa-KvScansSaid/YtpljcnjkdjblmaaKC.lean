/- The texts Region RegionB RegionF RegionG Rg Rh in one. -/
import Derived.Test.YtpljcnjkdjblmaaKA
import Derived.OrdersHeld
import Derived.OrdersIn
import Derived.RangeFuncLeaves
import Derived.RangeFuncSeq
import Derived.RangeFuncBound
import Derived.OwnWalkIn
import Derived.TacticsInMore
import Derived.BigFrameIn
/- A statement whose order Go leaves open, walked in one order: what a step learns may be used by all later ones. Of no program. -/
namespace Go.Esc
open Go.RowKit

/-- All orders that a region's edges allow. -/
def allLin (md : Region.Mode) (ops : Array Oper) : Nat → Array Bool → List (List Nat)
  | 0, _ => [[]]
  | n + 1, listed => match Region.ready md ops listed with
    | [] => [[]]
    | i :: rs => (i :: rs).flatMap fun i => (allLin md ops n (listed.setIfInBounds i true)).map (i :: ·)

theorem mem_allLin (md : Region.Mode) (ops : Array Oper) : ∀ (fuel t : Nat) (listed : Array Bool), Region.linearise.go md ops fuel t listed [] ∈ allLin md ops fuel listed := by
  intro fuel
  induction fuel with
  | zero => intro t listed; simp [Region.linearise.go, allLin]
  | succ fuel ih =>
    intro t listed
    simp only [Region.linearise.go, allLin]
    change (match (Region.ready md ops listed)[t % (Region.ready md ops listed).length]? with
      | some i => Region.linearise.go md ops fuel (t / (Region.ready md ops listed).length) (listed.setIfInBounds i true) [i]
      | none => [].reverse) ∈ _
    cases hr : Region.ready md ops listed with
    | nil => simp
    | cons x xs =>
      have hlt : t % (x :: xs).length < (x :: xs).length := Nat.mod_lt _ (by simp)
      rw [List.getElem?_eq_getElem hlt]
      simp only
      rw [linearise_go_acc, List.reverse_singleton, List.singleton_append]
      exact List.mem_flatMap.2 ⟨_, List.getElem_mem hlt, List.mem_map.2 ⟨_, ih _ _, rfl⟩⟩

section
variable {P : Program} {ops : Array Oper} {Q : Exit → Act → World → Prop} {md : Region.Mode}

/-- Does number i stand, by whatever road, ahead of number j? -/
def anc (md : Region.Mode) (ops : Array Oper) : Nat → Nat → Nat → Bool
  | 0, _, _ => false
  | n + 1, i, j => ((ops[j]?).map fun o => o.after.any fun e => Region.binds md e && (e.on == i || anc md ops n i e.on)).getD false
/-- All of dep that have come up stand ahead of number j. -/
def barrier (dep : List Nat) (md : Region.Mode) (ops : Array Oper) (listed : Array Bool) (j : Nat) : Bool := dep.all fun k => !listed.getD k true || anc md ops ops.size k j
/-- What has come up has all come up that it waits for. -/
def Closed (md : Region.Mode) (ops : Array Oper) (listed : Array Bool) : Prop := ∀ k o, ops[k]? = some o → listed.getD k true = true → ∀ e ∈ o.after, Region.binds md e = true → listed.getD e.on false = true
def closedB (md : Region.Mode) (ops : Array Oper) (listed : Array Bool) : Bool := (List.range ops.size).all fun k => !listed.getD k true || ((ops[k]?).map fun o => o.after.all fun e => !Region.binds md e || listed.getD e.on false).getD true
theorem closed_of {listed : Array Bool} (h : closedB md ops listed = true) : Closed md ops listed := by
  intro k o ho hk e he hb
  have hlt : k < ops.size := by
    rcases Nat.lt_or_ge k ops.size with h | h
    · exact h
    · rw [Array.getElem?_eq_none h] at ho; cases ho
  simp only [closedB, List.all_eq_true, List.mem_range] at h
  have := h k hlt
  rw [hk, ho] at this
  simp only [Bool.not_true, Bool.false_or, Option.map_some, Option.getD_some, Array.all_eq_true_iff_forall_mem, Bool.or_eq_true, Bool.not_eq_true'] at this
  rcases this e he with h | h
  · rw [hb] at h; cases h
  · exact h

theorem anc_listed {listed : Array Bool} (hc : Closed md ops listed) {i : Nat} : ∀ (n j : Nat) (o : Oper), ops[j]? = some o → (∀ e ∈ o.after, Region.binds md e = true → listed.getD e.on false = true) → anc md ops n i j = true → listed.getD i false = true
  | 0, _, _, _, _, h => by cases h
  | n + 1, j, o, ho, hall, h => by
    rw [anc, ho] at h
    simp only [Option.map_some, Option.getD_some, Array.any_eq_true', Bool.and_eq_true, Bool.or_eq_true, beq_iff_eq] at h
    obtain ⟨e, he, hb, h⟩ := h
    rcases h with h | h
    · exact h ▸ hall e he hb
    · cases ho2 : ops[e.on]? with
      | none => cases n <;> simp [anc, ho2] at h
      | some o2 =>
        have hl := hall e he hb
        have hl2 : listed.getD e.on true = true := by
          rcases Nat.lt_or_ge e.on listed.size with h' | h'
          · simp [h'] at hl ⊢; exact hl
          · simp [Array.getElem?_eq_none h'] at hl
        exact anc_listed hc n e.on o2 ho2 (hc e.on o2 ho2 hl2) h

/-- Whatever order is picked from here on; S holds of every world behind a step; behind a step S may be taken narrower; where all of dep that have come up stand ahead of the step: anew. -/
def wpE (dep : List Nat) (P : Program) (md : Region.Mode) (ops : Array Oper) (Q : Exit → Act → World → Prop) : Nat → (World → Prop) → Array Bool → Act → World → Prop
  | 0, _, listed, a, w => Region.ready md ops listed = [] ∧ Q .normal a w
  | fuel + 1, S, listed, a, w =>
    (Region.ready md ops listed = [] → Q .normal a w) ∧
    ∀ i ∈ Region.ready md ops listed, wpOp P ops Q i (fun a' w' => ∃ S' : World → Prop, (barrier dep md ops listed i = true ∨ ∀ x, S' x → S x) ∧ S' w' ∧ wpE dep P md ops Q fuel S' (listed.setIfInBounds i true) a' w') a w

variable {dep : List Nat}

theorem wpAny_of_E : ∀ (fuel : Nat) (S : World → Prop) (listed : Array Bool) (a : Act) (w : World), wpE dep P md ops Q fuel S listed a w → wpAny P md ops Q fuel listed a w
  | 0, _, _, _, _, h => h
  | fuel + 1, _, _, _, _, h => ⟨h.1, fun i hi => wpOp_mono (fun a' w' h' => by obtain ⟨S', _, _, h''⟩ := h'; exact wpAny_of_E fuel S' _ a' w' h'') (h.2 i hi)⟩

theorem narrow_yields {S S' : World → Prop} {o : Oper} {v : Value} {a : Act} (h : YieldsIf P ops S o v a) (hs : ∀ x, S' x → S x) : YieldsIf P ops S' o v a :=
  h.imp (fun ⟨h1, h2⟩ => ⟨h1, fun w hw => h2 w (hs w hw)⟩) id

theorem Closed.set {listed : Array Bool} (hc : Closed md ops listed) {j : Nat} (hj : j ∈ Region.ready md ops listed) : Closed md ops (listed.setIfInBounds j true) := by
  have up : ∀ k, listed.getD k false = true → (listed.setIfInBounds j true).getD k false = true := by
    intro k hk
    by_cases h : j = k
    · subst h
      rcases Nat.lt_or_ge j listed.size with h' | h'
      · simp [h']
      · simp [Array.getElem?_eq_none h'] at hk
    · rw [getD_set_ne false h]; exact hk
  intro k o ho hk e he hb
  by_cases h : j = k
  · subst h
    obtain ⟨_, oj, hoj, hall⟩ := mem_ready.1 hj
    rw [hoj] at ho
    cases ho
    exact up _ (hall e he hb)
  · rw [getD_set_ne true h] at hk
    exact up _ (hc k o ho hk e he hb)

theorem barrier_less {listed : Array Bool} {i j : Nat} (h : barrier dep md ops (listed.setIfInBounds i true) j = true) : barrier dep md ops listed j = true := by
  simp only [barrier, List.all_eq_true, Bool.or_eq_true, Bool.not_eq_true'] at h ⊢
  intro k hk
  rcases h k hk with h | h
  · by_cases hik : i = k
    · subst hik
      rcases Nat.lt_or_ge i listed.size with h' | h'
      · simp [h'] at h
      · simp at h
    · rw [getD_set_ne true hik] at h; exact .inl h
  · exact .inr h

/-- One that yields whatever the world. -/
theorem wpE_first0 {i : Nat} {oi : Oper} {v : Value} (hi : ops[i]? = some oi) (hsel : ∀ (j : Nat) (o : Oper) cs b, ops[j]? = some o → o.op ≠ .select cs b)
    (hQ : ∀ c a w, Q (.panic c) (a.put oi.dst v) w → Q (.panic c) a w) :
    ∀ (fuel : Nat) (S : World → Prop) (listed : Array Bool) (a : Act) (w : World),
      (∀ j oj, ops[j]? = some oj → j ≠ i → listed.getD j true = false → (∀ e ∈ oj.after, Region.binds md e = true → e.on ≠ i) → oi.apart ops oj = true) →
      i ∈ Region.ready md ops listed → YieldsIf P ops (fun _ => True) oi v a → S w →
      wpE dep P md ops Q fuel S (listed.setIfInBounds i true) (a.put oi.dst v) w → wpE dep P md ops Q (fuel + 1) S listed a w := by
  intro fuel
  induction fuel with
  | zero =>
    intro S listed a w _ hr hy hS H
    refine ⟨fun h => (by rw [h] at hr; cases hr), fun j hj => ?_⟩
    by_cases hji : j = i
    · subst hji; exact hy.wpOp hi trivial ⟨S, .inr fun _ h => h, hS, H⟩
    · have := ready_mono hj hji
      rw [H.1] at this
      cases this
  | succ fuel ih =>
    intro S listed a w hfree hr hy hS H
    refine ⟨fun h => (by rw [h] at hr; cases hr), fun j hj => ?_⟩
    by_cases hji : j = i
    · subst hji; exact hy.wpOp hi trivial ⟨S, .inr fun _ h => h, hS, H⟩
    · have h1 := H.2 j (ready_mono hj hji)
      obtain ⟨hjun, oj, hoj, hall⟩ := mem_ready.1 hj
      have hnot : ∀ e ∈ oj.after, Region.binds md e = true → e.on ≠ i := fun e he hb heq => by
        have h1 := hall e he hb
        have h0 := (mem_ready.1 hr).1
        rw [heq] at h1
        rcases Nat.lt_or_ge i listed.size with h' | h'
        · simp [h'] at h0 h1; rw [h0] at h1; cases h1
        · simp [Array.getElem?_eq_none h'] at h1
      have h2 := wpOp_putIf hoj (hfree j oj hoj hji hjun hnot) (fun cs b => hsel i oi cs b hi) (fun cs b => hsel j oj cs b hoj) hQ hy h1
      have hfree' : ∀ k ok, ops[k]? = some ok → k ≠ i → (listed.setIfInBounds j true).getD k true = false →
          (∀ e ∈ ok.after, Region.binds md e = true → e.on ≠ i) → oi.apart ops ok = true := fun k ok hk hki hun hno => by
        refine hfree k ok hk hki ?_ hno
        by_cases hjk : j = k
        · subst hjk; exact hjun
        · rw [getD_set_ne true hjk] at hun; exact hun
      refine wpOp_mono (fun a' w' h3 => ?_) h2
      obtain ⟨hy3, S', hs, hS', h4⟩ := h3
      refine ⟨S', hs.imp barrier_less id, hS', ih S' (listed.setIfInBounds j true) a' w' hfree' (ready_mono hr (Ne.symm hji)) hy3 hS' ?_⟩
      rw [Array.setIfInBounds_comm _ _ hji]
      exact h4

/-- One that yields in every world that meets S. -/
theorem wpE_first {i : Nat} {oi : Oper} {v : Value} (hi : ops[i]? = some oi) (hdep : i ∈ dep) (hsel : ∀ (j : Nat) (o : Oper) cs b, ops[j]? = some o → o.op ≠ .select cs b)
    (hQ : ∀ c a w, Q (.panic c) (a.put oi.dst v) w → Q (.panic c) a w) :
    ∀ (fuel : Nat) (S : World → Prop) (listed : Array Bool) (a : Act) (w : World), Closed md ops listed →
      (∀ j oj, ops[j]? = some oj → j ≠ i → listed.getD j true = false → (∀ e ∈ oj.after, Region.binds md e = true → e.on ≠ i) → oi.apart ops oj = true) →
      i ∈ Region.ready md ops listed → YieldsIf P ops S oi v a → S w →
      wpE dep P md ops Q fuel S (listed.setIfInBounds i true) (a.put oi.dst v) w → wpE dep P md ops Q (fuel + 1) S listed a w := by
  intro fuel
  induction fuel with
  | zero =>
    intro S listed a w _ _ hr hy hS H
    refine ⟨fun h => (by rw [h] at hr; cases hr), fun j hj => ?_⟩
    by_cases hji : j = i
    · subst hji; exact hy.wpOp hi hS ⟨S, .inr fun _ h => h, hS, H⟩
    · have := ready_mono hj hji
      rw [H.1] at this
      cases this
  | succ fuel ih =>
    intro S listed a w hcl hfree hr hy hS H
    refine ⟨fun h => (by rw [h] at hr; cases hr), fun j hj => ?_⟩
    by_cases hji : j = i
    · subst hji; exact hy.wpOp hi hS ⟨S, .inr fun _ h => h, hS, H⟩
    · have h1 := H.2 j (ready_mono hj hji)
      obtain ⟨hjun, oj, hoj, hall⟩ := mem_ready.1 hj
      have hi0 := (mem_ready.1 hr).1
      have hisz : i < listed.size := by
        rcases Nat.lt_or_ge i listed.size with h' | h'
        · exact h'
        · simp [Array.getElem?_eq_none h'] at hi0
      have hif : listed.getD i false = false := by simp [hisz] at hi0 ⊢; exact hi0
      have hnot : ∀ e ∈ oj.after, Region.binds md e = true → e.on ≠ i := fun e he hb heq => by
        have h1 := hall e he hb
        rw [heq, hif] at h1
        cases h1
      have hnb : ¬ barrier dep md ops (listed.setIfInBounds i true) j = true := by
        intro hb
        simp only [barrier, List.all_eq_true, Bool.or_eq_true, Bool.not_eq_true'] at hb
        rcases hb i hdep with h | h
        · simp [hisz] at h
        · have := anc_listed hcl _ j oj hoj hall h
          rw [hif] at this
          cases this
      have h2 := wpOp_putIf hoj (hfree j oj hoj hji hjun hnot) (fun cs b => hsel i oi cs b hi) (fun cs b => hsel j oj cs b hoj) hQ hy h1
      have hfree' : ∀ k ok, ops[k]? = some ok → k ≠ i → (listed.setIfInBounds j true).getD k true = false →
          (∀ e ∈ ok.after, Region.binds md e = true → e.on ≠ i) → oi.apart ops ok = true := fun k ok hk hki hun hno => by
        refine hfree k ok hk hki ?_ hno
        by_cases hjk : j = k
        · subst hjk; exact hjun
        · rw [getD_set_ne true hjk] at hun; exact hun
      refine wpOp_mono (fun a' w' h3 => ?_) h2
      obtain ⟨hy3, S', hs, hS', h4⟩ := h3
      have hs' := hs.resolve_left hnb
      refine ⟨S', .inr hs', hS', ih S' (listed.setIfInBounds j true) a' w' (hcl.set hj) hfree' (ready_mono hr (Ne.symm hji)) (narrow_yields hy3 hs') hS' ?_⟩
      rw [Array.setIfInBounds_comm _ _ hji]
      exact h4

/-- The n-th of a list, by its text. -/
def opAt : List Oper → Nat → Option Oper
  | [], _ => none
  | o :: _, 0 => some o
  | _ :: l, n + 1 => opAt l n
theorem opAt_eq : ∀ (l : List Oper) (n : Nat), l.toArray[n]? = opAt l n
  | [], n => by simp [opAt]
  | o :: l, 0 => by simp [opAt]
  | o :: l, n + 1 => by have := opAt_eq l n; simp [opAt] at this ⊢; exact this

/-- Take number i first: it yields v whatever the world. -/
theorem wpE_take {l : List Oper} {S : World → Prop} (i : Nat) {oi : Oper} {v : Value} {fuel : Nat} {listed : Array Bool} {a : Act} {w : World} (hi : opAt l i = some oi)
    (hs : Region.noSelect l.toArray = true) (hf : Region.free md l.toArray listed i = true) (hr : (Region.ready md l.toArray listed).contains i = true)
    (hQ : ∀ c a w, Q (.panic c) (a.put oi.dst v) w → Q (.panic c) a w) (hS : S w) (hw : Region.wanted oi (yielded l.toArray a.tmps) = true) (hy : ∀ w, (execOp a.eval oi).run P w = .ok (.value v) w)
    (h : wpE dep P md l.toArray Q fuel S (listed.setIfInBounds i true) (a.put oi.dst v) w) : wpE dep P md l.toArray Q (fuel + 1) S listed a w :=
  wpE_first0 (by rw [opAt_eq]; exact hi) (Region.noSelect_spec hs) hQ fuel S listed a w (Region.free_spec (by rw [opAt_eq]; exact hi) hf) (by simpa using hr) (.inl ⟨hw, fun w _ => hy w⟩) hS h

/-- Take number i first: in every world that meets S it yields v. -/
theorem wpE_look {l : List Oper} {S : World → Prop} (i : Nat) {oi : Oper} {v : Value} {fuel : Nat} {listed : Array Bool} {a : Act} {w : World} (hi : opAt l i = some oi) (hd : dep.contains i = true) (hc : closedB md l.toArray listed = true)
    (hs : Region.noSelect l.toArray = true) (hf : Region.free md l.toArray listed i = true) (hr : (Region.ready md l.toArray listed).contains i = true)
    (hQ : ∀ c a w, Q (.panic c) (a.put oi.dst v) w → Q (.panic c) a w) (hS : S w) (hw : Region.wanted oi (yielded l.toArray a.tmps) = true) (hy : ∀ w, S w → (execOp a.eval oi).run P w = .ok (.value v) w)
    (h : wpE dep P md l.toArray Q fuel S (listed.setIfInBounds i true) (a.put oi.dst v) w) : wpE dep P md l.toArray Q (fuel + 1) S listed a w :=
  wpE_first (by rw [opAt_eq]; exact hi) (by simpa using hd) (Region.noSelect_spec hs) hQ fuel S listed a w (closed_of hc) (Region.free_spec (by rw [opAt_eq]; exact hi) hf) (by simpa using hr) (.inl ⟨hw, hy⟩) hS h

/-- Take number i first: its guard says no. -/
theorem wpE_skip {l : List Oper} {S : World → Prop} (i : Nat) {oi : Oper} {fuel : Nat} {listed : Array Bool} {a : Act} {w : World} (hi : opAt l i = some oi)
    (hs : Region.noSelect l.toArray = true) (hf : Region.free md l.toArray listed i = true) (hr : (Region.ready md l.toArray listed).contains i = true)
    (hQ : ∀ c a w, Q (.panic c) (a.put oi.dst undef) w → Q (.panic c) a w) (hS : S w) (hw : Region.wanted oi (yielded l.toArray a.tmps) = false)
    (h : wpE dep P md l.toArray Q fuel S (listed.setIfInBounds i true) (a.put oi.dst undef) w) : wpE dep P md l.toArray Q (fuel + 1) S listed a w :=
  wpE_first0 (by rw [opAt_eq]; exact hi) (Region.noSelect_spec hs) hQ fuel S listed a w (Region.free_spec (by rw [opAt_eq]; exact hi) hf) (by simpa using hr) (.inr ⟨hw, rfl⟩) hS h

/-- Number i alone may come up: carry it out; behind it S may be narrower. -/
theorem wpE_exec {l : List Oper} {S : World → Prop} (i : Nat) {oi : Oper} {fuel : Nat} {listed : Array Bool} {a : Act} {w : World} (hi : opAt l i = some oi) (hr : Region.ready md l.toArray listed = [i])
    (hw : Region.wanted oi (yielded l.toArray a.tmps) = true)
    (h : ∀ K : Act → World → Prop, (∀ a' w' (S' : World → Prop), (barrier dep md l.toArray listed i = true ∨ ∀ x, S' x → S x) → S' w' → wpE dep P md l.toArray Q fuel S' (listed.setIfInBounds i true) a' w' → K a' w') → oi.wp P a w K Q) : wpE dep P md l.toArray Q (fuel + 1) S listed a w := by
  refine ⟨fun h0 => (by rw [h0] at hr; cases hr), fun j hj => ?_⟩
  rw [hr] at hj
  obtain rfl : j = i := by simpa using hj
  unfold wpOp
  simp only [opAt_eq, hi, hw, if_true]
  exact .inl (h _ fun a' w' S' h1 h2 h3 => ⟨S', h1, h2, h3⟩)

/-- Number i or number j may come up. -/
theorem wpE_exec2 {l : List Oper} {S : World → Prop} (i j : Nat) {oi oj : Oper} {fuel : Nat} {listed : Array Bool} {a : Act} {w : World} (hi : opAt l i = some oi) (hj : opAt l j = some oj) (hr : Region.ready md l.toArray listed = [i, j])
    (hwi : Region.wanted oi (yielded l.toArray a.tmps) = true) (hwj : Region.wanted oj (yielded l.toArray a.tmps) = true)
    (h1 : ∀ K : Act → World → Prop, (∀ a' w' (S' : World → Prop), (barrier dep md l.toArray listed i = true ∨ ∀ x, S' x → S x) → S' w' → wpE dep P md l.toArray Q fuel S' (listed.setIfInBounds i true) a' w' → K a' w') → oi.wp P a w K Q)
    (h2 : ∀ K : Act → World → Prop, (∀ a' w' (S' : World → Prop), (barrier dep md l.toArray listed j = true ∨ ∀ x, S' x → S x) → S' w' → wpE dep P md l.toArray Q fuel S' (listed.setIfInBounds j true) a' w' → K a' w') → oj.wp P a w K Q) : wpE dep P md l.toArray Q (fuel + 1) S listed a w := by
  refine ⟨fun h0 => (by rw [h0] at hr; cases hr), fun k hk => ?_⟩
  rw [hr] at hk
  simp only [List.mem_cons, List.not_mem_nil, or_false] at hk
  rcases hk with rfl | rfl
  · unfold wpOp
    simp only [opAt_eq, hi, hwi, if_true]
    exact .inl (h1 _ fun a' w' S' h1 h2 h3 => ⟨S', h1, h2, h3⟩)
  · unfold wpOp
    simp only [opAt_eq, hj, hwj, if_true]
    exact .inl (h2 _ fun a' w' S' h1 h2 h3 => ⟨S', h1, h2, h3⟩)

theorem wpE_done {S : World → Prop} {listed : Array Bool} {a : Act} {w : World} (hr : Region.ready md ops listed = []) (h : Q .normal a w) : ∀ fuel, wpE dep P md ops Q fuel S listed a w
  | 0 => ⟨hr, h⟩
  | _ + 1 => ⟨fun _ => h, by rw [hr]; simp⟩

/-- What 'string(b)' yields. -/
theorem yields_string {src dst e : TypeId} (hs : P.underlying src = some (.slice e)) (he : P.underlying e = some (.int .u8)) (hd : P.underlying dst = some .string) {o : Oper} {a : Act} {x : Operand} (hop : o.op = .convert src dst x)
    {v : Option Addr} {n c : Nat} (hx : a.eval x = .slice v n c) {l : List UInt8} (hn : n = l.length) {w : World} (hr : Rd w v (bs l)) : (execOp a.eval o).run P w = .ok (.value (.string (str l))) w := by
  subst hn
  unfold execOp
  simp only [hop, hx, Sem.run_bind, run_string_of (P := P) (c := c) hs he hd hr, Result.andThen_ok, Sem.run_pure]

/-- The operations of these numbers, in this order. -/
def picked (l : List Oper) : List Nat → List Oper
  | [] => []
  | j :: js => match opAt l j with
    | some o => o :: picked l js
    | none => picked l js

theorem wpOps_picked (l : List Oper) : ∀ (js : List Nat) (a : Act) (w : World), wpList P l.toArray Q (picked l js) a w → wpOps P l.toArray Q js a w := by
  intro js
  induction js with
  | nil => intro a w h; exact h
  | cons j js ih =>
    intro a w h
    simp only [picked] at h
    simp only [wpOps, opAt_eq]
    cases ho : opAt l j with
    | none => rw [ho] at h; exact ih a w h
    | some o =>
      rw [ho] at h
      simp only [wpList] at h
      simp only
      split
      · rename_i hw
        rw [if_pos hw] at h
        exact h.imp (Oper.wp_mono (fun a w h => ih a w h)) id
      · rename_i hw
        rw [if_neg hw] at h
        exact ih _ _ h

/-- A small region: each of its orders by itself. -/
theorem wp_region_lin {l : List Oper} {id : Nat} {a : Act} {w : World} (hm : P.follows .mixedOrders = true) (ls : List (List Nat)) (hl : allLin .any l.toArray l.length (List.replicate l.length false).toArray = ls)
    (h : ∀ js ∈ ls, wpList P l.toArray Q (picked l js) a w.drew) : (Code.region id l.toArray true).wp P Q a w :=
  wp_region_draw fun t => by
    have hmem : Region.schedule (P.follows .mixedOrders) l.toArray t ∈ ls := by
      rw [← hl]
      simp only [Region.schedule, hm, Bool.true_or, if_true]
      have := mem_allLin .any l.toArray l.toArray.size t (Array.replicate l.toArray.size false)
      simpa [Region.linearise] using this
    exact wpOps_picked l _ a _ (h _ hmem)

/-- The beginning. -/
theorem wp_region_E (dep : List Nat) (S : World → Prop) {l : List Oper} {id : Nat} {a : Act} {w : World} (hm : P.follows .mixedOrders = true)
    (h : wpE dep P .any l.toArray Q l.length S (List.replicate l.length false).toArray a w.drew) : (Code.region id l.toArray true).wp P Q a w :=
  wp_region_any hm (by
    have := wpAny_of_E _ _ _ _ _ h
    simpa using this)

end
end Go.Esc

/- What a cut slice yields, in a region that draws its order: of no program. -/
namespace Go.Esc
open Go.RowKit
variable {P : Program} {a : Act} {w : World}
theorem yields_cut_h {t e : TypeId} {z : Value} {k by' : Nat} (T : SlT P t e z k by') {o : Oper} {x hi : Operand} (hop : o.op = .slice t x none (some hi) none) {sa : Option Addr} {n c : Nat} (hx : a.eval x = .slice sa n c) {kh : IntKind} {h' : Int}
    (hh : a.eval hi = .int kh h') (h : Nat) (eh : h' = h) (h2 : h ≤ c) : (execOp a.eval o).run P w = .ok (.value (.slice sa h c)) w := by
  subst eh
  unfold execOp
  simp only [hop, hx, hh, Option.map_some, Option.map_none, Sem.run_bind, run_cut_h T w sa n c kh h h2, Result.andThen_ok, Sem.run_pure]
theorem yields_cut_l {t e : TypeId} {z : Value} {k by' : Nat} (T : SlT P t e z k by') {o : Oper} {x lo : Operand} (hop : o.op = .slice t x (some lo) none none) {sa : Option Addr} {n c : Nat} (hx : a.eval x = .slice sa n c) {kl : IntKind} {l' : Int}
    (hl : a.eval lo = .int kl l') (l : Nat) (el : l' = l) (h1 : l ≤ n) : (execOp a.eval o).run P w = .ok (.value (.slice (cutAt sa c l k) (n - l) (c - l))) w := by
  subst el
  unfold execOp
  simp only [hop, hx, hl, Option.map_some, Option.map_none, Sem.run_bind, run_cut_l T w sa n c kl l h1, Result.andThen_ok, Sem.run_pure]
theorem yields_cut_lh {t e : TypeId} {z : Value} {k by' : Nat} (T : SlT P t e z k by') {o : Oper} {x lo hi : Operand} (hop : o.op = .slice t x (some lo) (some hi) none) {sa : Option Addr} {n c : Nat} (hx : a.eval x = .slice sa n c) {kl kh : IntKind} {l' h' : Int}
    (hl : a.eval lo = .int kl l') (hh : a.eval hi = .int kh h') (l h : Nat) (el : l' = l) (eh : h' = h) (h1 : l ≤ h) (h2 : h ≤ c) : (execOp a.eval o).run P w = .ok (.value (.slice (cutAt sa c l k) (h - l) (c - l))) w := by
  subst el
  subst eh
  unfold execOp
  simp only [hop, hx, hl, hh, Option.map_some, Option.map_none, Sem.run_bind, run_cut_lh T w sa n c kl kh l h h1 h2, Result.andThen_ok, Sem.run_pure]

/-- append, as an operation of a region. -/
theorem op_append {K : Act → World → Prop} {Q : Exit → Act → World → Prop} {o : Oper} {t e : TypeId} {z : Value} {k by' : Nat} (T : SlT P t e z k by')
    {s x : Operand} (hop : o.op = .call { callee := .builtin .append, args := #[s, x], argTypes := #[t, t] })
    {B n c : Nat} {sa : Option Addr} {xs : List Value} (hs : a.eval s = .slice sa n c) (ho : Own w B sa k n c xs)
    {xa : Option Addr} {m cx : Nat} {ys : List Value} (hx : a.eval x = .slice xa m cx) (hr : Rd w xa ys) (hl : ys.length = m * k) (h1 : ∀ u ∈ ys, u.oneCell' = true)
    (h63 : n + m ≤ maxLen) (hby : (n + m) * by' ≤ 140737488355328) (hB : B ≤ w.heap.size)
    (h : ∀ sa' c' w', App w w' B k sa n c xs sa' c' m ys → K (a.put o.dst (.slice sa' (n + m) c')) w') : o.wp P a w K Q := by
  obtain ⟨sa', c', w', hrun, h2⟩ := run_append (P := P) (ty := o.type) T ho (cx := cx) hr hl h1 h63 hby hB
  unfold Oper.wp execOp
  simp only [hop, resolve, invoke, builtin, Sem.run_bind, Sem.run_pure, Result.andThen_ok, List.map_toArray, List.map_cons, List.map_nil, hs, hx, hrun]
  exact h _ _ _ h2

/-- A slice literal, as an operation of a region. -/
theorem op_build {K : Act → World → Prop} {Q : Exit → Act → World → Prop} {o : Oper} {t e : TypeId} {n : Nat} {parts : Array (Nat × Operand)} (hop : o.op = .buildSlice t n parts) (cs : Array Value)
    (hf : ∀ w, (Instr.buildSlice t n (parts.map fun (i, x) => (i, a.eval x))).run P w = .ok (.slice (some ⟨w.heap.size, 0, none⟩) n n) (w.alloc (.cells cs e)))
    (h : ∀ ad w', Rd w' (some ad) cs.toList → Ext no w w' → w.heap.size ≤ ad.block → ad.block < w'.heap.size → K (a.put o.dst (.slice (some ad) n n)) w') : o.wp P a w K Q := by
  unfold Oper.wp execOp
  simp only [hop, Sem.run_bind, hf, Result.andThen_ok, Sem.run_pure]
  exact h _ _ (Rd.lit w cs e (0, 0)) (Ext.alloc no w _) (Nat.le_refl _) (by simp)
/-- An empty one, which the call owns. -/
theorem op_build0 {K : Act → World → Prop} {Q : Exit → Act → World → Prop} {o : Oper} {t e : TypeId} {n : Nat} {parts : Array (Nat × Operand)} (hop : o.op = .buildSlice t n parts) (hn : n = 0) (B : Nat) (hB : B ≤ w.heap.size)
    (hf : ∀ w, (Instr.buildSlice t n (parts.map fun (i, x) => (i, a.eval x))).run P w = .ok (.slice (some ⟨w.heap.size, 0, none⟩) n n) (w.alloc (.cells #[] e)))
    (h : ∀ ad w', Own w' B (some ad) 1 0 0 [] → Ext no w w' → w.heap.size ≤ ad.block → ad.block < w'.heap.size → K (a.put o.dst (.slice (some ad) 0 0)) w') : o.wp P a w K Q := by
  subst hn
  unfold Oper.wp execOp
  simp only [hop, Sem.run_bind, hf, Result.andThen_ok, Sem.run_pure]
  exact h _ _ (Own.fresh w B _ _ _ _ _ _ _ hB (by simp) (Nat.le_refl _) (Nat.zero_le _) (by simp) (by simp) (.inl (Nat.le_refl _))) (Ext.alloc no w _) (Nat.le_refl _) (by simp)

/-- Any of these may come up. -/
theorem wpE_execs {dep : List Nat} {md : Region.Mode} {Q : Exit → Act → World → Prop} {l : List Oper} {S : World → Prop} (js : List Nat) {fuel : Nat} {listed : Array Bool} {a : Act} {w : World} (hr : Region.ready md l.toArray listed = js) (hne : js ≠ [])
    (h : ∀ j ∈ js, ∃ oj, opAt l j = some oj ∧ Region.wanted oj (yielded l.toArray a.tmps) = true ∧
      ∀ K : Act → World → Prop, (∀ a' w' (S' : World → Prop), (barrier dep md l.toArray listed j = true ∨ ∀ x, S' x → S x) → S' w' → wpE dep P md l.toArray Q fuel S' (listed.setIfInBounds j true) a' w' → K a' w') → oj.wp P a w K Q) : wpE dep P md l.toArray Q (fuel + 1) S listed a w := by
  refine ⟨fun h0 => absurd (hr.symm.trans h0) hne, fun j hj => ?_⟩
  rw [hr] at hj
  obtain ⟨oj, h1, h2, h3⟩ := h j hj
  unfold wpOp
  simp only [opAt_eq, h1, h2, if_true]
  exact .inl (h3 _ fun a' w' S' h1 h2 h3 => ⟨S', h1, h2, h3⟩)
end Go.Esc

/- A statement whose order Go leaves open, walked in one order: each load has a condition of its own; a call that leaves the world as it is may be taken first. Of no program. -/
namespace Go.Esc
open Go.RowKit

section
variable {P : Program} {ops : Array Oper} {Q : Exit → Act → World → Prop} {md : Region.Mode}

/-- Leaves v, at once or by a call, and the world as it is. -/
def YieldsG (P : Program) (ops : Array Oper) (S : World → Prop) (o : Oper) (v : Value) (a : Act) : Prop :=
  (Region.wanted o (yielded ops a.tmps) = true ∧ ∀ w, S w → (execOp a.eval o).run P w = .ok (.value v) w ∨ ∃ f args, (execOp a.eval o).run P w = .ok (.enter f args) w ∧ Calls P f args w (fun e w' => e = .returned v ∧ w = w')) ∨
  (Region.wanted o (yielded ops a.tmps) = false ∧ v = undef)
theorem YieldsG.narrow {S S' : World → Prop} {o : Oper} {v : Value} {a : Act} (h : YieldsG P ops S o v a) (hs : ∀ x, S' x → S x) : YieldsG P ops S' o v a :=
  h.imp (fun ⟨h1, h2⟩ => ⟨h1, fun w hw => h2 w (hs w hw)⟩) id
theorem YieldsG.same {S : World → Prop} {o : Oper} {v : Value} {a a' : Act} (h : YieldsG P ops S o v a) (he : execOp a'.eval o = execOp a.eval o) (hw : Region.wanted o (yielded ops a'.tmps) = Region.wanted o (yielded ops a.tmps)) : YieldsG P ops S o v a' := by
  unfold YieldsG at *
  rw [he, hw]; exact h
theorem YieldsG.go {S : World → Prop} {i : Nat} {o : Oper} {v : Value} {a : Act} (hi : ops[i]? = some o) (h : YieldsG P ops S o v a) {K : Act → World → Prop} {w : World} (hS : S w) (hk : K (a.put o.dst v) w) : wpOp P ops Q i K a w := by
  unfold wpOp
  rw [hi]
  rcases h with ⟨hw, hv⟩ | ⟨hw, rfl⟩
  · simp only [hw, if_true]
    refine .inl ?_
    unfold Oper.wp
    rcases hv w hS with h1 | ⟨f, args, h1, h2⟩
    · rw [h1]; exact hk
    · rw [h1]
      refine Calls.mono h2 fun e w' he => ?_
      obtain ⟨rfl, rfl⟩ := he
      exact hk
  · simp only [hw, Bool.false_eq_true, if_false]; exact hk
/-- What is apart from it does not mind. -/
theorem wpOp_aside {S : World → Prop} {j : Nat} {oi oj : Oper} {v : Value} (hj : ops[j]? = some oj) (hap : oi.apart ops oj = true) (hsi : ∀ cs b, oi.op ≠ .select cs b) (hsj : ∀ cs b, oj.op ≠ .select cs b)
    (hQ : ∀ c a w, Q (.panic c) (a.put oi.dst v) w → Q (.panic c) a w) {K : Act → World → Prop} {a : Act} {w : World} (hy : YieldsG P ops S oi v a) (h : wpOp P ops Q j K (a.put oi.dst v) w) :
    wpOp P ops Q j (fun a' w' => YieldsG P ops S oi v a' ∧ K (a'.put oi.dst v) w') a w := by
  obtain ⟨h1, h2, h3⟩ := Oper.apart_spec hap
  have stay : ∀ u, YieldsG P ops S oi v (a.put oj.dst u) := fun u => hy.same (execOp_put oi hsi a oj.dst u h3) (wanted_put oi a oj.dst u h3)
  have stayD : ∀ d u, YieldsG P ops S oi v (({ a with defers := d :: a.defers } : Act).put oj.dst u) := fun d u =>
    (YieldsG.same (a' := { a with defers := d :: a.defers }) hy rfl rfl).same (execOp_put oi hsi _ oj.dst u h3) (wanted_put oi _ oj.dst u h3)
  unfold wpOp at *
  simp only [hj] at *
  rw [wanted_put oj a oi.dst v h1] at h
  by_cases hw : Region.wanted oj (yielded ops a.tmps) = true
  · rw [if_pos hw] at h ⊢
    rcases h with h | ⟨hk, hl⟩
    · refine .inl ?_
      unfold Oper.wp at *
      rw [execOp_put oj hsj a oi.dst v h1] at h
      cases hr : (execOp a.eval oj).run P w with
      | ok n w' =>
        rw [hr] at h
        cases n <;> simp only [Oper.upon] at h ⊢
        case value u => exact ⟨stay u, by rw [← Act.put_comm a v u h2]; exact h⟩
        case skip => exact ⟨stay _, by rw [← Act.put_comm a v undef h2]; exact h⟩
        case defer d => exact ⟨stayD d _, by rw [← Act.put_comm _ v undef h2, ← Act.put_defers]; exact h⟩
        case enter f args =>
          refine Calls.mono h fun e w'' he => ?_
          cases e with
          | returned u => exact ⟨stay u, by rw [← Act.put_comm a v u h2]; exact he⟩
          | panicked c => exact hQ _ _ _ he
          | outgrown => exact he
        case row row args => exact Rows.mono h fun u w'' he => ⟨stay u, by rw [← Act.put_comm a v u h2]; exact he⟩
      | halt x w' =>
        rw [hr] at h
        cases x <;> simp only [Oper.upon] at h ⊢
        case panic u => exact hQ _ _ _ h
    · exact .inr ⟨by unfold Oper.asks at *; rw [execOp_put oj hsj a oi.dst v h1] at hk; exact hk, hl⟩
  · rw [if_neg hw] at h ⊢
    exact ⟨stay _, by rw [← Act.put_comm a v undef h2]; exact h⟩

/-- Of each load that has come up: it stands ahead of number j, or its condition is kept. -/
def Steps (md : Region.Mode) (ops : Array Oper) (listed : Array Bool) (j : Nat) (S S' : Nat → World → Prop) : List Nat → Prop
  | [] => True
  | k :: ks => (listed.getD k true = false ∨ anc md ops ops.size k j = true ∨ ∀ x, S' k x → S k x) ∧ Steps md ops listed j S S' ks
theorem Steps.of {listed : Array Bool} {j : Nat} {S S' : Nat → World → Prop} : ∀ {dep : List Nat}, Steps md ops listed j S S' dep → ∀ k ∈ dep, listed.getD k true = false ∨ anc md ops ops.size k j = true ∨ ∀ x, S' k x → S k x
  | k :: ks, h, i, hi => by
    rcases List.mem_cons.1 hi with rfl | hi
    · exact h.1
    · exact Steps.of h.2 i hi
theorem Steps.mk {listed : Array Bool} {j : Nat} {S S' : Nat → World → Prop} : ∀ {dep : List Nat}, (∀ k ∈ dep, listed.getD k true = false ∨ anc md ops ops.size k j = true ∨ ∀ x, S' k x → S k x) → Steps md ops listed j S S' dep
  | [], _ => trivial
  | k :: ks, h => ⟨h k (by simp), Steps.mk (fun i hi => h i (by simp [hi]))⟩
theorem Steps.refl {listed : Array Bool} {j : Nat} {S : Nat → World → Prop} {dep : List Nat} : Steps md ops listed j S S dep := Steps.mk fun _ _ => .inr (.inr fun _ h => h)

def wpF (dep : List Nat) (P : Program) (md : Region.Mode) (ops : Array Oper) (Q : Exit → Act → World → Prop) : Nat → (Nat → World → Prop) → Array Bool → Act → World → Prop
  | 0, _, listed, a, w => Region.ready md ops listed = [] ∧ Q .normal a w
  | fuel + 1, S, listed, a, w =>
    (Region.ready md ops listed = [] → Q .normal a w) ∧
    ∀ i ∈ Region.ready md ops listed, wpOp P ops Q i (fun a' w' => ∃ S' : Nat → World → Prop, Steps md ops listed i S S' dep ∧ (∀ k, S' k w') ∧ wpF dep P md ops Q fuel S' (listed.setIfInBounds i true) a' w') a w

variable {dep : List Nat}

theorem wpAny_of_F : ∀ (fuel : Nat) (S : Nat → World → Prop) (listed : Array Bool) (a : Act) (w : World), wpF dep P md ops Q fuel S listed a w → wpAny P md ops Q fuel listed a w
  | 0, _, _, _, _, h => h
  | fuel + 1, _, _, _, _, h => ⟨h.1, fun i hi => wpOp_mono (fun a' w' h' => by obtain ⟨S', _, _, h''⟩ := h'; exact wpAny_of_F fuel S' _ a' w' h'') (h.2 i hi)⟩

theorem wpF_first {i : Nat} {oi : Oper} {v : Value} (hi : ops[i]? = some oi) (hsel : ∀ (j : Nat) (o : Oper) cs b, ops[j]? = some o → o.op ≠ .select cs b)
    (hQ : ∀ c a w, Q (.panic c) (a.put oi.dst v) w → Q (.panic c) a w) :
    ∀ (fuel : Nat) (S : Nat → World → Prop) (T : World → Prop) (listed : Array Bool) (a : Act) (w : World), ((∀ x, T x) ∨ (i ∈ dep ∧ Closed md ops listed ∧ T = S i)) →
      (∀ j oj, ops[j]? = some oj → j ≠ i → listed.getD j true = false → (∀ e ∈ oj.after, Region.binds md e = true → e.on ≠ i) → oi.apart ops oj = true) →
      i ∈ Region.ready md ops listed → YieldsG P ops T oi v a → (∀ k, S k w) →
      wpF dep P md ops Q fuel S (listed.setIfInBounds i true) (a.put oi.dst v) w → wpF dep P md ops Q (fuel + 1) S listed a w := by
  intro fuel
  induction fuel with
  | zero =>
    intro S T listed a w hT hfree hr hy hS H
    have hTw : T w := hT.elim (fun h => h w) (fun h => h.2.2 ▸ hS i)
    refine ⟨fun h => (by rw [h] at hr; cases hr), fun j hj => ?_⟩
    by_cases hji : j = i
    · subst hji; exact hy.go hi hTw ⟨S, Steps.refl, hS, H⟩
    · have := ready_mono hj hji
      rw [H.1] at this
      cases this
  | succ fuel ih =>
    intro S T listed a w hT hfree hr hy hS H
    have hTw : T w := hT.elim (fun h => h w) (fun h => h.2.2 ▸ hS i)
    refine ⟨fun h => (by rw [h] at hr; cases hr), fun j hj => ?_⟩
    by_cases hji : j = i
    · subst hji; exact hy.go hi hTw ⟨S, Steps.refl, hS, H⟩
    · have h1 := H.2 j (ready_mono hj hji)
      obtain ⟨hjun, oj, hoj, hall⟩ := mem_ready.1 hj
      have hi0 := (mem_ready.1 hr).1
      have hisz : i < listed.size := by
        rcases Nat.lt_or_ge i listed.size with h' | h'
        · exact h'
        · simp [Array.getElem?_eq_none h'] at hi0
      have hif : listed.getD i false = false := by simp [hisz] at hi0 ⊢; exact hi0
      have hnot : ∀ e ∈ oj.after, Region.binds md e = true → e.on ≠ i := fun e he hb heq => by
        have h1 := hall e he hb
        rw [heq, hif] at h1
        cases h1
      have h2 := wpOp_aside hoj (hfree j oj hoj hji hjun hnot) (fun cs b => hsel i oi cs b hi) (fun cs b => hsel j oj cs b hoj) hQ hy h1
      have hfree' : ∀ k ok, ops[k]? = some ok → k ≠ i → (listed.setIfInBounds j true).getD k true = false →
          (∀ e ∈ ok.after, Region.binds md e = true → e.on ≠ i) → oi.apart ops ok = true := fun k ok hk hki hun hno => by
        refine hfree k ok hk hki ?_ hno
        by_cases hjk : j = k
        · subst hjk; exact hjun
        · rw [getD_set_ne true hjk] at hun; exact hun
      refine wpOp_mono (fun a' w' h3 => ?_) h2
      obtain ⟨hy3, S', hs, hS', h4⟩ := h3
      have hs0 : Steps md ops listed j S S' dep := Steps.mk fun k hk => by
        rcases hs.of k hk with h | h
        · by_cases hik : i = k
          · subst hik; simp [hisz] at h
          · rw [getD_set_ne true hik] at h; exact .inl h
        · exact .inr h
      have h5 : wpF dep P md ops Q fuel S' ((listed.setIfInBounds j true).setIfInBounds i true) (a'.put oi.dst v) w' := by
        rw [Array.setIfInBounds_comm _ _ hji]; exact h4
      rcases hT with hT | ⟨hd, hcl, rfl⟩
      · exact ⟨S', hs0, hS', ih S' T (listed.setIfInBounds j true) a' w' (.inl hT) hfree' (ready_mono hr (Ne.symm hji)) hy3 hS' h5⟩
      · have hkeep : ∀ x, S' i x → S i x := by
          rcases hs.of i hd with h | h | h
          · simp [hisz] at h
          · have := anc_listed hcl _ j oj hoj hall h
            rw [hif] at this; cases this
          · exact h
        exact ⟨S', hs0, hS', ih S' (S' i) (listed.setIfInBounds j true) a' w' (.inr ⟨hd, hcl.set hj, rfl⟩) hfree' (ready_mono hr (Ne.symm hji)) (hy3.narrow hkeep) hS' h5⟩

/-- Take number i first: it yields v whatever the world. -/
theorem wpF_take {l : List Oper} {S : Nat → World → Prop} (i : Nat) {oi : Oper} {v : Value} {fuel : Nat} {listed : Array Bool} {a : Act} {w : World} (hi : opAt l i = some oi)
    (hs : Region.noSelect l.toArray = true) (hf : Region.free md l.toArray listed i = true) (hr : (Region.ready md l.toArray listed).contains i = true)
    (hQ : ∀ c a w, Q (.panic c) (a.put oi.dst v) w → Q (.panic c) a w) (hS : ∀ k, S k w) (hw : Region.wanted oi (yielded l.toArray a.tmps) = true) (hy : ∀ w, (execOp a.eval oi).run P w = .ok (.value v) w)
    (h : wpF dep P md l.toArray Q fuel S (listed.setIfInBounds i true) (a.put oi.dst v) w) : wpF dep P md l.toArray Q (fuel + 1) S listed a w :=
  wpF_first (by rw [opAt_eq]; exact hi) (Region.noSelect_spec hs) hQ fuel S (fun _ => True) listed a w (.inl fun _ => trivial) (Region.free_spec (by rw [opAt_eq]; exact hi) hf) (by simpa using hr) (.inl ⟨hw, fun w _ => .inl (hy w)⟩) hS h
/-- Take number i first: a call that yields v whatever the world. -/
theorem wpF_call {l : List Oper} {S : Nat → World → Prop} (i : Nat) {oi : Oper} {v : Value} (f : FuncId) (args : Array Value) {fuel : Nat} {listed : Array Bool} {a : Act} {w : World} (hi : opAt l i = some oi)
    (hs : Region.noSelect l.toArray = true) (hf : Region.free md l.toArray listed i = true) (hr : (Region.ready md l.toArray listed).contains i = true)
    (hQ : ∀ c a w, Q (.panic c) (a.put oi.dst v) w → Q (.panic c) a w) (hS : ∀ k, S k w) (hw : Region.wanted oi (yielded l.toArray a.tmps) = true)
    (hy : ∀ w, (execOp a.eval oi).run P w = .ok (.enter f args) w) (hc : ∀ w, Calls P f args w (fun e w' => e = .returned v ∧ w = w'))
    (h : wpF dep P md l.toArray Q fuel S (listed.setIfInBounds i true) (a.put oi.dst v) w) : wpF dep P md l.toArray Q (fuel + 1) S listed a w :=
  wpF_first (by rw [opAt_eq]; exact hi) (Region.noSelect_spec hs) hQ fuel S (fun _ => True) listed a w (.inl fun _ => trivial) (Region.free_spec (by rw [opAt_eq]; exact hi) hf) (by simpa using hr) (.inl ⟨hw, fun w _ => .inr ⟨f, args, hy w, hc w⟩⟩) hS h
/-- Take number i first: in every world that meets its condition it yields v. -/
theorem wpF_look {l : List Oper} {S : Nat → World → Prop} (i : Nat) {oi : Oper} {v : Value} {fuel : Nat} {listed : Array Bool} {a : Act} {w : World} (hi : opAt l i = some oi) (hd : dep.contains i = true) (hc : closedB md l.toArray listed = true)
    (hs : Region.noSelect l.toArray = true) (hf : Region.free md l.toArray listed i = true) (hr : (Region.ready md l.toArray listed).contains i = true)
    (hQ : ∀ c a w, Q (.panic c) (a.put oi.dst v) w → Q (.panic c) a w) (hS : ∀ k, S k w) (hw : Region.wanted oi (yielded l.toArray a.tmps) = true) (hy : ∀ w, S i w → (execOp a.eval oi).run P w = .ok (.value v) w)
    (h : wpF dep P md l.toArray Q fuel S (listed.setIfInBounds i true) (a.put oi.dst v) w) : wpF dep P md l.toArray Q (fuel + 1) S listed a w :=
  wpF_first (by rw [opAt_eq]; exact hi) (Region.noSelect_spec hs) hQ fuel S (S i) listed a w (.inr ⟨by simpa using hd, closed_of hc, rfl⟩) (Region.free_spec (by rw [opAt_eq]; exact hi) hf) (by simpa using hr) (.inl ⟨hw, fun w hw' => .inl (hy w hw')⟩) hS h
/-- Take number i first: its guard says no. -/
theorem wpF_skip {l : List Oper} {S : Nat → World → Prop} (i : Nat) {oi : Oper} {fuel : Nat} {listed : Array Bool} {a : Act} {w : World} (hi : opAt l i = some oi)
    (hs : Region.noSelect l.toArray = true) (hf : Region.free md l.toArray listed i = true) (hr : (Region.ready md l.toArray listed).contains i = true)
    (hQ : ∀ c a w, Q (.panic c) (a.put oi.dst undef) w → Q (.panic c) a w) (hS : ∀ k, S k w) (hw : Region.wanted oi (yielded l.toArray a.tmps) = false)
    (h : wpF dep P md l.toArray Q fuel S (listed.setIfInBounds i true) (a.put oi.dst undef) w) : wpF dep P md l.toArray Q (fuel + 1) S listed a w :=
  wpF_first (by rw [opAt_eq]; exact hi) (Region.noSelect_spec hs) hQ fuel S (fun _ => True) listed a w (.inl fun _ => trivial) (Region.free_spec (by rw [opAt_eq]; exact hi) hf) (by simpa using hr) (.inr ⟨hw, rfl⟩) hS h
/-- These may come up. -/
theorem wpF_execs {l : List Oper} {S : Nat → World → Prop} (js : List Nat) {fuel : Nat} {listed : Array Bool} {a : Act} {w : World} (hr : Region.ready md l.toArray listed = js) (hne : js ≠ [])
    (h : ∀ j ∈ js, ∃ oj, opAt l j = some oj ∧ Region.wanted oj (yielded l.toArray a.tmps) = true ∧
      ∀ K : Act → World → Prop, (∀ a' w' (S' : Nat → World → Prop), Steps md l.toArray listed j S S' dep → (∀ k, S' k w') → wpF dep P md l.toArray Q fuel S' (listed.setIfInBounds j true) a' w' → K a' w') → oj.wp P a w K Q) : wpF dep P md l.toArray Q (fuel + 1) S listed a w := by
  refine ⟨fun h0 => absurd (hr.symm.trans h0) hne, fun j hj => ?_⟩
  rw [hr] at hj
  obtain ⟨oj, h1, h2, h3⟩ := h j hj
  unfold wpOp
  simp only [opAt_eq, h1, h2, if_true]
  exact .inl (h3 _ fun a' w' S' hs hS' hw => ⟨S', hs, hS', hw⟩)
theorem wpF_exec {l : List Oper} {S : Nat → World → Prop} (i : Nat) {oi : Oper} {fuel : Nat} {listed : Array Bool} {a : Act} {w : World} (hi : opAt l i = some oi) (hr : Region.ready md l.toArray listed = [i])
    (hw : Region.wanted oi (yielded l.toArray a.tmps) = true)
    (h : ∀ K : Act → World → Prop, (∀ a' w' (S' : Nat → World → Prop), Steps md l.toArray listed i S S' dep → (∀ k, S' k w') → wpF dep P md l.toArray Q fuel S' (listed.setIfInBounds i true) a' w' → K a' w') → oi.wp P a w K Q) : wpF dep P md l.toArray Q (fuel + 1) S listed a w :=
  wpF_execs [i] hr (by simp) (fun j hj => by simp at hj; subst hj; exact ⟨oi, hi, hw, h⟩)
theorem wpF_done {S : Nat → World → Prop} {listed : Array Bool} {a : Act} {w : World} (hr : Region.ready md ops listed = []) (h : Q .normal a w) : ∀ fuel, wpF dep P md ops Q fuel S listed a w
  | 0 => ⟨hr, h⟩
  | _ + 1 => ⟨fun _ => h, by rw [hr]; simp⟩

/-- Conditions by number. -/
def looks : List (Nat × (World → Prop)) → Nat → World → Prop
  | [], _, _ => True
  | (k, T) :: L, n, x => cond (Nat.beq n k) (T x) (looks L n x)
def allLooks : List (Nat × (World → Prop)) → World → Prop
  | [], _ => True
  | (_, T) :: L, x => T x ∧ allLooks L x
theorem looks_all : ∀ {L : List (Nat × (World → Prop))} {x : World}, allLooks L x → ∀ n, looks L n x
  | [], _, _, _ => trivial
  | (k, T) :: L, x, h, n => by
    unfold looks
    cases Nat.beq n k
    · exact looks_all h.2 n
    · exact h.1

/-- The beginning. -/
theorem wp_region_F (dep : List Nat) (S : Nat → World → Prop) {l : List Oper} {id : Nat} {a : Act} {w : World} (hm : P.follows .mixedOrders = true)
    (h : wpF dep P .any l.toArray Q l.length S (List.replicate l.length false).toArray a w.drew) : (Code.region id l.toArray true).wp P Q a w :=
  wp_region_any hm (by
    have := wpAny_of_F _ _ _ _ _ h
    simpa using this)
end
end Go.Esc

/- A statement whose order Go leaves open, within a fence: each load has a condition of its own. Of no program. -/
namespace Go.Esc
open Go.RowKit

section
variable {P : Program} {ops : Array Oper} {Q : Exit → Act → World → Prop} {md : Region.Mode} {N : Nat}

/-- Leaves v and the world as it is. -/
def YieldsH (P : Program) (ops : Array Oper) (S : World → Prop) (o : Oper) (v : Value) (a : Act) : Prop :=
  (Region.wanted o (yielded ops a.tmps) = true ∧ ∀ w, S w → (execOp a.eval o).run P w = .ok (.value v) w) ∨
  (Region.wanted o (yielded ops a.tmps) = false ∧ v = undef)
theorem YieldsH.narrow {S S' : World → Prop} {o : Oper} {v : Value} {a : Act} (h : YieldsH P ops S o v a) (hs : ∀ x, S' x → S x) : YieldsH P ops S' o v a :=
  h.imp (fun ⟨h1, h2⟩ => ⟨h1, fun w hw => h2 w (hs w hw)⟩) id
theorem YieldsH.same {S : World → Prop} {o : Oper} {v : Value} {a a' : Act} (h : YieldsH P ops S o v a) (he : execOp a'.eval o = execOp a.eval o) (hw : Region.wanted o (yielded ops a'.tmps) = Region.wanted o (yielded ops a.tmps)) : YieldsH P ops S o v a' := by
  unfold YieldsH at *
  rw [he, hw]; exact h
theorem YieldsH.go {S : World → Prop} {i : Nat} {o : Oper} {v : Value} {a : Act} (hi : ops[i]? = some o) (h : YieldsH P ops S o v a) {K : Act → World → Prop} {w : World} (hS : S w) (hk : K (a.put o.dst v) w) : wpOpIn Fence.wide N P ops Q i K a w := by
  unfold wpOpIn
  rw [hi]
  rcases h with ⟨hw, hv⟩ | ⟨hw, rfl⟩
  · simp only [hw, if_true]
    unfold Oper.wpIn
    refine ⟨fun _ _ => trivial, ?_⟩
    rw [show Fence.wide.round = none from rfl, Oper.semAt_none, hv w hS]
    exact hk
  · simp only [hw, Bool.false_eq_true, if_false]; exact ⟨fun _ _ => trivial, hk⟩
/-- What is apart from it does not mind. -/
theorem wpOpIn_aside {S : World → Prop} {j : Nat} {oi oj : Oper} {v : Value} (hj : ops[j]? = some oj) (hap : oi.apart ops oj = true) (hsi : ∀ cs b, oi.op ≠ .select cs b) (hsj : ∀ cs b, oj.op ≠ .select cs b)
    (hQ : ∀ c a w, Q (.panic c) (a.put oi.dst v) w → Q (.panic c) a w) {K : Act → World → Prop} {a : Act} {w : World} (hy : YieldsH P ops S oi v a) (h : wpOpIn Fence.wide N P ops Q j K (a.put oi.dst v) w) :
    wpOpIn Fence.wide N P ops Q j (fun a' w' => YieldsH P ops S oi v a' ∧ K (a'.put oi.dst v) w') a w := by
  obtain ⟨h1, h2, h3⟩ := Oper.apart_spec hap
  have stay : ∀ u, YieldsH P ops S oi v (a.put oj.dst u) := fun u => hy.same (execOp_put oi hsi a oj.dst u h3) (wanted_put oi a oj.dst u h3)
  have stayD : ∀ d u, YieldsH P ops S oi v (({ a with defers := d :: a.defers } : Act).put oj.dst u) := fun d u =>
    (YieldsH.same (a' := { a with defers := d :: a.defers }) hy rfl rfl).same (execOp_put oi hsi _ oj.dst u h3) (wanted_put oi _ oj.dst u h3)
  unfold wpOpIn at *
  simp only [hj] at *
  rw [wanted_put oj a oi.dst v h1] at h
  by_cases hw : Region.wanted oj (yielded ops a.tmps) = true
  · rw [if_pos hw] at h ⊢
    unfold Oper.wpIn at *
    refine ⟨fun _ _ => trivial, ?_⟩
    have h := h.2
    rw [show Fence.wide.round = none from rfl, Oper.semAt_none] at h ⊢
    rw [execOp_put oj hsj a oi.dst v h1] at h
    cases hr : (execOp a.eval oj).run P w with
    | ok n w' =>
      rw [hr] at h
      cases n <;> simp only [Oper.uponIn] at h ⊢
      case value u => exact ⟨stay u, by rw [← Act.put_comm a v u h2]; exact h⟩
      case skip => exact ⟨stay _, by rw [← Act.put_comm a v undef h2]; exact h⟩
      case defer d => exact ⟨stayD d _, by rw [← Act.put_comm _ v undef h2, ← Act.put_defers]; exact h⟩
      case enter f args =>
        refine ⟨h.1, CallsIn.mono h.2 fun e w'' he => ?_⟩
        cases e with
        | returned u => exact ⟨stay u, by rw [← Act.put_comm a v u h2]; exact he⟩
        | panicked c => exact hQ _ _ _ he
        | outgrown => exact he
      case row row args => exact ⟨h.1, RowsIn.mono h.2 fun u w'' he => ⟨stay u, by rw [← Act.put_comm a v u h2]; exact he⟩⟩
      case round l f tmps assign body =>
        refine ⟨h.1, RoundIn.mono h.2 fun e w'' he => ?_⟩
        cases e with
        | returned u => exact ⟨stay u, by rw [← Act.put_comm a v u h2]; exact he⟩
        | panicked c => exact hQ _ _ _ he
        | outgrown => exact he
    | halt x w' =>
      rw [hr] at h
      cases x <;> simp only [Oper.uponIn] at h ⊢
      case panic u => exact hQ _ _ _ h
  · rw [if_neg hw] at h ⊢
    exact ⟨fun _ _ => trivial, stay _, by rw [← Act.put_comm a v undef h2]; exact h.2⟩

def wpG (dep : List Nat) (N : Nat) (P : Program) (md : Region.Mode) (ops : Array Oper) (Q : Exit → Act → World → Prop) : Nat → (Nat → World → Prop) → Array Bool → Act → World → Prop
  | 0, _, listed, a, w => Region.ready md ops listed = [] ∧ Q .normal a w
  | fuel + 1, S, listed, a, w =>
    (Region.ready md ops listed = [] → Q .normal a w) ∧
    ∀ i ∈ Region.ready md ops listed, wpOpIn Fence.wide N P ops Q i (fun a' w' => ∃ S' : Nat → World → Prop, Steps md ops listed i S S' dep ∧ (∀ k, S' k w') ∧ wpG dep N P md ops Q fuel S' (listed.setIfInBounds i true) a' w') a w

variable {dep : List Nat}

theorem wpAnyIn_of_G : ∀ (fuel : Nat) (S : Nat → World → Prop) (listed : Array Bool) (a : Act) (w : World), wpG dep N P md ops Q fuel S listed a w → wpAnyIn Fence.wide N P md ops Q fuel listed a w
  | 0, _, _, _, _, h => h
  | fuel + 1, _, _, _, _, h => ⟨h.1, fun i hi => wpOpIn_mono (fun a' w' h' => by obtain ⟨S', _, _, h''⟩ := h'; exact wpAnyIn_of_G fuel S' _ a' w' h'') (h.2 i hi)⟩

theorem wpG_first {i : Nat} {oi : Oper} {v : Value} (hi : ops[i]? = some oi) (hsel : ∀ (j : Nat) (o : Oper) cs b, ops[j]? = some o → o.op ≠ .select cs b)
    (hQ : ∀ c a w, Q (.panic c) (a.put oi.dst v) w → Q (.panic c) a w) :
    ∀ (fuel : Nat) (S : Nat → World → Prop) (T : World → Prop) (listed : Array Bool) (a : Act) (w : World), ((∀ x, T x) ∨ (i ∈ dep ∧ Closed md ops listed ∧ T = S i)) →
      (∀ j oj, ops[j]? = some oj → j ≠ i → listed.getD j true = false → (∀ e ∈ oj.after, Region.binds md e = true → e.on ≠ i) → oi.apart ops oj = true) →
      i ∈ Region.ready md ops listed → YieldsH P ops T oi v a → (∀ k, S k w) →
      wpG dep N P md ops Q fuel S (listed.setIfInBounds i true) (a.put oi.dst v) w → wpG dep N P md ops Q (fuel + 1) S listed a w := by
  intro fuel
  induction fuel with
  | zero =>
    intro S T listed a w hT hfree hr hy hS H
    have hTw : T w := hT.elim (fun h => h w) (fun h => h.2.2 ▸ hS i)
    refine ⟨fun h => (by rw [h] at hr; cases hr), fun j hj => ?_⟩
    by_cases hji : j = i
    · subst hji; exact hy.go hi hTw ⟨S, Steps.refl, hS, H⟩
    · have := ready_mono hj hji
      rw [H.1] at this
      cases this
  | succ fuel ih =>
    intro S T listed a w hT hfree hr hy hS H
    have hTw : T w := hT.elim (fun h => h w) (fun h => h.2.2 ▸ hS i)
    refine ⟨fun h => (by rw [h] at hr; cases hr), fun j hj => ?_⟩
    by_cases hji : j = i
    · subst hji; exact hy.go hi hTw ⟨S, Steps.refl, hS, H⟩
    · have h1 := H.2 j (ready_mono hj hji)
      obtain ⟨hjun, oj, hoj, hall⟩ := mem_ready.1 hj
      have hi0 := (mem_ready.1 hr).1
      have hisz : i < listed.size := by
        rcases Nat.lt_or_ge i listed.size with h' | h'
        · exact h'
        · simp [Array.getElem?_eq_none h'] at hi0
      have hif : listed.getD i false = false := by simp [hisz] at hi0 ⊢; exact hi0
      have hnot : ∀ e ∈ oj.after, Region.binds md e = true → e.on ≠ i := fun e he hb heq => by
        have h1 := hall e he hb
        rw [heq, hif] at h1
        cases h1
      have h2 := wpOpIn_aside hoj (hfree j oj hoj hji hjun hnot) (fun cs b => hsel i oi cs b hi) (fun cs b => hsel j oj cs b hoj) hQ hy h1
      have hfree' : ∀ k ok, ops[k]? = some ok → k ≠ i → (listed.setIfInBounds j true).getD k true = false →
          (∀ e ∈ ok.after, Region.binds md e = true → e.on ≠ i) → oi.apart ops ok = true := fun k ok hk hki hun hno => by
        refine hfree k ok hk hki ?_ hno
        by_cases hjk : j = k
        · subst hjk; exact hjun
        · rw [getD_set_ne true hjk] at hun; exact hun
      refine wpOpIn_mono (fun a' w' h3 => ?_) h2
      obtain ⟨hy3, S', hs, hS', h4⟩ := h3
      have hs0 : Steps md ops listed j S S' dep := Steps.mk fun k hk => by
        rcases hs.of k hk with h | h
        · by_cases hik : i = k
          · subst hik; simp [hisz] at h
          · rw [getD_set_ne true hik] at h; exact .inl h
        · exact .inr h
      have h5 : wpG dep N P md ops Q fuel S' ((listed.setIfInBounds j true).setIfInBounds i true) (a'.put oi.dst v) w' := by
        rw [Array.setIfInBounds_comm _ _ hji]; exact h4
      rcases hT with hT | ⟨hd, hcl, rfl⟩
      · exact ⟨S', hs0, hS', ih S' T (listed.setIfInBounds j true) a' w' (.inl hT) hfree' (ready_mono hr (Ne.symm hji)) hy3 hS' h5⟩
      · have hkeep : ∀ x, S' i x → S i x := by
          rcases hs.of i hd with h | h | h
          · simp [hisz] at h
          · have := anc_listed hcl _ j oj hoj hall h
            rw [hif] at this; cases this
          · exact h
        exact ⟨S', hs0, hS', ih S' (S' i) (listed.setIfInBounds j true) a' w' (.inr ⟨hd, hcl.set hj, rfl⟩) hfree' (ready_mono hr (Ne.symm hji)) (hy3.narrow hkeep) hS' h5⟩

/-- Take number i first: it yields v whatever the world. -/
theorem wpG_take {l : List Oper} {S : Nat → World → Prop} (i : Nat) {oi : Oper} {v : Value} {fuel : Nat} {listed : Array Bool} {a : Act} {w : World} (hi : opAt l i = some oi)
    (hs : Region.noSelect l.toArray = true) (hf : Region.free md l.toArray listed i = true) (hr : (Region.ready md l.toArray listed).contains i = true)
    (hQ : ∀ c a w, Q (.panic c) (a.put oi.dst v) w → Q (.panic c) a w) (hS : ∀ k, S k w) (hw : Region.wanted oi (yielded l.toArray a.tmps) = true) (hy : ∀ w, (execOp a.eval oi).run P w = .ok (.value v) w)
    (h : wpG dep N P md l.toArray Q fuel S (listed.setIfInBounds i true) (a.put oi.dst v) w) : wpG dep N P md l.toArray Q (fuel + 1) S listed a w :=
  wpG_first (by rw [opAt_eq]; exact hi) (Region.noSelect_spec hs) hQ fuel S (fun _ => True) listed a w (.inl fun _ => trivial) (Region.free_spec (by rw [opAt_eq]; exact hi) hf) (by simpa using hr) (.inl ⟨hw, fun w _ => hy w⟩) hS h
/-- Take number i first: in every world that meets its condition it yields v. -/
theorem wpG_look {l : List Oper} {S : Nat → World → Prop} (i : Nat) {oi : Oper} {v : Value} {fuel : Nat} {listed : Array Bool} {a : Act} {w : World} (hi : opAt l i = some oi) (hd : dep.contains i = true) (hc : closedB md l.toArray listed = true)
    (hs : Region.noSelect l.toArray = true) (hf : Region.free md l.toArray listed i = true) (hr : (Region.ready md l.toArray listed).contains i = true)
    (hQ : ∀ c a w, Q (.panic c) (a.put oi.dst v) w → Q (.panic c) a w) (hS : ∀ k, S k w) (hw : Region.wanted oi (yielded l.toArray a.tmps) = true) (hy : ∀ w, S i w → (execOp a.eval oi).run P w = .ok (.value v) w)
    (h : wpG dep N P md l.toArray Q fuel S (listed.setIfInBounds i true) (a.put oi.dst v) w) : wpG dep N P md l.toArray Q (fuel + 1) S listed a w :=
  wpG_first (by rw [opAt_eq]; exact hi) (Region.noSelect_spec hs) hQ fuel S (S i) listed a w (.inr ⟨by simpa using hd, closed_of hc, rfl⟩) (Region.free_spec (by rw [opAt_eq]; exact hi) hf) (by simpa using hr) (.inl ⟨hw, fun w hw' => hy w hw'⟩) hS h
/-- Take number i first: its guard says no. -/
theorem wpG_skip {l : List Oper} {S : Nat → World → Prop} (i : Nat) {oi : Oper} {fuel : Nat} {listed : Array Bool} {a : Act} {w : World} (hi : opAt l i = some oi)
    (hs : Region.noSelect l.toArray = true) (hf : Region.free md l.toArray listed i = true) (hr : (Region.ready md l.toArray listed).contains i = true)
    (hQ : ∀ c a w, Q (.panic c) (a.put oi.dst undef) w → Q (.panic c) a w) (hS : ∀ k, S k w) (hw : Region.wanted oi (yielded l.toArray a.tmps) = false)
    (h : wpG dep N P md l.toArray Q fuel S (listed.setIfInBounds i true) (a.put oi.dst undef) w) : wpG dep N P md l.toArray Q (fuel + 1) S listed a w :=
  wpG_first (by rw [opAt_eq]; exact hi) (Region.noSelect_spec hs) hQ fuel S (fun _ => True) listed a w (.inl fun _ => trivial) (Region.free_spec (by rw [opAt_eq]; exact hi) hf) (by simpa using hr) (.inr ⟨hw, rfl⟩) hS h
/-- These may come up. -/
theorem wpG_execs {l : List Oper} {S : Nat → World → Prop} (js : List Nat) {fuel : Nat} {listed : Array Bool} {a : Act} {w : World} (hr : Region.ready md l.toArray listed = js) (hne : js ≠ [])
    (h : ∀ j ∈ js, ∃ oj, opAt l j = some oj ∧ Region.wanted oj (yielded l.toArray a.tmps) = true ∧
      ∀ K : Act → World → Prop, (∀ a' w' (S' : Nat → World → Prop), Steps md l.toArray listed j S S' dep → (∀ k, S' k w') → wpG dep N P md l.toArray Q fuel S' (listed.setIfInBounds j true) a' w' → K a' w') → oj.wpIn Fence.wide N P a w K Q) : wpG dep N P md l.toArray Q (fuel + 1) S listed a w := by
  refine ⟨fun h0 => absurd (hr.symm.trans h0) hne, fun j hj => ?_⟩
  rw [hr] at hj
  obtain ⟨oj, h1, h2, h3⟩ := h j hj
  unfold wpOpIn
  simp only [opAt_eq, h1, h2, if_true]
  exact (h3 _ fun a' w' S' hs hS' hw => ⟨S', hs, hS', hw⟩)
theorem wpG_exec {l : List Oper} {S : Nat → World → Prop} (i : Nat) {oi : Oper} {fuel : Nat} {listed : Array Bool} {a : Act} {w : World} (hi : opAt l i = some oi) (hr : Region.ready md l.toArray listed = [i])
    (hw : Region.wanted oi (yielded l.toArray a.tmps) = true)
    (h : ∀ K : Act → World → Prop, (∀ a' w' (S' : Nat → World → Prop), Steps md l.toArray listed i S S' dep → (∀ k, S' k w') → wpG dep N P md l.toArray Q fuel S' (listed.setIfInBounds i true) a' w' → K a' w') → oi.wpIn Fence.wide N P a w K Q) : wpG dep N P md l.toArray Q (fuel + 1) S listed a w :=
  wpG_execs [i] hr (by simp) (fun j hj => by simp at hj; subst hj; exact ⟨oi, hi, hw, h⟩)
theorem wpG_done {S : Nat → World → Prop} {listed : Array Bool} {a : Act} {w : World} (hr : Region.ready md ops listed = []) (h : Q .normal a w) : ∀ fuel, wpG dep N P md ops Q fuel S listed a w
  | 0 => ⟨hr, h⟩
  | _ + 1 => ⟨fun _ => h, by rw [hr]; simp⟩

/-- The beginning. -/
theorem wpIn_region_G (dep : List Nat) (S : Nat → World → Prop) {l : List Oper} {id : Nat} {a : Act} {w : World} (hm : P.follows .mixedOrders = true)
    (h : wpG dep N P .any l.toArray Q l.length S (List.replicate l.length false).toArray a w.drew) : (Code.region id l.toArray true).wpIn Fence.wide N P Q a w :=
  wpIn_region_any hm (by
    have := wpAnyIn_of_G _ _ _ _ _ h
    simpa using this)
end
end Go.Esc

/- A loop over an iterator that gathers first and then hands out one by one. Of no program. -/
namespace Go.Esc
open Go.RowKit
set_option linter.unusedVariables false
variable {P : Program}

theorem Ext.putObj {S : Nat → Prop} (w : World) (l : Nat) (o : Obj) (hs : S l) : Ext S w (w.putObj l o) :=
  ⟨rfl, rfl, rfl, by simp, fun k _ hn => World.putObj_heap_other (fun e => hn (e ▸ hs))⟩
/-- The loop's own two blocks: what its rounds defer; its record. -/
def own2 (w : World) : Nat → Prop := fun k => k = w.heap.size ∨ k = w.heap.size + 1
/-- How a round's body may be left. -/
def rgPost (S : Nat → Prop) (x0 : Nat) (I : World → Prop) (Ix : World → Prop) (W : World) : Exit → Act → World → Prop
  | .normal, _, W' => Ext S W W' ∧ I W'
  | .exit id, _, W' => id = x0 ∧ Ext S W W' ∧ Ix W'
  | _, _, _ => False
/-- What an iterator promises that gathers xs first (in blocks of its own) and then hands them out, one by one; M: where the heap ended when it had gathered; the rounds write N's blocks, their own and what they laid. -/
def Gives {α : Type} (P : Program) (gf : Nat) (lb : Array Value) (encs : α → Array Value) (xs : List α) (N : Nat → Prop) (w : World) : Prop :=
  ∀ (l : Nat) (J : Nat → Nat → World → Prop) (Jx : World → Prop) (W : World), Ext no w W → w.heap.size ≤ l → l < W.heap.size →
    (∀ W', Ext no W W' → J W'.heap.size 0 W') → (∀ M i A B, J M i A → Ext no A B → J M i B) →
    (∀ M i x W1, W.heap.size ≤ M → J M i W1 → xs[i]? = some x → YieldAt Fence.wide 0 P l (encs x) W1 fun e W' => (e = .returned (.bool true) ∧ J M (i + 1) W' ∧ Ext (fun k => N k ∨ k = l ∨ M ≤ k) W1 W') ∨ (e = .returned (.bool false) ∧ Jx W')) →
    Calls P gf (#[.func (.yield l) #[] #[]] ++ lb) W fun e W' => (∃ v, e = .returned v) ∧ ((∃ M, W.heap.size ≤ M ∧ J M xs.length W') ∨ Jx W')

theorem wp_rangeFunc_gives {α : Type} {g : Operand} {ps : Array Tmp} {assign body : Code} {Q : Exit → Act → World → Prop} {a : Act} {w : World}
    {gf : Nat} {lb : Array Value} (hg : a.eval g = .func (.func gf) #[] lb) (eg : ∀ args w, (callFunc gf args).run P w = .ok (.enter gf args) w)
    {encs : α → Array Value} {xs : List α} (hps : ∀ x, (encs x).size = ps.size) {N : Nat → Prop} (hN : ∀ k, N k → k < w.heap.size) (hseq : Gives P gf lb encs xs N w)
    (x0 : Nat) (I : Nat → Nat → World → Prop) (Ix : World → Prop) (hI0 : ∀ W', Ext no w W' → I W'.heap.size 0 W')
    (hIs : ∀ M i A B, w.heap.size + 2 ≤ M → I M i A → Ext (own2 w) A B → I M i B) (hIxs : ∀ A B, Ix A → Ext (own2 w) A B → Ix B)
    (a₁ : α → Act)
    (hassign : ∀ (l : Nat) (x : α) (W : World) (K : Act → World → Prop), K (a₁ x) W →
      assign.wpIn (Fence.wide.inRound l) 0 P (Exit.then K (fun _ _ _ => False)) { tmps := (ps.zip (encs x)).foldl (fun t (p, v) => t.setIfInBounds p v) a.tmps, defers := [] } W)
    (hbody : ∀ (l M i : Nat) (x : α) (W : World), w.heap.size + 2 ≤ M → M ≤ W.heap.size → I M i W → xs[i]? = some x → body.wpIn (Fence.wide.inRound l) 0 P (rgPost (fun k => N k ∨ M ≤ k) x0 (I M (i + 1)) Ix W) (a₁ x) W)
    (hdone : ∀ (D M : Nat) (W : World), w.heap.size ≤ D → D < w.heap.size + 2 → w.heap.size + 2 ≤ M → D < W.heap.size → I M xs.length W → W.heap[D]? = some (.deferred (some [])) → Q .normal { a with defers := { target := .collected D, args := #[] } :: a.defers } W)
    (hstop : ∀ (D : Nat) (W : World), w.heap.size ≤ D → D < w.heap.size + 2 → D < W.heap.size → Ix W → W.heap[D]? = some (.deferred (some [])) → Q (.exit x0) { a with defers := { target := .collected D, args := #[] } :: a.defers } W) :
    (Code.rangeFunc g ps assign body).wp P Q a w := by
  refine (wpIn_wide (n := 0)).1 (wpIn_rangeFunc ?_)
  intro fn hfn
  obtain ⟨rec, hrec⟩ : ∃ rec : LoopState → Option Code → Loop, rec = fun st pe => { state := st, pending := pe, fn, tmps := a.tmps, params := ps, assign, body, defers := w.heap.size } := ⟨_, rfl⟩
  obtain ⟨W1, hW1⟩ : ∃ W1, (w.alloc (.deferred (some []))).alloc (.loop (rec .ready none)) = W1 := ⟨_, rfl⟩
  have hL1 : W1.heap[w.heap.size + 1]? = some (.loop (rec .ready none)) := by
    rw [← hW1]; have := World.alloc_heap_new (w.alloc (.deferred (some []))) (.loop (rec .ready none)); rwa [World.size_alloc] at this
  have hK1 : W1.heap[w.heap.size]? = some (.deferred (some [])) := by
    rw [← hW1]; exact (Below.heap_alloc _ _ _ (by simp)).trans (World.alloc_heap_new w _)
  have hx1 : Ext no w W1 := by rw [← hW1]; exact (Ext.alloc no w _).comp (Ext.alloc no _ _)
  have hs1 : W1.heap.size = w.heap.size + 2 := by rw [← hW1]; simp
  refine ⟨w.heap.size + 1, [{ target := .collected w.heap.size, args := #[] }], W1, { target := .fn (.func gf) lb, args := #[.func (.yield (w.heap.size + 1)) #[] #[]] }, W1, gf,
    #[.func (.yield (w.heap.size + 1)) #[] #[]] ++ lb, W1, ?_, ?_, fun _ _ => trivial, ?_, fun _ => (by simp [Fence.wide] at *), ?_⟩
  · rw [← hW1, hrec]; exact run_enterLoop_outer _ _ _ _ _
  · simp only [resolve, hg]
    simp [go_sem]
  · simp [invoke, go_sem, eg]
  · have keepL : ∀ {S : Nat → Prop} {A B : World} {k : Nat} {o : Obj}, Ext S A B → ¬ S k → A.heap[k]? = some o → B.heap[k]? = some o :=
      fun hx hn hk => (hx.block _ (Array.getElem?_eq_some_iff.1 hk).1 hn).trans hk
    refine callsIn_wide.2 ((hseq (w.heap.size + 1)
      (fun M i W => (w.heap.size + 2 ≤ M ∧ M ≤ W.heap.size) ∧ I M i W ∧ W.heap[w.heap.size + 1]? = some (.loop (rec .ready none)) ∧ W.heap[w.heap.size]? = some (.deferred (some [])))
      (fun W => Ix W ∧ W.heap[w.heap.size + 1]? = some (.loop (rec .done (some (.exit x0)))) ∧ W.heap[w.heap.size]? = some (.deferred (some [])))
      W1 hx1 (by omega) (by omega)
      (fun W' hx => ⟨⟨by have := hx.size; omega, Nat.le_refl _⟩, hI0 W' (hx1.comp hx), keepL hx (fun h => h) hL1, keepL hx (fun h => h) hK1⟩)
      (fun M i A B hs hx => ⟨⟨hs.1.1, Nat.le_trans hs.1.2 hx.size⟩, hIs M i A B hs.1.1 hs.2.1 (hx.mono (fun _ _ h => h.elim)), keepL hx (fun h => h) hs.2.2.1, keepL hx (fun h => h) hs.2.2.2⟩)
      ?_).mono ?_)
    · -- a round
      rintro M i x W hM1 ⟨⟨hM, hMW⟩, hi, hl, hk⟩ hxi
      have hlt : w.heap.size + 1 < W.heap.size := (Array.getElem?_eq_some_iff.1 hl).1
      have hy := run_yield (P := P) (args := encs x) hl (by rw [hrec]; exact hps x)
      rw [hrec] at hy
      refine ⟨fn, _, assign, body, hy, roundIn_of_wpIn trivial (hassign _ x W _ ⟨_, run_beginRound hl (by rw [hrec]), ?_⟩)⟩
      have hl2 : (W.putObj (w.heap.size + 1) (.loop { rec .ready none with state := .busy })).heap[w.heap.size + 1]? = some (.loop { rec .ready none with state := .busy }) := World.putObj_heap_same hlt
      have hk2 : (W.putObj (w.heap.size + 1) (.loop { rec .ready none with state := .busy })).heap[w.heap.size]? = some (.deferred (some [])) := (World.putObj_heap_other (by omega)).trans hk
      have hx2 : Ext (own2 w) W (W.putObj (w.heap.size + 1) (.loop { rec .ready none with state := .busy })) := Ext.putObj _ _ _ (.inr rfl)
      have hy2 : Ext (fun k => N k ∨ k = w.heap.size + 1 ∨ M ≤ k) W (W.putObj (w.heap.size + 1) (.loop { rec .ready none with state := .busy })) := Ext.putObj _ _ _ (.inr (.inl rfl))
      refine wpIn_mono (hbody _ M i x _ hM (by rw [World.putObj_size]; exact hMW) (hIs M i _ _ hM hi hx2) hxi) ?_
      have nS : ∀ k, k = w.heap.size ∨ k = w.heap.size + 1 → ¬ (N k ∨ M ≤ k) := by
        rintro k hk' (h | h)
        · have := hN k h; omega
        · omega
      have fin : ∀ (jump : Option Code) (W3 : World), Ext (fun k => N k ∨ M ≤ k) (W.putObj (w.heap.size + 1) (.loop { rec .ready none with state := .busy })) W3 →
          (Instr.endRound (w.heap.size + 1) jump).run P W3 = .ok (.bool jump.isNone) (W3.putObj (w.heap.size + 1) (.loop (rec (if jump.isNone then .ready else .done) jump))) ∧
          (W3.putObj (w.heap.size + 1) (.loop (rec (if jump.isNone then .ready else .done) jump))).heap[w.heap.size + 1]? = some (.loop (rec (if jump.isNone then .ready else .done) jump)) ∧
          (W3.putObj (w.heap.size + 1) (.loop (rec (if jump.isNone then .ready else .done) jump))).heap[w.heap.size]? = some (.deferred (some [])) := fun jump W3 hx3 => by
        have hl3 := keepL hx3 (nS _ (.inr rfl)) hl2
        have := run_endRound (P := P) jump hl3
        rw [hrec] at this ⊢
        exact ⟨this, World.putObj_heap_same (Array.getElem?_eq_some_iff.1 hl3).1, (World.putObj_heap_other (by omega)).trans (keepL hx3 (nS _ (.inl rfl)) hk2)⟩
      rintro e a3 W3 hp
      cases e with
      | normal =>
        obtain ⟨hx3, hi3⟩ := hp
        obtain ⟨hr, hl4, hk4⟩ := fin none W3 hx3
        have hx4 : Ext (own2 w) W3 (W3.putObj (w.heap.size + 1) (.loop (rec (if (none : Option Code).isNone then .ready else .done) none))) := Ext.putObj _ _ _ (.inr rfl)
        refine ⟨_, _, hr, .inl ⟨rfl, ⟨⟨hM, by rw [World.putObj_size]; exact Nat.le_trans (by rw [World.putObj_size]; exact hMW) hx3.size⟩, hIs M (i + 1) _ _ hM hi3 hx4, hl4, hk4⟩, ?_⟩⟩
        exact (hy2.comp (hx3.mono (fun k _ h => h.imp id .inr))).comp (Ext.putObj _ _ _ (.inr (.inl rfl)))
      | exit id =>
        obtain ⟨rfl, hx3, hi3⟩ := hp
        obtain ⟨hr, hl4, hk4⟩ := fin (some (.exit id)) W3 hx3
        exact ⟨_, _, hr, .inr ⟨rfl, hIxs _ _ hi3 (Ext.putObj _ _ _ (.inr rfl)), hl4, hk4⟩⟩
      | ret => exact hp.elim
      | goto t => exact hp.elim
      | panic ch => exact hp.elim
      | outgrown => exact hp.elim
    · -- behind the iterator
      rintro e W2 ⟨⟨v, rfl⟩, (⟨M, _, ⟨hM, hMW⟩, hi, hl, hk⟩ | ⟨hi, hl, hk⟩)⟩
      · have hx4 : Ext (own2 w) W2 (W2.putObj (w.heap.size + 1) (.loop { rec .ready none with state := .exhausted })) := Ext.putObj _ _ _ (.inr rfl)
        have hkl := (Array.getElem?_eq_some_iff.1 hk).1
        refine ⟨none, _, by have := run_endLoop (P := P) hl (by rw [hrec]; simp); rw [hrec] at this; exact this, ?_⟩
        have := hdone w.heap.size M _ (Nat.le_refl _) (by omega) hM (by rw [World.putObj_size]; omega) (hIs M _ _ _ hM hi hx4) ((World.putObj_heap_other (by omega)).trans hk)
        rw [hrec] at this
        exact this
      · have hx4 : Ext (own2 w) W2 (W2.putObj (w.heap.size + 1) (.loop { rec .done (some (.exit x0)) with state := .exhausted })) := Ext.putObj _ _ _ (.inr rfl)
        have hkl := (Array.getElem?_eq_some_iff.1 hk).1
        refine ⟨some (.exit x0), _, by have := run_endLoop (P := P) hl (by rw [hrec]; simp); rw [hrec] at this; exact this, wpIn_exit ?_⟩
        have := hstop w.heap.size _ (Nat.le_refl _) (by omega) (by rw [World.putObj_size]; omega) (hIxs _ _ hi hx4) ((World.putObj_heap_other (by omega)).trans hk)
        rw [hrec] at this
        exact this
end Go.Esc

/- append within a round of a loop over an iterator. Of no program. -/
namespace Go.Esc
open Go.RowKit
variable {P : Program}
theorem wpListIn_append {F : Fence} {N : Nat} {w : World} {ops : Array Oper} {rest : List Oper} {o : Oper} {a : Act} {Q : Exit → Act → World → Prop} {t e : TypeId} {z : Value} {k by' : Nat} (T : SlT P t e z k by')
    (hgd : o.guard = none) {s x : Operand} (hop : o.op = .call { callee := .builtin .append, args := #[s, x], argTypes := #[t, t] })
    {B n c : Nat} {sa : Option Addr} {xs : List Value} (hs : a.eval s = .slice sa n c) (ho : Go.Esc.Own w B sa k n c xs)
    {xa : Option Addr} {m cx : Nat} {ys : List Value} (hx : a.eval x = .slice xa m cx) (hr : Rd w xa ys) (hl : ys.length = m * k) (h1 : ∀ u ∈ ys, u.oneCell' = true)
    (h63 : n + m ≤ maxLen) (hby : (n + m) * by' ≤ 140737488355328) (hB : B ≤ w.heap.size)
    (h : ∀ sa' c' w', App w w' B k sa n c xs sa' c' m ys → wpListIn F N P ops Q rest (a.put o.dst (.slice sa' (n + m) c')) w') :
    wpListIn F N P ops Q (o :: rest) a w := by
  obtain ⟨sa', c', w', hrun, h2⟩ := run_append (P := P) (ty := o.type) T ho (cx := cx) hr hl h1 h63 hby hB
  refine wpListIn_plain hgd fun K hK => ?_
  unfold Oper.wpIn
  refine ⟨?_, ?_⟩
  · simp [Oper.about, hop, resolve, Target.leads, Sem.run_pure]
  · rw [Oper.semAt_plain F _ _ (by rw [hop]; intro c hc'; cases hc')]
    unfold execOp
    simp only [hop, resolve, invoke, builtin, Sem.run_bind, Sem.run_pure, Result.andThen_ok, List.map_toArray, List.map_cons, List.map_nil, hs, hx, hrun]
    exact hK _ _ (h _ _ _ h2)
end Go.Esc
