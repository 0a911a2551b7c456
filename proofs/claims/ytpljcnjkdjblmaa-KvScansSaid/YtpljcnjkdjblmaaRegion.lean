/- A statement whose order Go leaves open, walked in one order: what a step learns may be used by all later ones. Of no program. -/
import Derived.Test.YtpljcnjkdjblmaaBase
import Derived.OrdersHeld
namespace Go.Esc
open Go.RowKit

/-- All orders that a region's edges allow. -/
def allLin (md : Region.Mode) (ops : Array Oper) : Nat → Array Bool → List (List Nat)
  | 0, _ => [[]]
  | n + 1, listed => match Region.ready md ops listed with
    | [] => [[]]
    | i :: rs => (i :: rs).flatMap fun i => (allLin md ops n (listed.setIfInBounds i true)).map (i :: ·)

theorem mem_allLin (md : Region.Mode) (ops : Array Oper) : ∀ (fuel t : Nat) (listed : Array Bool), Region.linearise.go md ops fuel t listed [] ∈ allLin md ops fuel listed := by
  intro fuel
  induction fuel with
  | zero => intro t listed; simp [Region.linearise.go, allLin]
  | succ fuel ih =>
    intro t listed
    simp only [Region.linearise.go, allLin]
    change (match (Region.ready md ops listed)[t % (Region.ready md ops listed).length]? with
      | some i => Region.linearise.go md ops fuel (t / (Region.ready md ops listed).length) (listed.setIfInBounds i true) [i]
      | none => [].reverse) ∈ _
    cases hr : Region.ready md ops listed with
    | nil => simp
    | cons x xs =>
      have hlt : t % (x :: xs).length < (x :: xs).length := Nat.mod_lt _ (by simp)
      rw [List.getElem?_eq_getElem hlt]
      simp only
      rw [linearise_go_acc, List.reverse_singleton, List.singleton_append]
      exact List.mem_flatMap.2 ⟨_, List.getElem_mem hlt, List.mem_map.2 ⟨_, ih _ _, rfl⟩⟩

section
variable {P : Program} {ops : Array Oper} {Q : Exit → Act → World → Prop} {md : Region.Mode}

/-- Does number i stand, by whatever road, ahead of number j? -/
def anc (md : Region.Mode) (ops : Array Oper) : Nat → Nat → Nat → Bool
  | 0, _, _ => false
  | n + 1, i, j => ((ops[j]?).map fun o => o.after.any fun e => Region.binds md e && (e.on == i || anc md ops n i e.on)).getD false
/-- All of dep that have come up stand ahead of number j. -/
def barrier (dep : List Nat) (md : Region.Mode) (ops : Array Oper) (listed : Array Bool) (j : Nat) : Bool := dep.all fun k => !listed.getD k true || anc md ops ops.size k j
/-- What has come up has all come up that it waits for. -/
def Closed (md : Region.Mode) (ops : Array Oper) (listed : Array Bool) : Prop := ∀ k o, ops[k]? = some o → listed.getD k true = true → ∀ e ∈ o.after, Region.binds md e = true → listed.getD e.on false = true
def closedB (md : Region.Mode) (ops : Array Oper) (listed : Array Bool) : Bool := (List.range ops.size).all fun k => !listed.getD k true || ((ops[k]?).map fun o => o.after.all fun e => !Region.binds md e || listed.getD e.on false).getD true
theorem closed_of {listed : Array Bool} (h : closedB md ops listed = true) : Closed md ops listed := by
  intro k o ho hk e he hb
  have hlt : k < ops.size := by
    rcases Nat.lt_or_ge k ops.size with h | h
    · exact h
    · rw [Array.getElem?_eq_none h] at ho; cases ho
  simp only [closedB, List.all_eq_true, List.mem_range] at h
  have := h k hlt
  rw [hk, ho] at this
  simp only [Bool.not_true, Bool.false_or, Option.map_some, Option.getD_some, Array.all_eq_true_iff_forall_mem, Bool.or_eq_true, Bool.not_eq_true'] at this
  rcases this e he with h | h
  · rw [hb] at h; cases h
  · exact h

theorem anc_listed {listed : Array Bool} (hc : Closed md ops listed) {i : Nat} : ∀ (n j : Nat) (o : Oper), ops[j]? = some o → (∀ e ∈ o.after, Region.binds md e = true → listed.getD e.on false = true) → anc md ops n i j = true → listed.getD i false = true
  | 0, _, _, _, _, h => by cases h
  | n + 1, j, o, ho, hall, h => by
    rw [anc, ho] at h
    simp only [Option.map_some, Option.getD_some, Array.any_eq_true', Bool.and_eq_true, Bool.or_eq_true, beq_iff_eq] at h
    obtain ⟨e, he, hb, h⟩ := h
    rcases h with h | h
    · exact h ▸ hall e he hb
    · cases ho2 : ops[e.on]? with
      | none => cases n <;> simp [anc, ho2] at h
      | some o2 =>
        have hl := hall e he hb
        have hl2 : listed.getD e.on true = true := by
          rcases Nat.lt_or_ge e.on listed.size with h' | h'
          · simp [h'] at hl ⊢; exact hl
          · simp [Array.getElem?_eq_none h'] at hl
        exact anc_listed hc n e.on o2 ho2 (hc e.on o2 ho2 hl2) h

/-- Whatever order is picked from here on; S holds of every world behind a step; behind a step S may be taken narrower; where all of dep that have come up stand ahead of the step: anew. -/
def wpE (dep : List Nat) (P : Program) (md : Region.Mode) (ops : Array Oper) (Q : Exit → Act → World → Prop) : Nat → (World → Prop) → Array Bool → Act → World → Prop
  | 0, _, listed, a, w => Region.ready md ops listed = [] ∧ Q .normal a w
  | fuel + 1, S, listed, a, w =>
    (Region.ready md ops listed = [] → Q .normal a w) ∧
    ∀ i ∈ Region.ready md ops listed, wpOp P ops Q i (fun a' w' => ∃ S' : World → Prop, (barrier dep md ops listed i = true ∨ ∀ x, S' x → S x) ∧ S' w' ∧ wpE dep P md ops Q fuel S' (listed.setIfInBounds i true) a' w') a w

variable {dep : List Nat}

theorem wpAny_of_E : ∀ (fuel : Nat) (S : World → Prop) (listed : Array Bool) (a : Act) (w : World), wpE dep P md ops Q fuel S listed a w → wpAny P md ops Q fuel listed a w
  | 0, _, _, _, _, h => h
  | fuel + 1, _, _, _, _, h => ⟨h.1, fun i hi => wpOp_mono (fun a' w' h' => by obtain ⟨S', _, _, h''⟩ := h'; exact wpAny_of_E fuel S' _ a' w' h'') (h.2 i hi)⟩

theorem narrow_yields {S S' : World → Prop} {o : Oper} {v : Value} {a : Act} (h : YieldsIf P ops S o v a) (hs : ∀ x, S' x → S x) : YieldsIf P ops S' o v a :=
  h.imp (fun ⟨h1, h2⟩ => ⟨h1, fun w hw => h2 w (hs w hw)⟩) id

theorem Closed.set {listed : Array Bool} (hc : Closed md ops listed) {j : Nat} (hj : j ∈ Region.ready md ops listed) : Closed md ops (listed.setIfInBounds j true) := by
  have up : ∀ k, listed.getD k false = true → (listed.setIfInBounds j true).getD k false = true := by
    intro k hk
    by_cases h : j = k
    · subst h
      rcases Nat.lt_or_ge j listed.size with h' | h'
      · simp [h']
      · simp [Array.getElem?_eq_none h'] at hk
    · rw [getD_set_ne false h]; exact hk
  intro k o ho hk e he hb
  by_cases h : j = k
  · subst h
    obtain ⟨_, oj, hoj, hall⟩ := mem_ready.1 hj
    rw [hoj] at ho
    cases ho
    exact up _ (hall e he hb)
  · rw [getD_set_ne true h] at hk
    exact up _ (hc k o ho hk e he hb)

theorem barrier_less {listed : Array Bool} {i j : Nat} (h : barrier dep md ops (listed.setIfInBounds i true) j = true) : barrier dep md ops listed j = true := by
  simp only [barrier, List.all_eq_true, Bool.or_eq_true, Bool.not_eq_true'] at h ⊢
  intro k hk
  rcases h k hk with h | h
  · by_cases hik : i = k
    · subst hik
      rcases Nat.lt_or_ge i listed.size with h' | h'
      · simp [h'] at h
      · simp at h
    · rw [getD_set_ne true hik] at h; exact .inl h
  · exact .inr h

/-- One that yields whatever the world. -/
theorem wpE_first0 {i : Nat} {oi : Oper} {v : Value} (hi : ops[i]? = some oi) (hsel : ∀ (j : Nat) (o : Oper) cs b, ops[j]? = some o → o.op ≠ .select cs b)
    (hQ : ∀ c a w, Q (.panic c) (a.put oi.dst v) w → Q (.panic c) a w) :
    ∀ (fuel : Nat) (S : World → Prop) (listed : Array Bool) (a : Act) (w : World),
      (∀ j oj, ops[j]? = some oj → j ≠ i → listed.getD j true = false → (∀ e ∈ oj.after, Region.binds md e = true → e.on ≠ i) → oi.apart ops oj = true) →
      i ∈ Region.ready md ops listed → YieldsIf P ops (fun _ => True) oi v a → S w →
      wpE dep P md ops Q fuel S (listed.setIfInBounds i true) (a.put oi.dst v) w → wpE dep P md ops Q (fuel + 1) S listed a w := by
  intro fuel
  induction fuel with
  | zero =>
    intro S listed a w _ hr hy hS H
    refine ⟨fun h => (by rw [h] at hr; cases hr), fun j hj => ?_⟩
    by_cases hji : j = i
    · subst hji; exact hy.wpOp hi trivial ⟨S, .inr fun _ h => h, hS, H⟩
    · have := ready_mono hj hji
      rw [H.1] at this
      cases this
  | succ fuel ih =>
    intro S listed a w hfree hr hy hS H
    refine ⟨fun h => (by rw [h] at hr; cases hr), fun j hj => ?_⟩
    by_cases hji : j = i
    · subst hji; exact hy.wpOp hi trivial ⟨S, .inr fun _ h => h, hS, H⟩
    · have h1 := H.2 j (ready_mono hj hji)
      obtain ⟨hjun, oj, hoj, hall⟩ := mem_ready.1 hj
      have hnot : ∀ e ∈ oj.after, Region.binds md e = true → e.on ≠ i := fun e he hb heq => by
        have h1 := hall e he hb
        have h0 := (mem_ready.1 hr).1
        rw [heq] at h1
        rcases Nat.lt_or_ge i listed.size with h' | h'
        · simp [h'] at h0 h1; rw [h0] at h1; cases h1
        · simp [Array.getElem?_eq_none h'] at h1
      have h2 := wpOp_putIf hoj (hfree j oj hoj hji hjun hnot) (fun cs b => hsel i oi cs b hi) (fun cs b => hsel j oj cs b hoj) hQ hy h1
      have hfree' : ∀ k ok, ops[k]? = some ok → k ≠ i → (listed.setIfInBounds j true).getD k true = false →
          (∀ e ∈ ok.after, Region.binds md e = true → e.on ≠ i) → oi.apart ops ok = true := fun k ok hk hki hun hno => by
        refine hfree k ok hk hki ?_ hno
        by_cases hjk : j = k
        · subst hjk; exact hjun
        · rw [getD_set_ne true hjk] at hun; exact hun
      refine wpOp_mono (fun a' w' h3 => ?_) h2
      obtain ⟨hy3, S', hs, hS', h4⟩ := h3
      refine ⟨S', hs.imp barrier_less id, hS', ih S' (listed.setIfInBounds j true) a' w' hfree' (ready_mono hr (Ne.symm hji)) hy3 hS' ?_⟩
      rw [Array.setIfInBounds_comm _ _ hji]
      exact h4

/-- One that yields in every world that meets S. -/
theorem wpE_first {i : Nat} {oi : Oper} {v : Value} (hi : ops[i]? = some oi) (hdep : i ∈ dep) (hsel : ∀ (j : Nat) (o : Oper) cs b, ops[j]? = some o → o.op ≠ .select cs b)
    (hQ : ∀ c a w, Q (.panic c) (a.put oi.dst v) w → Q (.panic c) a w) :
    ∀ (fuel : Nat) (S : World → Prop) (listed : Array Bool) (a : Act) (w : World), Closed md ops listed →
      (∀ j oj, ops[j]? = some oj → j ≠ i → listed.getD j true = false → (∀ e ∈ oj.after, Region.binds md e = true → e.on ≠ i) → oi.apart ops oj = true) →
      i ∈ Region.ready md ops listed → YieldsIf P ops S oi v a → S w →
      wpE dep P md ops Q fuel S (listed.setIfInBounds i true) (a.put oi.dst v) w → wpE dep P md ops Q (fuel + 1) S listed a w := by
  intro fuel
  induction fuel with
  | zero =>
    intro S listed a w _ _ hr hy hS H
    refine ⟨fun h => (by rw [h] at hr; cases hr), fun j hj => ?_⟩
    by_cases hji : j = i
    · subst hji; exact hy.wpOp hi hS ⟨S, .inr fun _ h => h, hS, H⟩
    · have := ready_mono hj hji
      rw [H.1] at this
      cases this
  | succ fuel ih =>
    intro S listed a w hcl hfree hr hy hS H
    refine ⟨fun h => (by rw [h] at hr; cases hr), fun j hj => ?_⟩
    by_cases hji : j = i
    · subst hji; exact hy.wpOp hi hS ⟨S, .inr fun _ h => h, hS, H⟩
    · have h1 := H.2 j (ready_mono hj hji)
      obtain ⟨hjun, oj, hoj, hall⟩ := mem_ready.1 hj
      have hi0 := (mem_ready.1 hr).1
      have hisz : i < listed.size := by
        rcases Nat.lt_or_ge i listed.size with h' | h'
        · exact h'
        · simp [Array.getElem?_eq_none h'] at hi0
      have hif : listed.getD i false = false := by simp [hisz] at hi0 ⊢; exact hi0
      have hnot : ∀ e ∈ oj.after, Region.binds md e = true → e.on ≠ i := fun e he hb heq => by
        have h1 := hall e he hb
        rw [heq, hif] at h1
        cases h1
      have hnb : ¬ barrier dep md ops (listed.setIfInBounds i true) j = true := by
        intro hb
        simp only [barrier, List.all_eq_true, Bool.or_eq_true, Bool.not_eq_true'] at hb
        rcases hb i hdep with h | h
        · simp [hisz] at h
        · have := anc_listed hcl _ j oj hoj hall h
          rw [hif] at this
          cases this
      have h2 := wpOp_putIf hoj (hfree j oj hoj hji hjun hnot) (fun cs b => hsel i oi cs b hi) (fun cs b => hsel j oj cs b hoj) hQ hy h1
      have hfree' : ∀ k ok, ops[k]? = some ok → k ≠ i → (listed.setIfInBounds j true).getD k true = false →
          (∀ e ∈ ok.after, Region.binds md e = true → e.on ≠ i) → oi.apart ops ok = true := fun k ok hk hki hun hno => by
        refine hfree k ok hk hki ?_ hno
        by_cases hjk : j = k
        · subst hjk; exact hjun
        · rw [getD_set_ne true hjk] at hun; exact hun
      refine wpOp_mono (fun a' w' h3 => ?_) h2
      obtain ⟨hy3, S', hs, hS', h4⟩ := h3
      have hs' := hs.resolve_left hnb
      refine ⟨S', .inr hs', hS', ih S' (listed.setIfInBounds j true) a' w' (hcl.set hj) hfree' (ready_mono hr (Ne.symm hji)) (narrow_yields hy3 hs') hS' ?_⟩
      rw [Array.setIfInBounds_comm _ _ hji]
      exact h4

/-- The n-th of a list, by its text. -/
def opAt : List Oper → Nat → Option Oper
  | [], _ => none
  | o :: _, 0 => some o
  | _ :: l, n + 1 => opAt l n
theorem opAt_eq : ∀ (l : List Oper) (n : Nat), l.toArray[n]? = opAt l n
  | [], n => by simp [opAt]
  | o :: l, 0 => by simp [opAt]
  | o :: l, n + 1 => by have := opAt_eq l n; simp [opAt] at this ⊢; exact this

/-- Take number i first: it yields v whatever the world. -/
theorem wpE_take {l : List Oper} {S : World → Prop} (i : Nat) {oi : Oper} {v : Value} {fuel : Nat} {listed : Array Bool} {a : Act} {w : World} (hi : opAt l i = some oi)
    (hs : Region.noSelect l.toArray = true) (hf : Region.free md l.toArray listed i = true) (hr : (Region.ready md l.toArray listed).contains i = true)
    (hQ : ∀ c a w, Q (.panic c) (a.put oi.dst v) w → Q (.panic c) a w) (hS : S w) (hw : Region.wanted oi (yielded l.toArray a.tmps) = true) (hy : ∀ w, (execOp a.eval oi).run P w = .ok (.value v) w)
    (h : wpE dep P md l.toArray Q fuel S (listed.setIfInBounds i true) (a.put oi.dst v) w) : wpE dep P md l.toArray Q (fuel + 1) S listed a w :=
  wpE_first0 (by rw [opAt_eq]; exact hi) (Region.noSelect_spec hs) hQ fuel S listed a w (Region.free_spec (by rw [opAt_eq]; exact hi) hf) (by simpa using hr) (.inl ⟨hw, fun w _ => hy w⟩) hS h

/-- Take number i first: in every world that meets S it yields v. -/
theorem wpE_look {l : List Oper} {S : World → Prop} (i : Nat) {oi : Oper} {v : Value} {fuel : Nat} {listed : Array Bool} {a : Act} {w : World} (hi : opAt l i = some oi) (hd : dep.contains i = true) (hc : closedB md l.toArray listed = true)
    (hs : Region.noSelect l.toArray = true) (hf : Region.free md l.toArray listed i = true) (hr : (Region.ready md l.toArray listed).contains i = true)
    (hQ : ∀ c a w, Q (.panic c) (a.put oi.dst v) w → Q (.panic c) a w) (hS : S w) (hw : Region.wanted oi (yielded l.toArray a.tmps) = true) (hy : ∀ w, S w → (execOp a.eval oi).run P w = .ok (.value v) w)
    (h : wpE dep P md l.toArray Q fuel S (listed.setIfInBounds i true) (a.put oi.dst v) w) : wpE dep P md l.toArray Q (fuel + 1) S listed a w :=
  wpE_first (by rw [opAt_eq]; exact hi) (by simpa using hd) (Region.noSelect_spec hs) hQ fuel S listed a w (closed_of hc) (Region.free_spec (by rw [opAt_eq]; exact hi) hf) (by simpa using hr) (.inl ⟨hw, hy⟩) hS h

/-- Take number i first: its guard says no. -/
theorem wpE_skip {l : List Oper} {S : World → Prop} (i : Nat) {oi : Oper} {fuel : Nat} {listed : Array Bool} {a : Act} {w : World} (hi : opAt l i = some oi)
    (hs : Region.noSelect l.toArray = true) (hf : Region.free md l.toArray listed i = true) (hr : (Region.ready md l.toArray listed).contains i = true)
    (hQ : ∀ c a w, Q (.panic c) (a.put oi.dst undef) w → Q (.panic c) a w) (hS : S w) (hw : Region.wanted oi (yielded l.toArray a.tmps) = false)
    (h : wpE dep P md l.toArray Q fuel S (listed.setIfInBounds i true) (a.put oi.dst undef) w) : wpE dep P md l.toArray Q (fuel + 1) S listed a w :=
  wpE_first0 (by rw [opAt_eq]; exact hi) (Region.noSelect_spec hs) hQ fuel S listed a w (Region.free_spec (by rw [opAt_eq]; exact hi) hf) (by simpa using hr) (.inr ⟨hw, rfl⟩) hS h

/-- Number i alone may come up: carry it out; behind it S may be narrower. -/
theorem wpE_exec {l : List Oper} {S : World → Prop} (i : Nat) {oi : Oper} {fuel : Nat} {listed : Array Bool} {a : Act} {w : World} (hi : opAt l i = some oi) (hr : Region.ready md l.toArray listed = [i])
    (hw : Region.wanted oi (yielded l.toArray a.tmps) = true)
    (h : ∀ K : Act → World → Prop, (∀ a' w' (S' : World → Prop), (barrier dep md l.toArray listed i = true ∨ ∀ x, S' x → S x) → S' w' → wpE dep P md l.toArray Q fuel S' (listed.setIfInBounds i true) a' w' → K a' w') → oi.wp P a w K Q) : wpE dep P md l.toArray Q (fuel + 1) S listed a w := by
  refine ⟨fun h0 => (by rw [h0] at hr; cases hr), fun j hj => ?_⟩
  rw [hr] at hj
  obtain rfl : j = i := by simpa using hj
  unfold wpOp
  simp only [opAt_eq, hi, hw, if_true]
  exact .inl (h _ fun a' w' S' h1 h2 h3 => ⟨S', h1, h2, h3⟩)

/-- Number i or number j may come up. -/
theorem wpE_exec2 {l : List Oper} {S : World → Prop} (i j : Nat) {oi oj : Oper} {fuel : Nat} {listed : Array Bool} {a : Act} {w : World} (hi : opAt l i = some oi) (hj : opAt l j = some oj) (hr : Region.ready md l.toArray listed = [i, j])
    (hwi : Region.wanted oi (yielded l.toArray a.tmps) = true) (hwj : Region.wanted oj (yielded l.toArray a.tmps) = true)
    (h1 : ∀ K : Act → World → Prop, (∀ a' w' (S' : World → Prop), (barrier dep md l.toArray listed i = true ∨ ∀ x, S' x → S x) → S' w' → wpE dep P md l.toArray Q fuel S' (listed.setIfInBounds i true) a' w' → K a' w') → oi.wp P a w K Q)
    (h2 : ∀ K : Act → World → Prop, (∀ a' w' (S' : World → Prop), (barrier dep md l.toArray listed j = true ∨ ∀ x, S' x → S x) → S' w' → wpE dep P md l.toArray Q fuel S' (listed.setIfInBounds j true) a' w' → K a' w') → oj.wp P a w K Q) : wpE dep P md l.toArray Q (fuel + 1) S listed a w := by
  refine ⟨fun h0 => (by rw [h0] at hr; cases hr), fun k hk => ?_⟩
  rw [hr] at hk
  simp only [List.mem_cons, List.not_mem_nil, or_false] at hk
  rcases hk with rfl | rfl
  · unfold wpOp
    simp only [opAt_eq, hi, hwi, if_true]
    exact .inl (h1 _ fun a' w' S' h1 h2 h3 => ⟨S', h1, h2, h3⟩)
  · unfold wpOp
    simp only [opAt_eq, hj, hwj, if_true]
    exact .inl (h2 _ fun a' w' S' h1 h2 h3 => ⟨S', h1, h2, h3⟩)

theorem wpE_done {S : World → Prop} {listed : Array Bool} {a : Act} {w : World} (hr : Region.ready md ops listed = []) (h : Q .normal a w) : ∀ fuel, wpE dep P md ops Q fuel S listed a w
  | 0 => ⟨hr, h⟩
  | _ + 1 => ⟨fun _ => h, by rw [hr]; simp⟩

/-- What 'string(b)' yields. -/
theorem yields_string {src dst e : TypeId} (hs : P.underlying src = some (.slice e)) (he : P.underlying e = some (.int .u8)) (hd : P.underlying dst = some .string) {o : Oper} {a : Act} {x : Operand} (hop : o.op = .convert src dst x)
    {v : Option Addr} {n c : Nat} (hx : a.eval x = .slice v n c) {l : List UInt8} (hn : n = l.length) {w : World} (hr : Rd w v (bs l)) : (execOp a.eval o).run P w = .ok (.value (.string (str l))) w := by
  subst hn
  unfold execOp
  simp only [hop, hx, Sem.run_bind, run_string_of (P := P) (c := c) hs he hd hr, Result.andThen_ok, Sem.run_pure]

/-- The operations of these numbers, in this order. -/
def picked (l : List Oper) : List Nat → List Oper
  | [] => []
  | j :: js => match opAt l j with
    | some o => o :: picked l js
    | none => picked l js

theorem wpOps_picked (l : List Oper) : ∀ (js : List Nat) (a : Act) (w : World), wpList P l.toArray Q (picked l js) a w → wpOps P l.toArray Q js a w := by
  intro js
  induction js with
  | nil => intro a w h; exact h
  | cons j js ih =>
    intro a w h
    simp only [picked] at h
    simp only [wpOps, opAt_eq]
    cases ho : opAt l j with
    | none => rw [ho] at h; exact ih a w h
    | some o =>
      rw [ho] at h
      simp only [wpList] at h
      simp only
      split
      · rename_i hw
        rw [if_pos hw] at h
        exact h.imp (Oper.wp_mono (fun a w h => ih a w h)) id
      · rename_i hw
        rw [if_neg hw] at h
        exact ih _ _ h

/-- A small region: each of its orders by itself. -/
theorem wp_region_lin {l : List Oper} {id : Nat} {a : Act} {w : World} (hm : P.follows .mixedOrders = true) (ls : List (List Nat)) (hl : allLin .any l.toArray l.length (List.replicate l.length false).toArray = ls)
    (h : ∀ js ∈ ls, wpList P l.toArray Q (picked l js) a w.drew) : (Code.region id l.toArray true).wp P Q a w :=
  wp_region_draw fun t => by
    have hmem : Region.schedule (P.follows .mixedOrders) l.toArray t ∈ ls := by
      rw [← hl]
      simp only [Region.schedule, hm, Bool.true_or, if_true]
      have := mem_allLin .any l.toArray l.toArray.size t (Array.replicate l.toArray.size false)
      simpa [Region.linearise] using this
    exact wpOps_picked l _ a _ (h _ hmem)

/-- The beginning. -/
theorem wp_region_E (dep : List Nat) (S : World → Prop) {l : List Oper} {id : Nat} {a : Act} {w : World} (hm : P.follows .mixedOrders = true)
    (h : wpE dep P .any l.toArray Q l.length S (List.replicate l.length false).toArray a w.drew) : (Code.region id l.toArray true).wp P Q a w :=
  wp_region_any hm (by
    have := wpAny_of_E _ _ _ _ _ h
    simpa using this)

end
end Go.Esc
