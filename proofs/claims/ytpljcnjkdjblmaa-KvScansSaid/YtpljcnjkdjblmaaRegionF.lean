/- A statement whose order Go leaves open, walked in one order: each load has a condition of its own; a call that leaves the world as it is may be taken first. Of no program. -/
import Derived.Test.YtpljcnjkdjblmaaRegion
import Derived.Test.YtpljcnjkdjblmaaRegionB
namespace Go.Esc
open Go.RowKit

section
variable {P : Program} {ops : Array Oper} {Q : Exit → Act → World → Prop} {md : Region.Mode}

/-- Leaves v, at once or by a call, and the world as it is. -/
def YieldsG (P : Program) (ops : Array Oper) (S : World → Prop) (o : Oper) (v : Value) (a : Act) : Prop :=
  (Region.wanted o (yielded ops a.tmps) = true ∧ ∀ w, S w → (execOp a.eval o).run P w = .ok (.value v) w ∨ ∃ f args, (execOp a.eval o).run P w = .ok (.enter f args) w ∧ Calls P f args w (fun e w' => e = .returned v ∧ w = w')) ∨
  (Region.wanted o (yielded ops a.tmps) = false ∧ v = undef)
theorem YieldsG.narrow {S S' : World → Prop} {o : Oper} {v : Value} {a : Act} (h : YieldsG P ops S o v a) (hs : ∀ x, S' x → S x) : YieldsG P ops S' o v a :=
  h.imp (fun ⟨h1, h2⟩ => ⟨h1, fun w hw => h2 w (hs w hw)⟩) id
theorem YieldsG.same {S : World → Prop} {o : Oper} {v : Value} {a a' : Act} (h : YieldsG P ops S o v a) (he : execOp a'.eval o = execOp a.eval o) (hw : Region.wanted o (yielded ops a'.tmps) = Region.wanted o (yielded ops a.tmps)) : YieldsG P ops S o v a' := by
  unfold YieldsG at *
  rw [he, hw]; exact h
theorem YieldsG.go {S : World → Prop} {i : Nat} {o : Oper} {v : Value} {a : Act} (hi : ops[i]? = some o) (h : YieldsG P ops S o v a) {K : Act → World → Prop} {w : World} (hS : S w) (hk : K (a.put o.dst v) w) : wpOp P ops Q i K a w := by
  unfold wpOp
  rw [hi]
  rcases h with ⟨hw, hv⟩ | ⟨hw, rfl⟩
  · simp only [hw, if_true]
    refine .inl ?_
    unfold Oper.wp
    rcases hv w hS with h1 | ⟨f, args, h1, h2⟩
    · rw [h1]; exact hk
    · rw [h1]
      refine Calls.mono h2 fun e w' he => ?_
      obtain ⟨rfl, rfl⟩ := he
      exact hk
  · simp only [hw, Bool.false_eq_true, if_false]; exact hk
/-- What is apart from it does not mind. -/
theorem wpOp_aside {S : World → Prop} {j : Nat} {oi oj : Oper} {v : Value} (hj : ops[j]? = some oj) (hap : oi.apart ops oj = true) (hsi : ∀ cs b, oi.op ≠ .select cs b) (hsj : ∀ cs b, oj.op ≠ .select cs b)
    (hQ : ∀ c a w, Q (.panic c) (a.put oi.dst v) w → Q (.panic c) a w) {K : Act → World → Prop} {a : Act} {w : World} (hy : YieldsG P ops S oi v a) (h : wpOp P ops Q j K (a.put oi.dst v) w) :
    wpOp P ops Q j (fun a' w' => YieldsG P ops S oi v a' ∧ K (a'.put oi.dst v) w') a w := by
  obtain ⟨h1, h2, h3⟩ := Oper.apart_spec hap
  have stay : ∀ u, YieldsG P ops S oi v (a.put oj.dst u) := fun u => hy.same (execOp_put oi hsi a oj.dst u h3) (wanted_put oi a oj.dst u h3)
  have stayD : ∀ d u, YieldsG P ops S oi v (({ a with defers := d :: a.defers } : Act).put oj.dst u) := fun d u =>
    (YieldsG.same (a' := { a with defers := d :: a.defers }) hy rfl rfl).same (execOp_put oi hsi _ oj.dst u h3) (wanted_put oi _ oj.dst u h3)
  unfold wpOp at *
  simp only [hj] at *
  rw [wanted_put oj a oi.dst v h1] at h
  by_cases hw : Region.wanted oj (yielded ops a.tmps) = true
  · rw [if_pos hw] at h ⊢
    rcases h with h | ⟨hk, hl⟩
    · refine .inl ?_
      unfold Oper.wp at *
      rw [execOp_put oj hsj a oi.dst v h1] at h
      cases hr : (execOp a.eval oj).run P w with
      | ok n w' =>
        rw [hr] at h
        cases n <;> simp only [Oper.upon] at h ⊢
        case value u => exact ⟨stay u, by rw [← Act.put_comm a v u h2]; exact h⟩
        case skip => exact ⟨stay _, by rw [← Act.put_comm a v undef h2]; exact h⟩
        case defer d => exact ⟨stayD d _, by rw [← Act.put_comm _ v undef h2, ← Act.put_defers]; exact h⟩
        case enter f args =>
          refine Calls.mono h fun e w'' he => ?_
          cases e with
          | returned u => exact ⟨stay u, by rw [← Act.put_comm a v u h2]; exact he⟩
          | panicked c => exact hQ _ _ _ he
          | outgrown => exact he
        case row row args => exact Rows.mono h fun u w'' he => ⟨stay u, by rw [← Act.put_comm a v u h2]; exact he⟩
      | halt x w' =>
        rw [hr] at h
        cases x <;> simp only [Oper.upon] at h ⊢
        case panic u => exact hQ _ _ _ h
    · exact .inr ⟨by unfold Oper.asks at *; rw [execOp_put oj hsj a oi.dst v h1] at hk; exact hk, hl⟩
  · rw [if_neg hw] at h ⊢
    exact ⟨stay _, by rw [← Act.put_comm a v undef h2]; exact h⟩

/-- Of each load that has come up: it stands ahead of number j, or its condition is kept. -/
def Steps (md : Region.Mode) (ops : Array Oper) (listed : Array Bool) (j : Nat) (S S' : Nat → World → Prop) : List Nat → Prop
  | [] => True
  | k :: ks => (listed.getD k true = false ∨ anc md ops ops.size k j = true ∨ ∀ x, S' k x → S k x) ∧ Steps md ops listed j S S' ks
theorem Steps.of {listed : Array Bool} {j : Nat} {S S' : Nat → World → Prop} : ∀ {dep : List Nat}, Steps md ops listed j S S' dep → ∀ k ∈ dep, listed.getD k true = false ∨ anc md ops ops.size k j = true ∨ ∀ x, S' k x → S k x
  | k :: ks, h, i, hi => by
    rcases List.mem_cons.1 hi with rfl | hi
    · exact h.1
    · exact Steps.of h.2 i hi
theorem Steps.mk {listed : Array Bool} {j : Nat} {S S' : Nat → World → Prop} : ∀ {dep : List Nat}, (∀ k ∈ dep, listed.getD k true = false ∨ anc md ops ops.size k j = true ∨ ∀ x, S' k x → S k x) → Steps md ops listed j S S' dep
  | [], _ => trivial
  | k :: ks, h => ⟨h k (by simp), Steps.mk (fun i hi => h i (by simp [hi]))⟩
theorem Steps.refl {listed : Array Bool} {j : Nat} {S : Nat → World → Prop} {dep : List Nat} : Steps md ops listed j S S dep := Steps.mk fun _ _ => .inr (.inr fun _ h => h)

def wpF (dep : List Nat) (P : Program) (md : Region.Mode) (ops : Array Oper) (Q : Exit → Act → World → Prop) : Nat → (Nat → World → Prop) → Array Bool → Act → World → Prop
  | 0, _, listed, a, w => Region.ready md ops listed = [] ∧ Q .normal a w
  | fuel + 1, S, listed, a, w =>
    (Region.ready md ops listed = [] → Q .normal a w) ∧
    ∀ i ∈ Region.ready md ops listed, wpOp P ops Q i (fun a' w' => ∃ S' : Nat → World → Prop, Steps md ops listed i S S' dep ∧ (∀ k, S' k w') ∧ wpF dep P md ops Q fuel S' (listed.setIfInBounds i true) a' w') a w

variable {dep : List Nat}

theorem wpAny_of_F : ∀ (fuel : Nat) (S : Nat → World → Prop) (listed : Array Bool) (a : Act) (w : World), wpF dep P md ops Q fuel S listed a w → wpAny P md ops Q fuel listed a w
  | 0, _, _, _, _, h => h
  | fuel + 1, _, _, _, _, h => ⟨h.1, fun i hi => wpOp_mono (fun a' w' h' => by obtain ⟨S', _, _, h''⟩ := h'; exact wpAny_of_F fuel S' _ a' w' h'') (h.2 i hi)⟩

theorem wpF_first {i : Nat} {oi : Oper} {v : Value} (hi : ops[i]? = some oi) (hsel : ∀ (j : Nat) (o : Oper) cs b, ops[j]? = some o → o.op ≠ .select cs b)
    (hQ : ∀ c a w, Q (.panic c) (a.put oi.dst v) w → Q (.panic c) a w) :
    ∀ (fuel : Nat) (S : Nat → World → Prop) (T : World → Prop) (listed : Array Bool) (a : Act) (w : World), ((∀ x, T x) ∨ (i ∈ dep ∧ Closed md ops listed ∧ T = S i)) →
      (∀ j oj, ops[j]? = some oj → j ≠ i → listed.getD j true = false → (∀ e ∈ oj.after, Region.binds md e = true → e.on ≠ i) → oi.apart ops oj = true) →
      i ∈ Region.ready md ops listed → YieldsG P ops T oi v a → (∀ k, S k w) →
      wpF dep P md ops Q fuel S (listed.setIfInBounds i true) (a.put oi.dst v) w → wpF dep P md ops Q (fuel + 1) S listed a w := by
  intro fuel
  induction fuel with
  | zero =>
    intro S T listed a w hT hfree hr hy hS H
    have hTw : T w := hT.elim (fun h => h w) (fun h => h.2.2 ▸ hS i)
    refine ⟨fun h => (by rw [h] at hr; cases hr), fun j hj => ?_⟩
    by_cases hji : j = i
    · subst hji; exact hy.go hi hTw ⟨S, Steps.refl, hS, H⟩
    · have := ready_mono hj hji
      rw [H.1] at this
      cases this
  | succ fuel ih =>
    intro S T listed a w hT hfree hr hy hS H
    have hTw : T w := hT.elim (fun h => h w) (fun h => h.2.2 ▸ hS i)
    refine ⟨fun h => (by rw [h] at hr; cases hr), fun j hj => ?_⟩
    by_cases hji : j = i
    · subst hji; exact hy.go hi hTw ⟨S, Steps.refl, hS, H⟩
    · have h1 := H.2 j (ready_mono hj hji)
      obtain ⟨hjun, oj, hoj, hall⟩ := mem_ready.1 hj
      have hi0 := (mem_ready.1 hr).1
      have hisz : i < listed.size := by
        rcases Nat.lt_or_ge i listed.size with h' | h'
        · exact h'
        · simp [Array.getElem?_eq_none h'] at hi0
      have hif : listed.getD i false = false := by simp [hisz] at hi0 ⊢; exact hi0
      have hnot : ∀ e ∈ oj.after, Region.binds md e = true → e.on ≠ i := fun e he hb heq => by
        have h1 := hall e he hb
        rw [heq, hif] at h1
        cases h1
      have h2 := wpOp_aside hoj (hfree j oj hoj hji hjun hnot) (fun cs b => hsel i oi cs b hi) (fun cs b => hsel j oj cs b hoj) hQ hy h1
      have hfree' : ∀ k ok, ops[k]? = some ok → k ≠ i → (listed.setIfInBounds j true).getD k true = false →
          (∀ e ∈ ok.after, Region.binds md e = true → e.on ≠ i) → oi.apart ops ok = true := fun k ok hk hki hun hno => by
        refine hfree k ok hk hki ?_ hno
        by_cases hjk : j = k
        · subst hjk; exact hjun
        · rw [getD_set_ne true hjk] at hun; exact hun
      refine wpOp_mono (fun a' w' h3 => ?_) h2
      obtain ⟨hy3, S', hs, hS', h4⟩ := h3
      have hs0 : Steps md ops listed j S S' dep := Steps.mk fun k hk => by
        rcases hs.of k hk with h | h
        · by_cases hik : i = k
          · subst hik; simp [hisz] at h
          · rw [getD_set_ne true hik] at h; exact .inl h
        · exact .inr h
      have h5 : wpF dep P md ops Q fuel S' ((listed.setIfInBounds j true).setIfInBounds i true) (a'.put oi.dst v) w' := by
        rw [Array.setIfInBounds_comm _ _ hji]; exact h4
      rcases hT with hT | ⟨hd, hcl, rfl⟩
      · exact ⟨S', hs0, hS', ih S' T (listed.setIfInBounds j true) a' w' (.inl hT) hfree' (ready_mono hr (Ne.symm hji)) hy3 hS' h5⟩
      · have hkeep : ∀ x, S' i x → S i x := by
          rcases hs.of i hd with h | h | h
          · simp [hisz] at h
          · have := anc_listed hcl _ j oj hoj hall h
            rw [hif] at this; cases this
          · exact h
        exact ⟨S', hs0, hS', ih S' (S' i) (listed.setIfInBounds j true) a' w' (.inr ⟨hd, hcl.set hj, rfl⟩) hfree' (ready_mono hr (Ne.symm hji)) (hy3.narrow hkeep) hS' h5⟩

/-- Take number i first: it yields v whatever the world. -/
theorem wpF_take {l : List Oper} {S : Nat → World → Prop} (i : Nat) {oi : Oper} {v : Value} {fuel : Nat} {listed : Array Bool} {a : Act} {w : World} (hi : opAt l i = some oi)
    (hs : Region.noSelect l.toArray = true) (hf : Region.free md l.toArray listed i = true) (hr : (Region.ready md l.toArray listed).contains i = true)
    (hQ : ∀ c a w, Q (.panic c) (a.put oi.dst v) w → Q (.panic c) a w) (hS : ∀ k, S k w) (hw : Region.wanted oi (yielded l.toArray a.tmps) = true) (hy : ∀ w, (execOp a.eval oi).run P w = .ok (.value v) w)
    (h : wpF dep P md l.toArray Q fuel S (listed.setIfInBounds i true) (a.put oi.dst v) w) : wpF dep P md l.toArray Q (fuel + 1) S listed a w :=
  wpF_first (by rw [opAt_eq]; exact hi) (Region.noSelect_spec hs) hQ fuel S (fun _ => True) listed a w (.inl fun _ => trivial) (Region.free_spec (by rw [opAt_eq]; exact hi) hf) (by simpa using hr) (.inl ⟨hw, fun w _ => .inl (hy w)⟩) hS h
/-- Take number i first: a call that yields v whatever the world. -/
theorem wpF_call {l : List Oper} {S : Nat → World → Prop} (i : Nat) {oi : Oper} {v : Value} (f : FuncId) (args : Array Value) {fuel : Nat} {listed : Array Bool} {a : Act} {w : World} (hi : opAt l i = some oi)
    (hs : Region.noSelect l.toArray = true) (hf : Region.free md l.toArray listed i = true) (hr : (Region.ready md l.toArray listed).contains i = true)
    (hQ : ∀ c a w, Q (.panic c) (a.put oi.dst v) w → Q (.panic c) a w) (hS : ∀ k, S k w) (hw : Region.wanted oi (yielded l.toArray a.tmps) = true)
    (hy : ∀ w, (execOp a.eval oi).run P w = .ok (.enter f args) w) (hc : ∀ w, Calls P f args w (fun e w' => e = .returned v ∧ w = w'))
    (h : wpF dep P md l.toArray Q fuel S (listed.setIfInBounds i true) (a.put oi.dst v) w) : wpF dep P md l.toArray Q (fuel + 1) S listed a w :=
  wpF_first (by rw [opAt_eq]; exact hi) (Region.noSelect_spec hs) hQ fuel S (fun _ => True) listed a w (.inl fun _ => trivial) (Region.free_spec (by rw [opAt_eq]; exact hi) hf) (by simpa using hr) (.inl ⟨hw, fun w _ => .inr ⟨f, args, hy w, hc w⟩⟩) hS h
/-- Take number i first: in every world that meets its condition it yields v. -/
theorem wpF_look {l : List Oper} {S : Nat → World → Prop} (i : Nat) {oi : Oper} {v : Value} {fuel : Nat} {listed : Array Bool} {a : Act} {w : World} (hi : opAt l i = some oi) (hd : dep.contains i = true) (hc : closedB md l.toArray listed = true)
    (hs : Region.noSelect l.toArray = true) (hf : Region.free md l.toArray listed i = true) (hr : (Region.ready md l.toArray listed).contains i = true)
    (hQ : ∀ c a w, Q (.panic c) (a.put oi.dst v) w → Q (.panic c) a w) (hS : ∀ k, S k w) (hw : Region.wanted oi (yielded l.toArray a.tmps) = true) (hy : ∀ w, S i w → (execOp a.eval oi).run P w = .ok (.value v) w)
    (h : wpF dep P md l.toArray Q fuel S (listed.setIfInBounds i true) (a.put oi.dst v) w) : wpF dep P md l.toArray Q (fuel + 1) S listed a w :=
  wpF_first (by rw [opAt_eq]; exact hi) (Region.noSelect_spec hs) hQ fuel S (S i) listed a w (.inr ⟨by simpa using hd, closed_of hc, rfl⟩) (Region.free_spec (by rw [opAt_eq]; exact hi) hf) (by simpa using hr) (.inl ⟨hw, fun w hw' => .inl (hy w hw')⟩) hS h
/-- Take number i first: its guard says no. -/
theorem wpF_skip {l : List Oper} {S : Nat → World → Prop} (i : Nat) {oi : Oper} {fuel : Nat} {listed : Array Bool} {a : Act} {w : World} (hi : opAt l i = some oi)
    (hs : Region.noSelect l.toArray = true) (hf : Region.free md l.toArray listed i = true) (hr : (Region.ready md l.toArray listed).contains i = true)
    (hQ : ∀ c a w, Q (.panic c) (a.put oi.dst undef) w → Q (.panic c) a w) (hS : ∀ k, S k w) (hw : Region.wanted oi (yielded l.toArray a.tmps) = false)
    (h : wpF dep P md l.toArray Q fuel S (listed.setIfInBounds i true) (a.put oi.dst undef) w) : wpF dep P md l.toArray Q (fuel + 1) S listed a w :=
  wpF_first (by rw [opAt_eq]; exact hi) (Region.noSelect_spec hs) hQ fuel S (fun _ => True) listed a w (.inl fun _ => trivial) (Region.free_spec (by rw [opAt_eq]; exact hi) hf) (by simpa using hr) (.inr ⟨hw, rfl⟩) hS h
/-- These may come up. -/
theorem wpF_execs {l : List Oper} {S : Nat → World → Prop} (js : List Nat) {fuel : Nat} {listed : Array Bool} {a : Act} {w : World} (hr : Region.ready md l.toArray listed = js) (hne : js ≠ [])
    (h : ∀ j ∈ js, ∃ oj, opAt l j = some oj ∧ Region.wanted oj (yielded l.toArray a.tmps) = true ∧
      ∀ K : Act → World → Prop, (∀ a' w' (S' : Nat → World → Prop), Steps md l.toArray listed j S S' dep → (∀ k, S' k w') → wpF dep P md l.toArray Q fuel S' (listed.setIfInBounds j true) a' w' → K a' w') → oj.wp P a w K Q) : wpF dep P md l.toArray Q (fuel + 1) S listed a w := by
  refine ⟨fun h0 => absurd (hr.symm.trans h0) hne, fun j hj => ?_⟩
  rw [hr] at hj
  obtain ⟨oj, h1, h2, h3⟩ := h j hj
  unfold wpOp
  simp only [opAt_eq, h1, h2, if_true]
  exact .inl (h3 _ fun a' w' S' hs hS' hw => ⟨S', hs, hS', hw⟩)
theorem wpF_exec {l : List Oper} {S : Nat → World → Prop} (i : Nat) {oi : Oper} {fuel : Nat} {listed : Array Bool} {a : Act} {w : World} (hi : opAt l i = some oi) (hr : Region.ready md l.toArray listed = [i])
    (hw : Region.wanted oi (yielded l.toArray a.tmps) = true)
    (h : ∀ K : Act → World → Prop, (∀ a' w' (S' : Nat → World → Prop), Steps md l.toArray listed i S S' dep → (∀ k, S' k w') → wpF dep P md l.toArray Q fuel S' (listed.setIfInBounds i true) a' w' → K a' w') → oi.wp P a w K Q) : wpF dep P md l.toArray Q (fuel + 1) S listed a w :=
  wpF_execs [i] hr (by simp) (fun j hj => by simp at hj; subst hj; exact ⟨oi, hi, hw, h⟩)
theorem wpF_done {S : Nat → World → Prop} {listed : Array Bool} {a : Act} {w : World} (hr : Region.ready md ops listed = []) (h : Q .normal a w) : ∀ fuel, wpF dep P md ops Q fuel S listed a w
  | 0 => ⟨hr, h⟩
  | _ + 1 => ⟨fun _ => h, by rw [hr]; simp⟩

/-- Conditions by number. -/
def looks : List (Nat × (World → Prop)) → Nat → World → Prop
  | [], _, _ => True
  | (k, T) :: L, n, x => cond (Nat.beq n k) (T x) (looks L n x)
def allLooks : List (Nat × (World → Prop)) → World → Prop
  | [], _ => True
  | (_, T) :: L, x => T x ∧ allLooks L x
theorem looks_all : ∀ {L : List (Nat × (World → Prop))} {x : World}, allLooks L x → ∀ n, looks L n x
  | [], _, _, _ => trivial
  | (k, T) :: L, x, h, n => by
    unfold looks
    cases Nat.beq n k
    · exact looks_all h.2 n
    · exact h.1

/-- The beginning. -/
theorem wp_region_F (dep : List Nat) (S : Nat → World → Prop) {l : List Oper} {id : Nat} {a : Act} {w : World} (hm : P.follows .mixedOrders = true)
    (h : wpF dep P .any l.toArray Q l.length S (List.replicate l.length false).toArray a w.drew) : (Code.region id l.toArray true).wp P Q a w :=
  wp_region_any hm (by
    have := wpAny_of_F _ _ _ _ _ h
    simpa using this)
end
end Go.Esc
