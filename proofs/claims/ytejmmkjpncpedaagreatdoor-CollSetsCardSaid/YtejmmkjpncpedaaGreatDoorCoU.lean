/- Registers, identifiers, plainly: what CollRegs, CollBinds do. -/
import Derived.Test.YtejmmkjpncpedaaGreatDoorCoT
namespace Go.Esc
open Go.RowKit
set_option linter.unusedSimpArgs false

def regText (d n : Nat) : List UInt8 := [UInt8.ofNat (97 + d), UInt8.ofNat (48 + n % 10), UInt8.ofNat (97 + n / 10)]
theorem regText_ok : ∀ d, d < 6 → ∀ n, n < 21 → textOk (regText d n) = true := by decide
def regOp (d n : Nat) (t : Int) : OpR := ⟨⟨d, 1, n⟩, 0, 3, 1, [107], regText d n, 0, t, []⟩
theorem setL_mem {l : List RegR} {o : OpR} {x : RegR} (h : x ∈ setL l o) : x = regOf o ∨ x ∈ l := by
  unfold setL at h
  split at h
  · split at h
    · rcases List.mem_or_eq_of_mem_set h with h | h
      · exact .inr h
      · exact .inl h
    · exact .inr h
  · exact putAt_mem h
theorem bindL_mem {l : List BindR} {o : OpR} {x : BindR} (h : x ∈ bindL l o) : x = bindOf o ∨ x ∈ l := by
  unfold bindL at h
  split at h
  · split at h
    · rcases List.mem_or_eq_of_mem_set h with h | h
      · exact .inr h
      · exact .inl h
    · exact .inr h
  · exact putAt_mem h
def bump (n : Nat → Nat) (d : Nat) : Nat → Nat := fun i => if i = d then n d + 1 else n i
structure Regs (i : Nat) (C : CollR) (best who : Int) (n : Nat → Nat) : Prop where
  fine : C.fine
  sm : C.small (8 * i)
  saw : ∀ d : Nat, d < 6 → seen C.v d 1 = n d
  le : ∀ d, n d ≤ i
  bw : -1 ≤ best ∧ best < 6 ∧ 0 ≤ who ∧ who < 6
  tx : ∀ x ∈ C.regs, x.text.length ≤ 1099511627776 ∧ I64ok x.ver
  st : (i = 0 ∧ best = -1 ∧ who = 0 ∧ C.regs = []) ∨ (0 < i ∧ 0 ≤ best ∧ ∃ (w s : Nat) (text : List UInt8), who = w ∧ C.regs = [⟨[107], text, 3, best, ⟨who, 1, s⟩⟩] ∧ s ≤ n w)
theorem regs_nil : Regs 0 CollR.nil (-1) 0 (fun _ => 0) := ⟨CollR.fine_nil, CollR.small_nil, fun d hd => rfl, fun d => Nat.le_refl _, by omega, (fun x hx => by cases hx), .inl ⟨rfl, rfl, rfl, rfl⟩⟩
theorem seen_bump {C : CollR} (hv : Rise DotR.pair pairLt C.v) {n : Nat → Nat} (h : ∀ d : Nat, d < 6 → seen C.v d 1 = n d) (d : Nat) (e : Nat) (he : e < 6) : seen (stepV C.v ⟨d, 1, (n d + 1 : Nat)⟩) e 1 = bump n d e := by
  rw [seen_step hv _ (by show (0 : Int) ≤ ((n d + 1 : Nat) : Int); omega)]
  have hp : (((e : Int), (1 : Int)) = (DotR.mk d 1 ((n d + 1 : Nat) : Int)).pair) ↔ e = d := by
    show (((e : Int), (1 : Int)) = ((d : Int), (1 : Int))) ↔ _
    rw [Prod.mk.injEq]
    omega
  unfold bump
  have hse := h e he
  by_cases e1 : e = d
  · rw [if_pos (hp.2 e1), if_pos e1, hse]
    subst e1
    show max ((n e : Nat) : Int) ((n e + 1 : Nat) : Int) = _
    omega
  · rw [if_neg (fun h => e1 (hp.1 h)), if_neg e1, hse]
theorem bump_le {n : Nat → Nat} {i : Nat} (h : ∀ d, n d ≤ i) (d e : Nat) : bump n d e ≤ i + 1 := by
  unfold bump
  have := h d
  have := h e
  split <;> omega
theorem step_zero {C : CollR} {n : Nat → Nat} (h : ∀ d : Nat, d < 6 → seen C.v d 1 = n d) (d : Nat) (hd : d < 6) : stepErr C.v ⟨d, 1, (n d + 1 : Nat)⟩ = 0 := by
  rw [stepErr_zero]
  refine ⟨⟨?_, ?_, ?_⟩, ?_⟩
  · show (0 : Int) ≤ d; omega
  · show (0 : Int) ≤ 1; omega
  · show (1 : Int) ≤ ((n d + 1 : Nat) : Int); omega
  · show seen C.v d 1 < ((n d + 1 : Nat) : Int)
    rw [h d hd]; omega
theorem regOp_ok (d n : Nat) (hd : d < 6) (hn : n < 21) (h1 : 1 ≤ n) (t : Int) (h0 : 0 ≤ t) (h6 : t < 6) : checkOp (regOp d n t) = 0 := by
  unfold checkOp
  have hh : headOk (regOp d n t) := by
    unfold headOk regOp
    simp only
    omega
  rw [if_neg (fun e => e hh), if_neg (fun e => e (by show (1 : Int) ≤ 1 ∧ (1 : Int) ≤ 5; omega)), if_neg (fun e => e ⟨(by decide : textOk [107] = true), regText_ok d hd n hn⟩)]
  unfold kindErr
  have hk : (regOp d n t).kind = 1 := rfl
  have hy : (regOp d n t).key ≠ [] := by show ([107] : List UInt8) ≠ []; decide
  rw [if_neg (fun e => hy e.2), hk]
  rfl
theorem setL_one (o : OpR) (r : RegR) (hk : r.key = o.key) : setL [r] o = if younger o r = true then [regOf o] else [r] := by
  unfold setL look
  rw [List.find?_cons]
  have hp : posOf RegR.key Op.bytesLess o.key [r] = 0 := by
    rw [posOf_cons, hk, bytesOrd.irr]; rfl
  rw [hp]
  simp [hk]
theorem setL_nil (o : OpR) : setL [] o = [regOf o] := rfl
theorem Regs.step {i : Nat} {C : CollR} {best who : Int} {n : Nat → Nat} (h : Regs i C best who n) (hi : i < 20) (t : Int) (d : Nat) (ht : 0 ≤ t ∧ t < 6) (hd : d < 6) :
    applyErr C (regOp d (n d + 1) t) = 0 ∧ (best < t ∨ (t = best ∧ who ≤ d) → Regs (i + 1) (applyC C (regOp d (n d + 1) t)) t d (bump n d) ∧ (applyC C (regOp d (n d + 1) t)).regs = [regOf (regOp d (n d + 1) t)]) ∧
      (¬ (best < t ∨ (t = best ∧ who ≤ d)) → Regs (i + 1) (applyC C (regOp d (n d + 1) t)) best who (bump n d)) := by
  have hnd := h.le d
  have he : applyErr C (regOp d (n d + 1) t) = 0 := applyErr_zero.2 ⟨regOp_ok d _ hd (by omega) (by omega) t ht.1 ht.2, step_zero h.saw d hd⟩
  have hbw := h.bw
  have hr : (applyC C (regOp d (n d + 1) t)).regs = setL C.regs (regOp d (n d + 1) t) := by rw [applyC_regs he, if_pos (show (regOp d (n d + 1) t).kind = 1 from rfl)]
  have hyes : best < t ∨ (t = best ∧ who ≤ d) → setL C.regs (regOp d (n d + 1) t) = [regOf (regOp d (n d + 1) t)] := by
    intro hc
    rcases h.st with ⟨_, _, _, h0⟩ | ⟨_, _, w, s, text, hw, h0, hs⟩
    · rw [h0]; rfl
    · rw [h0, setL_one _ _ rfl, if_pos]
      unfold younger
      rw [Bool.or_eq_true, Bool.and_eq_true, decide_eq_true_iff, decide_eq_true_iff]
      rcases hc with hc | ⟨rfl, hc⟩
      · exact .inl hc
      · refine .inr ⟨rfl, ?_⟩
        show DotR.lt ⟨who, 1, s⟩ ⟨d, 1, ((n d + 1 : Nat) : Int)⟩ = true
        unfold DotR.lt
        by_cases e : who = d
        · have : w = d := by omega
          subst this
          rw [if_neg (by simp [e]), if_neg (by simp)]
          simp only [decide_eq_true_eq]
          omega
        · rw [if_pos e, decide_eq_true_iff]
          show who < (d : Int)
          omega
  have hno : ¬ (best < t ∨ (t = best ∧ who ≤ d)) → setL C.regs (regOp d (n d + 1) t) = C.regs ∧ 0 < i := by
    intro hc
    rcases h.st with ⟨hi0, hb, hw, h0⟩ | ⟨hi0, _, w, s, text, hw, h0, hs⟩
    · exact absurd (.inl (by omega)) hc
    · refine ⟨?_, hi0⟩
      rw [h0, setL_one _ _ rfl, if_neg]
      unfold younger
      rw [Bool.or_eq_true, Bool.and_eq_true, decide_eq_true_iff, decide_eq_true_iff]
      rintro (hy | ⟨hy, hz⟩)
      · exact hc (.inl hy)
      · have hy : t = best := hy
        have hz : DotR.lt ⟨who, 1, s⟩ ⟨d, 1, ((n d + 1 : Nat) : Int)⟩ = true := hz
        refine hc (.inr ⟨hy, ?_⟩)
        unfold DotR.lt at hz
        split at hz
        · simp only [decide_eq_true_eq] at hz; omega
        · rename_i e
          have e : who = d := Classical.not_not.1 e
          omega
  have htx : ∀ x ∈ (applyC C (regOp d (n d + 1) t)).regs, x.text.length ≤ 1099511627776 ∧ I64ok x.ver := by
    intro x hx
    rw [hr] at hx
    rcases setL_mem hx with rfl | hx
    · exact ⟨by show (regText d (n d + 1)).length ≤ _; simp [regText], by show I64ok 3; unfold I64ok; omega⟩
    · exact h.tx x hx
  refine ⟨he, fun hc => ⟨⟨h.fine.apply _, (h.sm.apply _).mono (by omega), fun e he6 => ?_, fun e => bump_le h.le d e, by omega, htx, .inr ⟨by omega, by omega, d, n d + 1, regText d (n d + 1), rfl, ?_, ?_⟩⟩, ?_⟩, fun hc => ⟨h.fine.apply _, (h.sm.apply _).mono (by omega), fun e he6 => ?_, fun e => bump_le h.le d e, hbw, htx, ?_⟩⟩
  · rw [applyC_v he]; exact seen_bump h.fine.v h.saw d e he6
  · rw [hr, hyes hc]; rfl
  · unfold bump; rw [if_pos rfl]; exact Nat.le_refl _
  · rw [hr, hyes hc]
  · rw [applyC_v he]; exact seen_bump h.fine.v h.saw d e he6
  · obtain ⟨h1, h2⟩ := hno hc
    rcases h.st with ⟨hi0, _, _, _⟩ | ⟨_, hb, w, s, text, hw, h0, hs⟩
    · omega
    · refine .inr ⟨by omega, hb, w, s, text, hw, by rw [hr, h1, h0], ?_⟩
      unfold bump
      split
      · rename_i e; subst e; omega
      · exact hs

/-- Identifiers. -/
def bindText (d : Nat) : List UInt8 := [UInt8.ofNat (97 + d)]
theorem bindText_ok : ∀ d, d < 6 → textOk (bindText d) = true := by decide
def bindOp (d n : Nat) (id : Int) : OpR := ⟨⟨d, 1, n⟩, 0, 1, 5, [], bindText d, id, 0, []⟩
theorem bindOp_ok (d n : Nat) (hd : d < 6) (hn : n < 21) (h1 : 1 ≤ n) (t : Int) (h0 : 0 ≤ t) (h6 : t < 3) : checkOp (bindOp d n t) = 0 := by
  unfold checkOp
  have hh : headOk (bindOp d n t) := by
    unfold headOk bindOp
    simp only
    omega
  rw [if_neg (fun e => e hh), if_neg (fun e => e (by show (1 : Int) ≤ 5 ∧ (5 : Int) ≤ 5; omega)), if_neg (fun e => e ⟨(by decide : textOk [] = true), bindText_ok d hd⟩)]
  unfold kindErr
  have hk : (bindOp d n t).kind = 5 := rfl
  rw [if_neg (fun e => e.1 hk), if_neg (by rw [hk]; decide), if_neg (by rw [hk]; decide), if_pos hk, if_pos]
  show 0 ≤ t ∧ t ≤ 999
  omega
/-- What identifier id says: the least of the devices that spoke of it, one more than its number; 0 where none did. -/
structure Binds (i : Nat) (C : CollR) (who : Nat → Nat) (n : Nat → Nat) : Prop where
  fine : C.fine
  sm : C.small (8 * i)
  saw : ∀ d : Nat, d < 6 → seen C.v d 1 = n d
  le : ∀ d, n d ≤ i
  six : ∀ k, who k ≤ 6
  tx : ∀ x ∈ C.binds, x.text.length ≤ 1099511627776 ∧ I64ok x.ver
  st : ∀ k : Nat, k < 3 → (who k = 0 ∧ look BindR.id (k : Int) C.binds = none) ∨ (∃ w s : Nat, who k = w + 1 ∧ look BindR.id (k : Int) C.binds = some ⟨k, bindText w, 1, ⟨w, 1, s⟩⟩ ∧ s ≤ n w)
theorem binds_nil : Binds 0 CollR.nil (fun _ => 0) (fun _ => 0) := ⟨CollR.fine_nil, CollR.small_nil, fun d hd => rfl, fun d => Nat.le_refl _, fun _ => by omega, (fun x hx => by cases hx), fun k hk => .inl ⟨rfl, rfl⟩⟩
def least (who : Nat → Nat) (id d : Nat) : Nat → Nat := fun k => if k = id then (if who id = 0 ∨ d + 1 < who id then d + 1 else who id) else who k
theorem bindL_look {C : CollR} (h : C.fine) {o : OpR} (he : applyErr C o = 0) (hk : o.kind = 5) (id : Int) : look BindR.id id (applyC C o).binds = if id = o.n then some (bindG o (look BindR.id o.n C.binds)) else look BindR.id id C.binds := by
  rw [applyC_binds he, if_pos hk, bindL_lay h.b]
  unfold layG
  rw [layAt_look intOrd h.b, bindG_key o _ (fun x hx => (look_key hx).1)]
theorem Binds.step {i : Nat} {C : CollR} {who n : Nat → Nat} (h : Binds i C who n) (hi : i < 20) (id d : Nat) (hid : id < 3) (hd : d < 6) :
    applyErr C (bindOp d (n d + 1) id) = 0 ∧ Binds (i + 1) (applyC C (bindOp d (n d + 1) id)) (least who id d) (bump n d) := by
  have hnd := h.le d
  have he : applyErr C (bindOp d (n d + 1) id) = 0 := applyErr_zero.2 ⟨bindOp_ok d _ hd (by omega) (by omega) id (by omega) (by omega), step_zero h.saw d hd⟩
  refine ⟨he, h.fine.apply _, (h.sm.apply _).mono (by omega), fun e he6 => ?_, fun e => bump_le h.le d e, fun k => ?_, fun x hx => ?_, fun k hk => ?_⟩
  · rw [applyC_v he]; exact seen_bump h.fine.v h.saw d e he6
  · unfold least
    have := h.six k
    have := h.six id
    split
    · split <;> omega
    · omega
  · rw [applyC_binds he, if_pos (show (bindOp d (n d + 1) id).kind = 5 from rfl)] at hx
    rcases bindL_mem hx with rfl | hx
    · exact ⟨by show (bindText d).length ≤ _; simp [bindText], by show I64ok 1; unfold I64ok; omega⟩
    · exact h.tx x hx
  · rw [bindL_look h.fine he rfl]
    have hn : (bindOp d (n d + 1) id).n = id := rfl
    rw [hn]
    have up : ∀ (w s : Nat), s ≤ n w → s ≤ bump n d w := by
      intro w s hs
      unfold bump
      split
      · rename_i e; subst e; omega
      · exact hs
    unfold least
    by_cases e : k = id
    · subst e
      rw [if_pos rfl, if_pos rfl]
      rcases h.st k hk with ⟨h0, h1⟩ | ⟨w, s, h0, h1, h2⟩
      · rw [if_pos (.inl h0), h1]
        exact .inr ⟨d, n d + 1, rfl, rfl, by unfold bump; rw [if_pos rfl]; exact Nat.le_refl _⟩
      · rw [h1, h0]
        by_cases e2 : d < w
        · rw [if_pos (by omega)]
          refine .inr ⟨d, n d + 1, rfl, ?_, by unfold bump; rw [if_pos rfl]; exact Nat.le_refl _⟩
          simp only [bindG]
          rw [if_pos]
          · rfl
          · show DotR.lt ⟨d, 1, ((n d + 1 : Nat) : Int)⟩ ⟨w, 1, s⟩ = true
            unfold DotR.lt
            rw [if_pos (by show (d : Int) ≠ w; omega), decide_eq_true_iff]
            show (d : Int) < w
            omega
        · rw [if_neg (by omega)]
          refine .inr ⟨w, s, rfl, ?_, up w s h2⟩
          simp only [bindG]
          rw [if_neg]
          show ¬ DotR.lt ⟨d, 1, ((n d + 1 : Nat) : Int)⟩ ⟨w, 1, s⟩ = true
          unfold DotR.lt
          by_cases e3 : d = w
          · subst e3
            rw [if_neg (by simp), if_neg (by simp)]
            simp only [decide_eq_true_eq]
            omega
          · rw [if_pos (by show (d : Int) ≠ w; omega), decide_eq_true_iff]
            show ¬ (d : Int) < w
            omega
    · rw [if_neg e, if_neg (show ¬ (k : Int) = (id : Int) by omega)]
      rcases h.st k hk with ⟨h0, h1⟩ | ⟨w, s, h0, h1, h2⟩
      · exact .inl ⟨h0, h1⟩
      · exact .inr ⟨w, s, h0, h1, up w s h2⟩
end Go.Esc
