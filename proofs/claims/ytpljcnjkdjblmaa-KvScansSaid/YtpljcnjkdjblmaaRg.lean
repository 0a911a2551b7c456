/- A loop over an iterator that gathers first and then hands out one by one. Of no program. -/
import Derived.Test.YtpljcnjkdjblmaaRegionG
import Derived.Test.YtpljcnjkdjblmaaMk
import Derived.RangeFuncLeaves
import Derived.RangeFuncSeq
import Derived.RangeFuncBound
namespace Go.Esc
open Go.RowKit
set_option linter.unusedVariables false
variable {P : Program}

theorem Ext.putObj {S : Nat → Prop} (w : World) (l : Nat) (o : Obj) (hs : S l) : Ext S w (w.putObj l o) :=
  ⟨rfl, rfl, rfl, by simp, fun k _ hn => World.putObj_heap_other (fun e => hn (e ▸ hs))⟩
/-- The loop's own two blocks: what its rounds defer; its record. -/
def own2 (w : World) : Nat → Prop := fun k => k = w.heap.size ∨ k = w.heap.size + 1
/-- How a round's body may be left. -/
def rgPost (S : Nat → Prop) (x0 : Nat) (I : World → Prop) (Ix : World → Prop) (W : World) : Exit → Act → World → Prop
  | .normal, _, W' => Ext S W W' ∧ I W'
  | .exit id, _, W' => id = x0 ∧ Ext S W W' ∧ Ix W'
  | _, _, _ => False
/-- What an iterator promises that gathers xs first (in blocks of its own) and then hands them out, one by one; M: where the heap ended when it had gathered; the rounds write N's blocks, their own and what they laid. -/
def Gives {α : Type} (P : Program) (gf : Nat) (lb : Array Value) (encs : α → Array Value) (xs : List α) (N : Nat → Prop) (w : World) : Prop :=
  ∀ (l : Nat) (J : Nat → Nat → World → Prop) (Jx : World → Prop) (W : World), Ext no w W → w.heap.size ≤ l → l < W.heap.size →
    (∀ W', Ext no W W' → J W'.heap.size 0 W') → (∀ M i A B, J M i A → Ext no A B → J M i B) →
    (∀ M i x W1, W.heap.size ≤ M → J M i W1 → xs[i]? = some x → YieldAt Fence.wide 0 P l (encs x) W1 fun e W' => (e = .returned (.bool true) ∧ J M (i + 1) W' ∧ Ext (fun k => N k ∨ k = l ∨ M ≤ k) W1 W') ∨ (e = .returned (.bool false) ∧ Jx W')) →
    Calls P gf (#[.func (.yield l) #[] #[]] ++ lb) W fun e W' => (∃ v, e = .returned v) ∧ ((∃ M, W.heap.size ≤ M ∧ J M xs.length W') ∨ Jx W')

theorem wp_rangeFunc_gives {α : Type} {g : Operand} {ps : Array Tmp} {assign body : Code} {Q : Exit → Act → World → Prop} {a : Act} {w : World}
    {gf : Nat} {lb : Array Value} (hg : a.eval g = .func (.func gf) #[] lb) (eg : ∀ args w, (callFunc gf args).run P w = .ok (.enter gf args) w)
    {encs : α → Array Value} {xs : List α} (hps : ∀ x, (encs x).size = ps.size) {N : Nat → Prop} (hN : ∀ k, N k → k < w.heap.size) (hseq : Gives P gf lb encs xs N w)
    (x0 : Nat) (I : Nat → Nat → World → Prop) (Ix : World → Prop) (hI0 : ∀ W', Ext no w W' → I W'.heap.size 0 W')
    (hIs : ∀ M i A B, w.heap.size + 2 ≤ M → I M i A → Ext (own2 w) A B → I M i B) (hIxs : ∀ A B, Ix A → Ext (own2 w) A B → Ix B)
    (a₁ : α → Act)
    (hassign : ∀ (l : Nat) (x : α) (W : World) (K : Act → World → Prop), K (a₁ x) W →
      assign.wpIn (Fence.wide.inRound l) 0 P (Exit.then K (fun _ _ _ => False)) { tmps := (ps.zip (encs x)).foldl (fun t (p, v) => t.setIfInBounds p v) a.tmps, defers := [] } W)
    (hbody : ∀ (l M i : Nat) (x : α) (W : World), w.heap.size + 2 ≤ M → M ≤ W.heap.size → I M i W → xs[i]? = some x → body.wpIn (Fence.wide.inRound l) 0 P (rgPost (fun k => N k ∨ M ≤ k) x0 (I M (i + 1)) Ix W) (a₁ x) W)
    (hdone : ∀ (D M : Nat) (W : World), w.heap.size ≤ D → D < w.heap.size + 2 → w.heap.size + 2 ≤ M → D < W.heap.size → I M xs.length W → W.heap[D]? = some (.deferred (some [])) → Q .normal { a with defers := { target := .collected D, args := #[] } :: a.defers } W)
    (hstop : ∀ (D : Nat) (W : World), w.heap.size ≤ D → D < w.heap.size + 2 → D < W.heap.size → Ix W → W.heap[D]? = some (.deferred (some [])) → Q (.exit x0) { a with defers := { target := .collected D, args := #[] } :: a.defers } W) :
    (Code.rangeFunc g ps assign body).wp P Q a w := by
  refine (wpIn_wide (n := 0)).1 (wpIn_rangeFunc ?_)
  intro fn hfn
  obtain ⟨rec, hrec⟩ : ∃ rec : LoopState → Option Code → Loop, rec = fun st pe => { state := st, pending := pe, fn, tmps := a.tmps, params := ps, assign, body, defers := w.heap.size } := ⟨_, rfl⟩
  obtain ⟨W1, hW1⟩ : ∃ W1, (w.alloc (.deferred (some []))).alloc (.loop (rec .ready none)) = W1 := ⟨_, rfl⟩
  have hL1 : W1.heap[w.heap.size + 1]? = some (.loop (rec .ready none)) := by
    rw [← hW1]; have := World.alloc_heap_new (w.alloc (.deferred (some []))) (.loop (rec .ready none)); rwa [World.size_alloc] at this
  have hK1 : W1.heap[w.heap.size]? = some (.deferred (some [])) := by
    rw [← hW1]; exact (Below.heap_alloc _ _ _ (by simp)).trans (World.alloc_heap_new w _)
  have hx1 : Ext no w W1 := by rw [← hW1]; exact (Ext.alloc no w _).comp (Ext.alloc no _ _)
  have hs1 : W1.heap.size = w.heap.size + 2 := by rw [← hW1]; simp
  refine ⟨w.heap.size + 1, [{ target := .collected w.heap.size, args := #[] }], W1, { target := .fn (.func gf) lb, args := #[.func (.yield (w.heap.size + 1)) #[] #[]] }, W1, gf,
    #[.func (.yield (w.heap.size + 1)) #[] #[]] ++ lb, W1, ?_, ?_, fun _ _ => trivial, ?_, fun _ => (by simp [Fence.wide] at *), ?_⟩
  · rw [← hW1, hrec]; exact run_enterLoop_outer _ _ _ _ _
  · simp only [resolve, hg]
    simp [go_sem]
  · simp [invoke, go_sem, eg]
  · have keepL : ∀ {S : Nat → Prop} {A B : World} {k : Nat} {o : Obj}, Ext S A B → ¬ S k → A.heap[k]? = some o → B.heap[k]? = some o :=
      fun hx hn hk => (hx.block _ (Array.getElem?_eq_some_iff.1 hk).1 hn).trans hk
    refine callsIn_wide.2 ((hseq (w.heap.size + 1)
      (fun M i W => (w.heap.size + 2 ≤ M ∧ M ≤ W.heap.size) ∧ I M i W ∧ W.heap[w.heap.size + 1]? = some (.loop (rec .ready none)) ∧ W.heap[w.heap.size]? = some (.deferred (some [])))
      (fun W => Ix W ∧ W.heap[w.heap.size + 1]? = some (.loop (rec .done (some (.exit x0)))) ∧ W.heap[w.heap.size]? = some (.deferred (some [])))
      W1 hx1 (by omega) (by omega)
      (fun W' hx => ⟨⟨by have := hx.size; omega, Nat.le_refl _⟩, hI0 W' (hx1.comp hx), keepL hx (fun h => h) hL1, keepL hx (fun h => h) hK1⟩)
      (fun M i A B hs hx => ⟨⟨hs.1.1, Nat.le_trans hs.1.2 hx.size⟩, hIs M i A B hs.1.1 hs.2.1 (hx.mono (fun _ _ h => h.elim)), keepL hx (fun h => h) hs.2.2.1, keepL hx (fun h => h) hs.2.2.2⟩)
      ?_).mono ?_)
    · -- a round
      rintro M i x W hM1 ⟨⟨hM, hMW⟩, hi, hl, hk⟩ hxi
      have hlt : w.heap.size + 1 < W.heap.size := (Array.getElem?_eq_some_iff.1 hl).1
      have hy := run_yield (P := P) (args := encs x) hl (by rw [hrec]; exact hps x)
      rw [hrec] at hy
      refine ⟨fn, _, assign, body, hy, roundIn_of_wpIn trivial (hassign _ x W _ ⟨_, run_beginRound hl (by rw [hrec]), ?_⟩)⟩
      have hl2 : (W.putObj (w.heap.size + 1) (.loop { rec .ready none with state := .busy })).heap[w.heap.size + 1]? = some (.loop { rec .ready none with state := .busy }) := World.putObj_heap_same hlt
      have hk2 : (W.putObj (w.heap.size + 1) (.loop { rec .ready none with state := .busy })).heap[w.heap.size]? = some (.deferred (some [])) := (World.putObj_heap_other (by omega)).trans hk
      have hx2 : Ext (own2 w) W (W.putObj (w.heap.size + 1) (.loop { rec .ready none with state := .busy })) := Ext.putObj _ _ _ (.inr rfl)
      have hy2 : Ext (fun k => N k ∨ k = w.heap.size + 1 ∨ M ≤ k) W (W.putObj (w.heap.size + 1) (.loop { rec .ready none with state := .busy })) := Ext.putObj _ _ _ (.inr (.inl rfl))
      refine wpIn_mono (hbody _ M i x _ hM (by rw [World.putObj_size]; exact hMW) (hIs M i _ _ hM hi hx2) hxi) ?_
      have nS : ∀ k, k = w.heap.size ∨ k = w.heap.size + 1 → ¬ (N k ∨ M ≤ k) := by
        rintro k hk' (h | h)
        · have := hN k h; omega
        · omega
      have fin : ∀ (jump : Option Code) (W3 : World), Ext (fun k => N k ∨ M ≤ k) (W.putObj (w.heap.size + 1) (.loop { rec .ready none with state := .busy })) W3 →
          (Instr.endRound (w.heap.size + 1) jump).run P W3 = .ok (.bool jump.isNone) (W3.putObj (w.heap.size + 1) (.loop (rec (if jump.isNone then .ready else .done) jump))) ∧
          (W3.putObj (w.heap.size + 1) (.loop (rec (if jump.isNone then .ready else .done) jump))).heap[w.heap.size + 1]? = some (.loop (rec (if jump.isNone then .ready else .done) jump)) ∧
          (W3.putObj (w.heap.size + 1) (.loop (rec (if jump.isNone then .ready else .done) jump))).heap[w.heap.size]? = some (.deferred (some [])) := fun jump W3 hx3 => by
        have hl3 := keepL hx3 (nS _ (.inr rfl)) hl2
        have := run_endRound (P := P) jump hl3
        rw [hrec] at this ⊢
        exact ⟨this, World.putObj_heap_same (Array.getElem?_eq_some_iff.1 hl3).1, (World.putObj_heap_other (by omega)).trans (keepL hx3 (nS _ (.inl rfl)) hk2)⟩
      rintro e a3 W3 hp
      cases e with
      | normal =>
        obtain ⟨hx3, hi3⟩ := hp
        obtain ⟨hr, hl4, hk4⟩ := fin none W3 hx3
        have hx4 : Ext (own2 w) W3 (W3.putObj (w.heap.size + 1) (.loop (rec (if (none : Option Code).isNone then .ready else .done) none))) := Ext.putObj _ _ _ (.inr rfl)
        refine ⟨_, _, hr, .inl ⟨rfl, ⟨⟨hM, by rw [World.putObj_size]; exact Nat.le_trans (by rw [World.putObj_size]; exact hMW) hx3.size⟩, hIs M (i + 1) _ _ hM hi3 hx4, hl4, hk4⟩, ?_⟩⟩
        exact (hy2.comp (hx3.mono (fun k _ h => h.imp id .inr))).comp (Ext.putObj _ _ _ (.inr (.inl rfl)))
      | exit id =>
        obtain ⟨rfl, hx3, hi3⟩ := hp
        obtain ⟨hr, hl4, hk4⟩ := fin (some (.exit id)) W3 hx3
        exact ⟨_, _, hr, .inr ⟨rfl, hIxs _ _ hi3 (Ext.putObj _ _ _ (.inr rfl)), hl4, hk4⟩⟩
      | ret => exact hp.elim
      | goto t => exact hp.elim
      | panic ch => exact hp.elim
      | outgrown => exact hp.elim
    · -- behind the iterator
      rintro e W2 ⟨⟨v, rfl⟩, (⟨M, _, ⟨hM, hMW⟩, hi, hl, hk⟩ | ⟨hi, hl, hk⟩)⟩
      · have hx4 : Ext (own2 w) W2 (W2.putObj (w.heap.size + 1) (.loop { rec .ready none with state := .exhausted })) := Ext.putObj _ _ _ (.inr rfl)
        have hkl := (Array.getElem?_eq_some_iff.1 hk).1
        refine ⟨none, _, by have := run_endLoop (P := P) hl (by rw [hrec]; simp); rw [hrec] at this; exact this, ?_⟩
        have := hdone w.heap.size M _ (Nat.le_refl _) (by omega) hM (by rw [World.putObj_size]; omega) (hIs M _ _ _ hM hi hx4) ((World.putObj_heap_other (by omega)).trans hk)
        rw [hrec] at this
        exact this
      · have hx4 : Ext (own2 w) W2 (W2.putObj (w.heap.size + 1) (.loop { rec .done (some (.exit x0)) with state := .exhausted })) := Ext.putObj _ _ _ (.inr rfl)
        have hkl := (Array.getElem?_eq_some_iff.1 hk).1
        refine ⟨some (.exit x0), _, by have := run_endLoop (P := P) hl (by rw [hrec]; simp); rw [hrec] at this; exact this, wpIn_exit ?_⟩
        have := hstop w.heap.size _ (Nat.le_refl _) (by omega) (by rw [World.putObj_size]; omega) (hIxs _ _ hi hx4) ((World.putObj_heap_other (by omega)).trans hk)
        rw [hrec] at this
        exact this
end Go.Esc
