/- What a cut slice yields, in a region that draws its order: of no program. -/
import Derived.Test.YtpljcnjkdjblmaaRegion
namespace Go.Esc
open Go.RowKit
variable {P : Program} {a : Act} {w : World}
theorem yields_cut_h {t e : TypeId} {z : Value} {k by' : Nat} (T : SlT P t e z k by') {o : Oper} {x hi : Operand} (hop : o.op = .slice t x none (some hi) none) {sa : Option Addr} {n c : Nat} (hx : a.eval x = .slice sa n c) {kh : IntKind} {h' : Int}
    (hh : a.eval hi = .int kh h') (h : Nat) (eh : h' = h) (h2 : h ≤ c) : (execOp a.eval o).run P w = .ok (.value (.slice sa h c)) w := by
  subst eh
  unfold execOp
  simp only [hop, hx, hh, Option.map_some, Option.map_none, Sem.run_bind, run_cut_h T w sa n c kh h h2, Result.andThen_ok, Sem.run_pure]
theorem yields_cut_l {t e : TypeId} {z : Value} {k by' : Nat} (T : SlT P t e z k by') {o : Oper} {x lo : Operand} (hop : o.op = .slice t x (some lo) none none) {sa : Option Addr} {n c : Nat} (hx : a.eval x = .slice sa n c) {kl : IntKind} {l' : Int}
    (hl : a.eval lo = .int kl l') (l : Nat) (el : l' = l) (h1 : l ≤ n) : (execOp a.eval o).run P w = .ok (.value (.slice (cutAt sa c l k) (n - l) (c - l))) w := by
  subst el
  unfold execOp
  simp only [hop, hx, hl, Option.map_some, Option.map_none, Sem.run_bind, run_cut_l T w sa n c kl l h1, Result.andThen_ok, Sem.run_pure]
theorem yields_cut_lh {t e : TypeId} {z : Value} {k by' : Nat} (T : SlT P t e z k by') {o : Oper} {x lo hi : Operand} (hop : o.op = .slice t x (some lo) (some hi) none) {sa : Option Addr} {n c : Nat} (hx : a.eval x = .slice sa n c) {kl kh : IntKind} {l' h' : Int}
    (hl : a.eval lo = .int kl l') (hh : a.eval hi = .int kh h') (l h : Nat) (el : l' = l) (eh : h' = h) (h1 : l ≤ h) (h2 : h ≤ c) : (execOp a.eval o).run P w = .ok (.value (.slice (cutAt sa c l k) (h - l) (c - l))) w := by
  subst el
  subst eh
  unfold execOp
  simp only [hop, hx, hl, hh, Option.map_some, Option.map_none, Sem.run_bind, run_cut_lh T w sa n c kl kh l h h1 h2, Result.andThen_ok, Sem.run_pure]

/-- append, as an operation of a region. -/
theorem op_append {K : Act → World → Prop} {Q : Exit → Act → World → Prop} {o : Oper} {t e : TypeId} {z : Value} {k by' : Nat} (T : SlT P t e z k by')
    {s x : Operand} (hop : o.op = .call { callee := .builtin .append, args := #[s, x], argTypes := #[t, t] })
    {B n c : Nat} {sa : Option Addr} {xs : List Value} (hs : a.eval s = .slice sa n c) (ho : Own w B sa k n c xs)
    {xa : Option Addr} {m cx : Nat} {ys : List Value} (hx : a.eval x = .slice xa m cx) (hr : Rd w xa ys) (hl : ys.length = m * k) (h1 : ∀ u ∈ ys, u.oneCell' = true)
    (h63 : n + m ≤ maxLen) (hby : (n + m) * by' ≤ 140737488355328) (hB : B ≤ w.heap.size)
    (h : ∀ sa' c' w', App w w' B k sa n c xs sa' c' m ys → K (a.put o.dst (.slice sa' (n + m) c')) w') : o.wp P a w K Q := by
  obtain ⟨sa', c', w', hrun, h2⟩ := run_append (P := P) (ty := o.type) T ho (cx := cx) hr hl h1 h63 hby hB
  unfold Oper.wp execOp
  simp only [hop, resolve, invoke, builtin, Sem.run_bind, Sem.run_pure, Result.andThen_ok, List.map_toArray, List.map_cons, List.map_nil, hs, hx, hrun]
  exact h _ _ _ h2

/-- A slice literal, as an operation of a region. -/
theorem op_build {K : Act → World → Prop} {Q : Exit → Act → World → Prop} {o : Oper} {t e : TypeId} {n : Nat} {parts : Array (Nat × Operand)} (hop : o.op = .buildSlice t n parts) (cs : Array Value)
    (hf : ∀ w, (Instr.buildSlice t n (parts.map fun (i, x) => (i, a.eval x))).run P w = .ok (.slice (some ⟨w.heap.size, 0, none⟩) n n) (w.alloc (.cells cs e)))
    (h : ∀ ad w', Rd w' (some ad) cs.toList → Ext no w w' → w.heap.size ≤ ad.block → ad.block < w'.heap.size → K (a.put o.dst (.slice (some ad) n n)) w') : o.wp P a w K Q := by
  unfold Oper.wp execOp
  simp only [hop, Sem.run_bind, hf, Result.andThen_ok, Sem.run_pure]
  exact h _ _ (Rd.lit w cs e (0, 0)) (Ext.alloc no w _) (Nat.le_refl _) (by simp)
/-- An empty one, which the call owns. -/
theorem op_build0 {K : Act → World → Prop} {Q : Exit → Act → World → Prop} {o : Oper} {t e : TypeId} {n : Nat} {parts : Array (Nat × Operand)} (hop : o.op = .buildSlice t n parts) (hn : n = 0) (B : Nat) (hB : B ≤ w.heap.size)
    (hf : ∀ w, (Instr.buildSlice t n (parts.map fun (i, x) => (i, a.eval x))).run P w = .ok (.slice (some ⟨w.heap.size, 0, none⟩) n n) (w.alloc (.cells #[] e)))
    (h : ∀ ad w', Own w' B (some ad) 1 0 0 [] → Ext no w w' → w.heap.size ≤ ad.block → ad.block < w'.heap.size → K (a.put o.dst (.slice (some ad) 0 0)) w') : o.wp P a w K Q := by
  subst hn
  unfold Oper.wp execOp
  simp only [hop, Sem.run_bind, hf, Result.andThen_ok, Sem.run_pure]
  exact h _ _ (Own.fresh w B _ _ _ _ _ _ _ hB (by simp) (Nat.le_refl _) (Nat.zero_le _) (by simp) (by simp) (.inl (Nat.le_refl _))) (Ext.alloc no w _) (Nat.le_refl _) (by simp)

/-- Any of these may come up. -/
theorem wpE_execs {dep : List Nat} {md : Region.Mode} {Q : Exit → Act → World → Prop} {l : List Oper} {S : World → Prop} (js : List Nat) {fuel : Nat} {listed : Array Bool} {a : Act} {w : World} (hr : Region.ready md l.toArray listed = js) (hne : js ≠ [])
    (h : ∀ j ∈ js, ∃ oj, opAt l j = some oj ∧ Region.wanted oj (yielded l.toArray a.tmps) = true ∧
      ∀ K : Act → World → Prop, (∀ a' w' (S' : World → Prop), (barrier dep md l.toArray listed j = true ∨ ∀ x, S' x → S x) → S' w' → wpE dep P md l.toArray Q fuel S' (listed.setIfInBounds j true) a' w' → K a' w') → oj.wp P a w K Q) : wpE dep P md l.toArray Q (fuel + 1) S listed a w := by
  refine ⟨fun h0 => absurd (hr.symm.trans h0) hne, fun j hj => ?_⟩
  rw [hr] at hj
  obtain ⟨oj, h1, h2, h3⟩ := h j hj
  unfold wpOp
  simp only [opAt_eq, h1, h2, if_true]
  exact .inl (h3 _ fun a' w' S' h1 h2 h3 => ⟨S', h1, h2, h3⟩)
end Go.Esc
