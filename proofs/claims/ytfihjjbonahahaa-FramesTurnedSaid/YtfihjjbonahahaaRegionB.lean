/- What a cut slice yields, in a region that draws its order: of no program. -/
import Derived.Test.YtfihjjbonahahaaRegion
namespace Go.Esc
open Go.RowKit
variable {P : Program} {a : Act} {w : World}
theorem yields_cut_h {t e : TypeId} {z : Value} {k by' : Nat} (T : SlT P t e z k by') {o : Oper} {x hi : Operand} (hop : o.op = .slice t x none (some hi) none) {sa : Option Addr} {n c : Nat} (hx : a.eval x = .slice sa n c) {kh : IntKind} {h' : Int}
    (hh : a.eval hi = .int kh h') (h : Nat) (eh : h' = h) (h2 : h ≤ c) : (execOp a.eval o).run P w = .ok (.value (.slice sa h c)) w := by
  subst eh
  unfold execOp
  simp only [hop, hx, hh, Option.map_some, Option.map_none, Sem.run_bind, run_cut_h T w sa n c kh h h2, Result.andThen_ok, Sem.run_pure]
theorem yields_cut_l {t e : TypeId} {z : Value} {k by' : Nat} (T : SlT P t e z k by') {o : Oper} {x lo : Operand} (hop : o.op = .slice t x (some lo) none none) {sa : Option Addr} {n c : Nat} (hx : a.eval x = .slice sa n c) {kl : IntKind} {l' : Int}
    (hl : a.eval lo = .int kl l') (l : Nat) (el : l' = l) (h1 : l ≤ n) : (execOp a.eval o).run P w = .ok (.value (.slice (cutAt sa c l k) (n - l) (c - l))) w := by
  subst el
  unfold execOp
  simp only [hop, hx, hl, Option.map_some, Option.map_none, Sem.run_bind, run_cut_l T w sa n c kl l h1, Result.andThen_ok, Sem.run_pure]
theorem yields_cut_lh {t e : TypeId} {z : Value} {k by' : Nat} (T : SlT P t e z k by') {o : Oper} {x lo hi : Operand} (hop : o.op = .slice t x (some lo) (some hi) none) {sa : Option Addr} {n c : Nat} (hx : a.eval x = .slice sa n c) {kl kh : IntKind} {l' h' : Int}
    (hl : a.eval lo = .int kl l') (hh : a.eval hi = .int kh h') (l h : Nat) (el : l' = l) (eh : h' = h) (h1 : l ≤ h) (h2 : h ≤ c) : (execOp a.eval o).run P w = .ok (.value (.slice (cutAt sa c l k) (h - l) (c - l))) w := by
  subst el
  subst eh
  unfold execOp
  simp only [hop, hx, hl, hh, Option.map_some, Option.map_none, Sem.run_bind, run_cut_lh T w sa n c kl kh l h h1 h2, Result.andThen_ok, Sem.run_pure]

/-- append, as an operation of a region. -/
theorem op_append {K : Act → World → Prop} {Q : Exit → Act → World → Prop} {o : Oper} {t e : TypeId} {z : Value} {k by' : Nat} (T : SlT P t e z k by')
    {s x : Operand} (hop : o.op = .call { callee := .builtin .append, args := #[s, x], argTypes := #[t, t] })
    {B n c : Nat} {sa : Option Addr} {xs : List Value} (hs : a.eval s = .slice sa n c) (ho : Own w B sa k n c xs)
    {xa : Option Addr} {m cx : Nat} {ys : List Value} (hx : a.eval x = .slice xa m cx) (hr : Rd w xa ys) (hl : ys.length = m * k) (h1 : ∀ u ∈ ys, u.oneCell' = true)
    (h63 : n + m ≤ maxLen) (hby : (n + m) * by' ≤ 140737488355328) (hB : B ≤ w.heap.size)
    (h : ∀ sa' c' w', App w w' B k sa n c xs sa' c' m ys → K (a.put o.dst (.slice sa' (n + m) c')) w') : o.wp P a w K Q := by
  obtain ⟨sa', c', w', hrun, h2⟩ := run_append (P := P) (ty := o.type) T ho (cx := cx) hr hl h1 h63 hby hB
  unfold Oper.wp execOp
  simp only [hop, resolve, invoke, builtin, Sem.run_bind, Sem.run_pure, Result.andThen_ok, List.map_toArray, List.map_cons, List.map_nil, hs, hx, hrun]
  exact h _ _ _ h2
end Go.Esc
