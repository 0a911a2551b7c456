/- What a cut slice yields, in a region that draws its order: of no program. -/
import Derived.Test.YtfihjjbonahahaaRegion
namespace Go.Esc
open Go.RowKit
variable {P : Program} {a : Act} {w : World}
theorem yields_cut_h {t e : TypeId} {z : Value} {k by' : Nat} (T : SlT P t e z k by') {o : Oper} {x hi : Operand} (hop : o.op = .slice t x none (some hi) none) {sa : Option Addr} {n c : Nat} (hx : a.eval x = .slice sa n c) {kh : IntKind} {h' : Int}
    (hh : a.eval hi = .int kh h') (h : Nat) (eh : h' = h) (h2 : h ≤ c) : (execOp a.eval o).run P w = .ok (.value (.slice sa h c)) w := by
  subst eh
  unfold execOp
  simp only [hop, hx, hh, Option.map_some, Option.map_none, Sem.run_bind, run_cut_h T w sa n c kh h h2, Result.andThen_ok, Sem.run_pure]
theorem yields_cut_l {t e : TypeId} {z : Value} {k by' : Nat} (T : SlT P t e z k by') {o : Oper} {x lo : Operand} (hop : o.op = .slice t x (some lo) none none) {sa : Option Addr} {n c : Nat} (hx : a.eval x = .slice sa n c) {kl : IntKind} {l' : Int}
    (hl : a.eval lo = .int kl l') (l : Nat) (el : l' = l) (h1 : l ≤ n) : (execOp a.eval o).run P w = .ok (.value (.slice (cutAt sa c l k) (n - l) (c - l))) w := by
  subst el
  unfold execOp
  simp only [hop, hx, hl, Option.map_some, Option.map_none, Sem.run_bind, run_cut_l T w sa n c kl l h1, Result.andThen_ok, Sem.run_pure]
theorem yields_cut_lh {t e : TypeId} {z : Value} {k by' : Nat} (T : SlT P t e z k by') {o : Oper} {x lo hi : Operand} (hop : o.op = .slice t x (some lo) (some hi) none) {sa : Option Addr} {n c : Nat} (hx : a.eval x = .slice sa n c) {kl kh : IntKind} {l' h' : Int}
    (hl : a.eval lo = .int kl l') (hh : a.eval hi = .int kh h') (l h : Nat) (el : l' = l) (eh : h' = h) (h1 : l ≤ h) (h2 : h ≤ c) : (execOp a.eval o).run P w = .ok (.value (.slice (cutAt sa c l k) (h - l) (c - l))) w := by
  subst el
  subst eh
  unfold execOp
  simp only [hop, hx, hl, hh, Option.map_some, Option.map_none, Sem.run_bind, run_cut_lh T w sa n c kl kh l h h1 h2, Result.andThen_ok, Sem.run_pure]
end Go.Esc
