/- A region that draws its order in a deferred function that recovers; all orders of a small region. Of no program. -/
import Derived.Test.YtfelipkbbefhhaaRegion
import Derived.Recover
import Derived.Orders
namespace Go.Esc
open Go.RowKit

theorem wpS_region_draw {P : Program} {Q : Exit → Act → List Frame → World → Prop} {a : Act} {cs : List Frame} {w : World} {id : Nat} {ops : Array Oper} (hm : P.follows .mixedOrders = true) (ls : List (List Nat))
    (hl : allLin .any ops ops.size (Array.replicate ops.size false) = ls) (h : ∀ l ∈ ls, wpOpsS P ops Q l a cs w.drew) : (Code.region id ops true).wpS P Q a cs w := fun b k hb hr => by
  have hmem : Region.schedule (P.follows .mixedOrders) ops (w.tape w.drawn (.order b.fn id)) ∈ ls := by
    rw [← hl]
    simp only [Region.schedule, hm, Bool.true_or, if_true]
    exact mem_allLin _ _ _ _ _
  obtain ⟨e, a', cs', w', q, r⟩ := wp_opsS _ a cs _ (h _ hmem) b k hb hr
  exact ⟨e, a', cs', w', q, .of_steps (.one step_region_draw) r⟩
end Go.Esc
