/- desk.included, a loop over slices.Backward, answers as the machine over numbers says, where the numbers compared are known. -/
import Derived.Test.YteaijkhiibjopaaGreatMk
import Derived.RangeFuncLeaves
import Derived.RangeFuncSeq
import Derived.RangeFuncBound
import Derived.Test.YteaijkhiibjopaaGreatProg
import Derived.Lib.Hide
import Derived.OwnWalkIn
import Derived.TacticsInMore
import Derived.BigFrameIn
import Derived.Deep.Cut
import Derived.Shelf.Abstract
import Derived.Test.YteaijkhiibjopaaGreatD
import Derived.Test.YteaijkhiibjopaaGreatPlainA
set_option linter.all false
namespace Go.Esc
open Go.RowKit
set_option linter.unusedVariables false
variable {P : Program}
theorem Ext.putObj {S : Nat → Prop} (w : World) (l : Nat) (o : Obj) (hs : S l) : Ext S w (w.putObj l o) :=
 ⟨rfl, rfl, rfl, by simp, fun k _ hn => World.putObj_heap_other (fun e => hn (e ▸ hs))⟩
def since (l B : Nat) : Nat → Prop := fun k => k = l ∨ B ≤ k
def own2 (w : World) : Nat → Prop := fun k => k = w.heap.size ∨ k = w.heap.size + 1
def ovPost (S : Nat → Prop) (I Ix : World → Prop) (W : World) : Exit → Act → World → Prop
 | .normal, _, W' => Ext S W W' ∧ I W'
 | .ret, _, W' => Ix W'
 | _, _, _ => False
def Over {α : Type} (P : Program) (gf : Nat) (lb : Array Value) (encs : α → Array Value) (xs : List α) (w : World) : Prop :=
 ∀ (l : Nat) (J : Nat → World → Prop) (Jx : World → Prop) (W : World), Ext no w W → w.heap.size ≤ l → l < W.heap.size → J 0 W →
  (∀ i x W1, Ext (since l W.heap.size) W W1 → J i W1 → xs[i]? = some x → YieldAt Fence.wide 0 P l (encs x) W1 fun e W' =>
   (e = .returned (.bool true) ∧ Ext (since l W.heap.size) W1 W' ∧ J (i + 1) W') ∨ (e = .returned (.bool false) ∧ Jx W')) →
  Calls P gf (#[.func (.yield l) #[] #[]] ++ lb) W fun e W' => (∃ v, e = .returned v) ∧ (J xs.length W' ∨ Jx W')
theorem wp_rangeFunc_over {α : Type} {g : Operand} {ps : Array Tmp} {assign body : Code} {Q : Exit → Act → World → Prop} {a : Act} {w : World}
  {gf : Nat} {lb : Array Value} (hg : a.eval g = .func (.func gf) #[] lb) (eg : ∀ args w, (callFunc gf args).run P w = .ok (.enter gf args) w)
  {encs : α → Array Value} {xs : List α} (hps : ∀ x, (encs x).size = ps.size) (hseq : Over P gf lb encs xs w)
  (I : Nat → World → Prop) (Ix : World → Prop) (hI0 : ∀ W', Ext no w W' → I 0 W')
  (hIs : ∀ i A B, I i A → Ext (own2 w) A B → I i B) (hIxs : ∀ A B, Ix A → Ext (own2 w) A B → Ix B)
  (hround : ∀ (i : Nat) (x : α) (W : World), w.heap.size + 2 ≤ W.heap.size → I i W → xs[i]? = some x →
   assign.wpIn (Fence.wide.inRound (w.heap.size + 1)) 0 P (Exit.then (fun a₁ w₁ => Ext (upfrom W.heap.size) W w₁ ∧ ∀ w₂, Ext (just (w.heap.size + 1)) w₁ w₂ →
    body.wpIn (Fence.wide.inRound (w.heap.size + 1)) 0 P (ovPost (upfrom W.heap.size) (I (i + 1)) (fun W' => Ix W' ∧ ∀ k, w.heap.size ≤ k → k < w.heap.size + 2 → W'.heap[k]? = w₂.heap[k]?) w₂) a₁ w₂) (fun _ _ _ => False))
    { tmps := (ps.zip (encs x)).foldl (fun t (p, v) => t.setIfInBounds p v) a.tmps, defers := [] } W)
  (hdone : ∀ (D : Nat) (W : World), w.heap.size ≤ D → D < w.heap.size + 2 → D < W.heap.size → I xs.length W → W.heap[D]? = some (.deferred (some [])) → Q .normal { a with defers := { target := .collected D, args := #[] } :: a.defers } W)
  (hstop : ∀ (D : Nat) (W : World), w.heap.size ≤ D → D < w.heap.size + 2 → D < W.heap.size → Ix W → W.heap[D]? = some (.deferred (some [])) → Q .ret { a with defers := { target := .collected D, args := #[] } :: a.defers } W) :
  (Code.rangeFunc g ps assign body).wp P Q a w := by
 refine (wpIn_wide (n := 0)).1 (wpIn_rangeFunc ?_)
 intro fn hfn
 obtain ⟨rec, hrec⟩ : ∃ rec : LoopState → Option Code → Loop, rec = fun st pe => { state := st, pending := pe, fn, tmps := a.tmps, params := ps, assign, body, defers := w.heap.size } := ⟨_, rfl⟩
 obtain ⟨W1, hW1⟩ : ∃ W1, (w.alloc (.deferred (some []))).alloc (.loop (rec .ready none)) = W1 := ⟨_, rfl⟩
 have hL1 : W1.heap[w.heap.size + 1]? = some (.loop (rec .ready none)) := by
  rw [← hW1]; have := World.alloc_heap_new (w.alloc (.deferred (some []))) (.loop (rec .ready none)); rwa [World.size_alloc] at this
 have hK1 : W1.heap[w.heap.size]? = some (.deferred (some [])) := by
  rw [← hW1]; exact (Below.heap_alloc _ _ _ (by simp)).trans (World.alloc_heap_new w _)
 have hx1 : Ext no w W1 := by rw [← hW1]; exact (Ext.alloc no w _).comp (Ext.alloc no _ _)
 have hs1 : W1.heap.size = w.heap.size + 2 := by rw [← hW1]; simp
 refine ⟨w.heap.size + 1, [{ target := .collected w.heap.size, args := #[] }], W1, { target := .fn (.func gf) lb, args := #[.func (.yield (w.heap.size + 1)) #[] #[]] }, W1, gf,
  #[.func (.yield (w.heap.size + 1)) #[] #[]] ++ lb, W1, ?_, ?_, fun _ _ => trivial, ?_, fun _ => (by simp [Fence.wide] at *), ?_⟩
 ·rw [← hW1, hrec]; exact run_enterLoop_outer _ _ _ _ _
 ·simp only [resolve, hg]
  simp [go_sem]
 ·simp [invoke, go_sem, eg]
 ·have keepL : ∀ {S : Nat → Prop} {A B : World} {k : Nat} {o : Obj}, Ext S A B → ¬ S k → A.heap[k]? = some o → B.heap[k]? = some o :=
   fun hx hn hk => (hx.block _ (Array.getElem?_eq_some_iff.1 hk).1 hn).trans hk
  refine callsIn_wide.2 ((hseq (w.heap.size + 1)
   (fun i W => w.heap.size + 2 ≤ W.heap.size ∧ I i W ∧ W.heap[w.heap.size + 1]? = some (.loop (rec .ready none)) ∧ W.heap[w.heap.size]? = some (.deferred (some [])))
   (fun W => Ix W ∧ W.heap[w.heap.size + 1]? = some (.loop (rec .done (some .ret))) ∧ W.heap[w.heap.size]? = some (.deferred (some [])))
   W1 hx1 (by omega) (by omega) ⟨by omega, hI0 _ hx1, hL1, hK1⟩ ?_).mono ?_)
  ·
   rintro i x W hXW ⟨hMW, hi, hl, hk⟩ hxi
   have hlt : w.heap.size + 1 < W.heap.size := (Array.getElem?_eq_some_iff.1 hl).1
   have hy := run_yield (P := P) (args := encs x) hl (by rw [hrec]; exact hps x)
   rw [hrec] at hy
   refine ⟨fn, _, assign, body, hy, roundIn_of_wpIn trivial (wpIn_mono (hround i x W hMW hi hxi) ?_)⟩
   rintro e a₁ w₁ hp
   cases e with
   | normal =>
    obtain ⟨hx1', hb⟩ := hp
    have hl1 := keepL hx1' (fun h => by have h : W.heap.size ≤ w.heap.size + 1 := h; omega) hl
    have hk1 := keepL hx1' (fun h => by have h : W.heap.size ≤ w.heap.size := h; omega) hk
    have hlt1 : w.heap.size + 1 < w₁.heap.size := (Array.getElem?_eq_some_iff.1 hl1).1
    refine ⟨_, run_beginRound hl1 (by rw [hrec]), ?_⟩
    have hl2 : (w₁.putObj (w.heap.size + 1) (.loop { rec .ready none with state := .busy })).heap[w.heap.size + 1]? = some (.loop { rec .ready none with state := .busy }) := World.putObj_heap_same hlt1
    have hk2 : (w₁.putObj (w.heap.size + 1) (.loop { rec .ready none with state := .busy })).heap[w.heap.size]? = some (.deferred (some [])) := (World.putObj_heap_other (by omega)).trans hk1
    have hx2 : Ext (just (w.heap.size + 1)) w₁ (w₁.putObj (w.heap.size + 1) (.loop { rec .ready none with state := .busy })) := Ext.putObj _ _ _ rfl
    refine wpIn_mono (hb _ hx2) ?_
    have fin : ∀ (jump : Option Code) (W3 : World), W3.heap[w.heap.size + 1]? = some (.loop { rec .ready none with state := .busy }) → W3.heap[w.heap.size]? = some (.deferred (some [])) →
      (Instr.endRound (w.heap.size + 1) jump).run P W3 = .ok (.bool jump.isNone) (W3.putObj (w.heap.size + 1) (.loop (rec (if jump.isNone then .ready else .done) jump))) ∧
      (W3.putObj (w.heap.size + 1) (.loop (rec (if jump.isNone then .ready else .done) jump))).heap[w.heap.size + 1]? = some (.loop (rec (if jump.isNone then .ready else .done) jump)) ∧
      (W3.putObj (w.heap.size + 1) (.loop (rec (if jump.isNone then .ready else .done) jump))).heap[w.heap.size]? = some (.deferred (some [])) := fun jump W3 hl3 hk3 => by
     have := run_endRound (P := P) jump hl3
     rw [hrec] at this ⊢
     exact ⟨this, World.putObj_heap_same (Array.getElem?_eq_some_iff.1 hl3).1, (World.putObj_heap_other (by omega)).trans hk3⟩
    rintro e a3 W3 hp
    cases e with
    | normal =>
     obtain ⟨hx3, hi3⟩ := hp
     obtain ⟨hr, hl4, hk4⟩ := fin none W3 (keepL hx3 (fun h => by have h : W.heap.size ≤ w.heap.size + 1 := h; omega) hl2) (keepL hx3 (fun h => by have h : W.heap.size ≤ w.heap.size := h; omega) hk2)
     have hx4 : Ext (own2 w) W3 (W3.putObj (w.heap.size + 1) (.loop (rec (if (none : Option Code).isNone then .ready else .done) none))) := Ext.putObj _ _ _ (.inr rfl)
     have hWW := hXW.size
     refine ⟨_, _, hr, .inl ⟨rfl, ?_, ?_, hIs (i + 1) _ _ hi3 hx4, hl4, hk4⟩⟩
     ·exact ((((hx1'.mono (fun k _ h => .inr (by have h : W.heap.size ≤ k := h; omega))).comp (hx2.mono (fun k _ h => .inl h))).comp (hx3.mono (fun k _ h => .inr (by have h : W.heap.size ≤ k := h; omega)))).comp (Ext.putObj _ _ _ (.inl rfl)))
     ·exact Nat.le_trans hMW (Nat.le_trans hx1'.size (Nat.le_trans hx2.size (Nat.le_trans hx3.size hx4.size)))
    | ret =>
     obtain ⟨hi3, hb3⟩ := hp
     obtain ⟨hr, hl4, hk4⟩ := fin (some .ret) W3 ((hb3 _ (by omega) (by omega)).trans hl2) ((hb3 _ (by omega) (by omega)).trans hk2)
     exact ⟨_, _, hr, .inr ⟨rfl, hIxs _ _ hi3 (Ext.putObj _ _ _ (.inr rfl)), hl4, hk4⟩⟩
    | exit id => exact hp.elim
    | goto t => exact hp.elim
    | panic ch => exact hp.elim
    | outgrown => exact hp.elim
   | ret => exact hp.elim
   | exit id => exact hp.elim
   | goto t => exact hp.elim
   | panic ch => exact hp.elim
   | outgrown => exact hp.elim
  ·
   rintro e W2 ⟨⟨v, rfl⟩, (⟨hMW, hi, hl, hk⟩ | ⟨hi, hl, hk⟩)⟩
   ·have hx4 : Ext (own2 w) W2 (W2.putObj (w.heap.size + 1) (.loop { rec .ready none with state := .exhausted })) := Ext.putObj _ _ _ (.inr rfl)
    have hkl := (Array.getElem?_eq_some_iff.1 hk).1
    refine ⟨none, _, by have := run_endLoop (P := P) hl (by rw [hrec]; simp); rw [hrec] at this; exact this, ?_⟩
    have := hdone w.heap.size _ (Nat.le_refl _) (by omega) (by rw [World.putObj_size]; omega) (hIs _ _ _ hi hx4) ((World.putObj_heap_other (by omega)).trans hk)
    rw [hrec] at this
    exact this
   ·have hx4 : Ext (own2 w) W2 (W2.putObj (w.heap.size + 1) (.loop { rec .done (some .ret) with state := .exhausted })) := Ext.putObj _ _ _ (.inr rfl)
    have hkl := (Array.getElem?_eq_some_iff.1 hk).1
    refine ⟨some .ret, _, by have := run_endLoop (P := P) hl (by rw [hrec]; simp); rw [hrec] at this; exact this, wpIn_ret ?_⟩
    have := hstop w.heap.size _ (Nat.le_refl _) (by omega) (by rw [World.putObj_size]; omega) (hIxs _ _ hi hx4) ((World.putObj_heap_other (by omega)).trans hk)
    rw [hrec] at this
    exact this
end Go.Esc
namespace Go.Proofs.YteaijkhiibjopaaGreat
open Go.RowKit Go.Esc
set_option linter.unusedSimpArgs false
attribute [local go_sem] Oper.semAt_some
def opV (val : Nat → Nat → Value) (i : Nat) : Array Value := #[.int .i64 i, .agg #[val i 0, val i 1, val i 2, val i 3, val i 4, val i 5, val i 6, val i 7, val i 8, val i 9, val i 10]]
def OpsAt (w : World) (a : Option Addr) (n : Nat) (val : Nat → Nat → Value) : Prop :=
 ∀ i, i < n → ∃ r o, a = some ⟨r, o, none⟩ ∧ ∀ k, k < 11 → w.cell? ⟨r, o + i * 11 + k, none⟩ = some (val i k)
set_option maxRecDepth 100000 in
set_option maxHeartbeats 8000000 in
theorem back_any (w : World) (bx n q : Nat) (a : Option Addr) (val : Nat → Nat → Value) (hB : Blk w bx [.slice a n q]) (hn : n ≤ 2000000) (hv : OpsAt w a n val) :
  Over Tryz.prog 349 #[.pointer (some ⟨bx, 0, none⟩)] (opV val) (List.range n).reverse w := by
 intro l J Jx W hx hl1 hl2 h0 hY
 have hlows : bx < w.heap.size := hB.lt (by simp)
 have B := hB.ext (by simp) hx (fun h => h)
 have Bc := B.cell 0 _ rfl
 have hY' := Lib.hid hY
 have h0' := Lib.hid h0
 have hv' := Lib.hid hv
 have hX' := Lib.hid hx
 clear hY h0 hv hx hB
 show Calls Tryz.prog _ #[.func (.yield l) #[] #[], .pointer (some ⟨bx, 0, none⟩)] W _
 go_enter Tryz.func349, Tryz.ntmps349
 go_wp2_with fail
 go_loopw [3] (fun s3 wr => ∃ j : Nat, s3 = .int .i64 ((n : Int) - 1 - j) ∧ j ≤ n ∧ J j wr ∧ Ext (since l W.heap.size) W wr) (fun s3 _ => (intOf s3 + 1).toNat)
 case atStart => exact ⟨0, by go_num, Nat.zero_le _, h0'.out, Ext.refl _ _⟩
 case round =>
  obtain ⟨j, rfl, hj, hJ, hX⟩ := hrel
  have HJ := Lib.hid hJ
  clear hJ
  have ns : ∀ k, k < w.heap.size → ¬ since l W.heap.size k := fun k hk h => by
   have := hX'.out.size
   rcases h with h | h <;> omega
  have B1 := B.ext (by simp) hX (ns _ hlows)
  have c1 := B1.cell 0 _ rfl
  by_cases hjn : j < n
  ·have d1 : decide (0 ≤ (n : Int) - 1 - j) = true := decT (by omega)
   obtain ⟨i, hi⟩ : ∃ i : Nat, i = n - 1 - j := ⟨_, rfl⟩
   have e1 : (n : Int) - 1 - j = i := by omega
   obtain ⟨r, o, rfl, hcs⟩ := hv'.out i (by omega)
   have hcs' : ∀ k, k < 11 → wr.cell? ⟨r, o + i * 11 + k, none⟩ = some (val i k) := fun k hk => by
    have h1 := hcs k hk
    exact hX.keeps (hX'.out.keeps h1 (fun h => h)) (ns _ (World.block_lt_of_cell? w _ h1))
   have v0 : wr.cell? ⟨r, o + i * 11, none⟩ = some (val i 0) := hcs' 0 (by decide)
   have v1 := hcs' 1 (by decide)
   have v2 := hcs' 2 (by decide)
   have v3 := hcs' 3 (by decide)
   have v4 := hcs' 4 (by decide)
   have v5 := hcs' 5 (by decide)
   have v6 := hcs' 6 (by decide)
   have v7 := hcs' 7 (by decide)
   have v8 := hcs' 8 (by decide)
   have v9 := hcs' 9 (by decide)
   have v10 := hcs' 10 (by decide)
   have hyy := hY'.out j i wr hX HJ.out (by rw [List.getElem?_reverse (by simpa using hjn), List.length_range, List.getElem?_range (by omega)]; rw [hi])
   obtain ⟨fn, tm, asg, bd, hyr, hR⟩ := hyy
   unfold opV at hyr
   have hin : i < n := by omega
   rw [e1] at d1 ⊢
   have HE := Lib.hid e1
   have HI := Lib.hid hi
   clear hcs hcs' B1 e1 hi
   go_upto_region 3 with fail
   refine (wpIn_wide (n := 0)).1 ?_
   gi_wp2
   refine ⟨rfl, hR.mono ?_⟩
   clear hyr hR v0 v1 v2 v3 v4 v5 v6 v7 v8 v9 v10
   rintro e v1 (⟨rfl, hx1, hj1⟩ | ⟨rfl, jx⟩)
   ·have hX2 := hX.comp hx1
    have HJ2 := Lib.hid hj1
    clear hj1 hx1 hX HJ
    dsimp only
    gi_wp2
    go_wp2_with fail
    go_roundw
    case rel => exact ⟨j + 1, by have := HE.out; go_num, by omega, HJ2.out, hX2⟩
    case measure => simp [intOf]
   ·have JX := Lib.hid jx
    clear jx
    dsimp only
    gi_wp2
    go_wp2_with fail
    refine bodyPost_ret (results_none rfl _ _ _) rfl ?_
    exact ⟨⟨_, rfl⟩, .inr JX.out⟩
  ·have hjE : j = n := by omega
   subst hjE
   have d1 : decide (0 ≤ (j : Int) - 1 - j) = false := decF (by omega)
   go_wp2_with fail
   go_end0
   refine ⟨⟨_, rfl⟩, .inl ?_⟩
   rw [List.length_reverse, List.length_range]
   exact HJ.out
end Go.Proofs.YteaijkhiibjopaaGreat
namespace Go.Proofs.YteaijkhiibjopaaGreat
open Go.RowKit Go.Esc
attribute [local go_sem] Oper.semAt_some
inductive Inc (val : Nat → Nat → Value) (dev ep : Int) : Nat → Value → Prop
 | zero : Inc val dev ep 0 (.int .i64 0)
 | dev (i : Nat) (d : Int) (v : Value) (h0 : val i 0 = .int .i64 d) (hd : d ≠ dev) (h : Inc val dev ep i v) : Inc val dev ep (i + 1) v
 | ep (i : Nat) (e : Int) (v : Value) (h0 : val i 0 = .int .i64 dev) (h1 : val i 1 = .int .i64 e) (he : e ≠ ep) (h : Inc val dev ep i v) : Inc val dev ep (i + 1) v
 | hit (i : Nat) (h0 : val i 0 = .int .i64 dev) (h1 : val i 1 = .int .i64 ep) : Inc val dev ep (i + 1) (val i 2)
theorem backward_any (w : World) (n q : Nat) (a : Option Addr) : Calls Tryz.prog 303 #[.slice a n q] w fun e w' => ∃ bx, e = .returned (.func (.func 349) #[] #[.pointer (some ⟨bx, 0, none⟩)]) ∧ Blk w' bx [.slice a n q] ∧ w.heap.size ≤ bx ∧ Ext no w w' := by
 go_enter Tryz.func303, Tryz.ntmps303
 go_wp2_with fail
 go_ret
 refine ⟨_, rfl, Blk.lit w #[.slice a n q] 46, Nat.le_refl _, Ext.alloc no w _⟩
theorem inc_out (w : World) (br : Nat) (v : Value) (tmps : Array Value) (hp : tmps[6]?.getD undef = .pointer (some ⟨br, 0, none⟩)) (hc : w.cell? ⟨br, 0, none⟩ = some v) : (results Tryz.f233 tmps).run Tryz.prog w = .ok v w := by
 simp [results, show Tryz.f233.results = #[.cell 6 3] from rfl, hp, asAddr, loadVar, go_sem, Tryz.underlying3, run_load, hc]
set_option maxRecDepth 100000 in
set_option maxHeartbeats 8000000 in
theorem inc_any (w : World) (kb ko n q : Nat) (a : Option Addr) (val : Nat → Nat → Value) (dev ep : Int) (v : Value) (hk : w.cell? ⟨kb, ko + 22, none⟩ = some (.slice a n q)) (hn : n ≤ 2000000) (hv : OpsAt w a n val) (ho : ∀ i k, i < n → k < 11 → (val i k).oneCell' = true) (hi : Inc val dev ep n v) :
  Calls Tryz.prog 233 #[.pointer (some ⟨kb, ko, none⟩), .int .i64 dev, .int .i64 ep] w fun e w' => e = .returned v ∧ Ext no w w' := by
 have hv' := Lib.hid hv
 have hi' := Lib.hid hi
 have hone := Lib.hid ho
 clear hv hi ho
 refine (callsIn_wide (n := 0)).1 (callsIn_of_wp_marks Tryz.func233 rfl trivial (wpIn_wide.2 ?_) rfl)
 simp only [Tryz.ntmps233, List.size_toArray, List.length_cons, List.length_nil, Nat.reduceAdd, Nat.reduceSub, Array.replicate_succ, Array.replicate_zero, List.push_toArray, List.append_toArray, List.nil_append, List.cons_append]
 go_upto_region 1 with fail
 have hb0 := Blk.lit w #[.int .i64 dev] 3
 have x0 := Ext.alloc no w (.cells #[.int .i64 dev] 3)
 have hb1 := Blk.lit (w.alloc (.cells #[.int .i64 dev] 3)) #[.int .i64 ep] 3
 have x1 := Ext.alloc no (w.alloc (.cells #[.int .i64 dev] 3)) (.cells #[.int .i64 ep] 3)
 have hb2 := Blk.lit ((w.alloc (.cells #[.int .i64 dev] 3)).alloc (.cells #[.int .i64 ep] 3)) #[.int .i64 0] 3
 have x2 := Ext.alloc no ((w.alloc (.cells #[.int .i64 dev] 3)).alloc (.cells #[.int .i64 ep] 3)) (.cells #[.int .i64 0] 3)
 replace hb0 := (hb0.ext (by simp) x1 (fun h => h)).ext (by simp) x2 (fun h => h)
 replace hb1 := hb1.ext (by simp) x2 (fun h => h)
 replace x0 := (x0.comp x1).comp x2
 clear x1 x2
 simp only [World.size_alloc] at hb1 hb2
 have hz := hb2.lt (by simp)
 generalize ((w.alloc (.cells #[.int .i64 dev] 3)).alloc (.cells #[.int .i64 ep] 3)).alloc (.cells #[.int .i64 0] 3) = w3 at *
 obtain ⟨bd, hbd⟩ : ∃ bd, bd = w.heap.size := ⟨_, rfl⟩
 obtain ⟨be, hbe⟩ : ∃ be, be = w.heap.size + 1 := ⟨_, rfl⟩
 obtain ⟨br, hbr⟩ : ∃ br, br = w.heap.size + 1 + 1 := ⟨_, rfl⟩
 rw [← hbr] at hb2 hz ⊢
 rw [← hbe] at hb1 ⊢
 rw [← hbd] at hb0 ⊢
 have hlo : w.heap.size ≤ bd ∧ bd < be ∧ be < br := by omega
 clear hbd hbe hbr
 have hk3 : w3.cell? ⟨kb, ko + 22, none⟩ = some (.slice a n q) := x0.keeps hk (fun h => h)
 go_wp2_with fail
 refine (backward_any w3 n q a).mono ?_
 rintro e w4 ⟨bx, rfl, hbx, hbxl, x4⟩
 have hw34 := x4.size
 replace hb0 := hb0.ext (by simp) x4 (fun h => h)
 replace hb1 := hb1.ext (by simp) x4 (fun h => h)
 replace hb2 := hb2.ext (by simp) x4 (fun h => h)
 replace x4 := x0.comp x4
 clear x0 hk3
 have hov : Over Tryz.prog 349 #[.pointer (some ⟨bx, 0, none⟩)] (opV val) (List.range n).reverse w4 := back_any w4 bx n q a val hbx hn (fun i hi => by
  obtain ⟨r, o, h1, h2⟩ := hv'.out i hi
  exact ⟨r, o, h1, fun k hk => x4.keeps (h2 k hk) (fun h => h)⟩)
 have HOV := Lib.hid hov
 clear hov
 go_wp2_with fail
 refine wp_rangeFunc_over (gf := 349) rfl (enters_of Tryz.func349 (by kernel_rfl) rfl) (fun _ => rfl) HOV.out
  (fun i W => i ≤ n ∧ Inc val dev ep (n - i) v ∧ Blk W bd [.int .i64 dev] ∧ Blk W be [.int .i64 ep] ∧ Blk W br [.int .i64 0] ∧ Ext no w W)
  (fun W => Blk W br [v] ∧ Ext no w W) ?i0 ?is ?ix ?round ?done ?stop
 case i0 =>
  intro W hx
  exact ⟨Nat.zero_le _, hi'.out, hb0.ext (by simp) hx (fun h => h), hb1.ext (by simp) hx (fun h => h), hb2.ext (by simp) hx (fun h => h), x4.comp hx⟩
 case is =>
  have hb2l := hb2.lt (by simp)
  rintro i A B ⟨h1, h2, h3, h4, h5, h6⟩ hx
  refine ⟨h1, h2, h3.ext (by simp) hx (by unfold own2; omega), h4.ext (by simp) hx (by unfold own2; omega), h5.ext (by simp) hx (by unfold own2; omega), h6.trans hx (fun k hk => by unfold own2; omega)⟩
 case ix =>
  have hb2l := hb2.lt (by simp)
  rintro A B ⟨h1, h2⟩ hx
  exact ⟨h1.ext (by simp) hx (by unfold own2; omega), h2.trans hx (fun k hk => by unfold own2; omega)⟩
 case round =>
  rintro i x W hW ⟨h1, h2, h3, h4, h5, h6⟩ hxi
  have hb2l := hb2.lt (by simp)
  clear hb0 hb1 hb2 hbx HOV
  have hin : i < n := by have := (List.getElem?_eq_some_iff.1 hxi).1; simpa using this
  have hx : x = n - 1 - i := by
   rw [List.getElem?_reverse (by simpa using hin), List.length_range, List.getElem?_range (by omega)] at hxi
   exact (Option.some.inj hxi).symm
  have hni : n - i = x + 1 := by omega
  have hni' : n - (i + 1) = x := by omega
  have hxn : x < n := by omega
  have HX := Lib.hid (And.intro hni (And.intro hni' hxn))
  rw [hni] at h2
  have H2 := Lib.hid h2
  clear hxi hx hni hni' hxn h2
  unfold opV
  have s0 := fun w a m => run_store Tryz.prog w a (val x 0) m (hone.out x 0 HX.out.2.2 (by decide))
  have s1 := fun w a m => run_store Tryz.prog w a (val x 1) m (hone.out x 1 HX.out.2.2 (by decide))
  have s2 := fun w a m => run_store Tryz.prog w a (val x 2) m (hone.out x 2 HX.out.2.2 (by decide))
  have s3 := fun w a m => run_store Tryz.prog w a (val x 3) m (hone.out x 3 HX.out.2.2 (by decide))
  have s4 := fun w a m => run_store Tryz.prog w a (val x 4) m (hone.out x 4 HX.out.2.2 (by decide))
  have s5 := fun w a m => run_store Tryz.prog w a (val x 5) m (hone.out x 5 HX.out.2.2 (by decide))
  have s6 := fun w a m => run_store Tryz.prog w a (val x 6) m (hone.out x 6 HX.out.2.2 (by decide))
  have s7 := fun w a m => run_store Tryz.prog w a (val x 7) m (hone.out x 7 HX.out.2.2 (by decide))
  have s8 := fun w a m => run_store Tryz.prog w a (val x 8) m (hone.out x 8 HX.out.2.2 (by decide))
  have s9 := fun w a m => run_store Tryz.prog w a (val x 9) m (hone.out x 9 HX.out.2.2 (by decide))
  have s10 := fun w a m => run_store Tryz.prog w a (val x 10) m (hone.out x 10 HX.out.2.2 (by decide))
  gi_wp2
  have hbo := Blk.lit W #[val x 0, val x 1, val x 2, val x 3, val x 4, val x 5, val x 6, val x 7, val x 8, val x 9, val x 10] 35
  have xo := Ext.alloc no W (.cells #[val x 0, val x 1, val x 2, val x 3, val x 4, val x 5, val x 6, val x 7, val x 8, val x 9, val x 10] 35)
  refine ⟨Ext.alloc _ _ _, ?_⟩
  generalize W.alloc (.cells #[val x 0, val x 1, val x 2, val x 3, val x 4, val x 5, val x 6, val x 7, val x 8, val x 9, val x 10] 35) = W5 at *
  intro w₂ hx2
  obtain ⟨g, hg⟩ : ∃ g, g = W.heap.size := ⟨_, rfl⟩
  rw [← hg] at hbo hW ⊢
  have hg2 : w4.heap.size + 1 < g := by omega
  have hnb : ∀ k, k < w4.heap.size → ¬ just (w4.heap.size + 1) k := fun k hk h => by have h : k = w4.heap.size + 1 := h; omega
  have hBo := hbo.ext (by simp) hx2 (fun h => by have h : g = w4.heap.size + 1 := h; omega)
  have hBd := (h3.ext (by simp) xo (fun h => h)).ext (by simp) hx2 (hnb _ (by omega))
  have hBe := (h4.ext (by simp) xo (fun h => h)).ext (by simp) hx2 (hnb _ (by omega))
  have hBr := (h5.ext (by simp) xo (fun h => h)).ext (by simp) hx2 (hnb _ (by omega))
  have hX2 : Ext no w w₂ := (h6.comp xo).trans hx2 (fun k hk h => by have h : k = w4.heap.size + 1 := h; have := x4.size; omega)
  have hgl := hBo.lt (by simp)
  clear s0 s1 s3 s4 s5 s6 s7 s8 s9 s10 hbo h3 h4 h5 h6 xo hx2 hg
  have cd := hBd.cell 0 _ rfl
  have ce := hBe.cell 0 _ rfl
  have cr := hBr.cell 0 _ rfl
  have fr := hBr.fr 0
  have c0 := hBo.cell 0 _ rfl
  have c1 := hBo.cell 1 _ rfl
  have c2 := hBo.cell 2 _ rfl
  cases H2.out with
  | dev _ d _ h0 hd h =>
   rw [h0] at c0
   have d1 : (d == dev) = false := by simpa using hd
   have HI := Lib.hid h
   clear h H2 h0 hd c1 c2 s2
   gi_wp2
   exact ⟨Ext.refl _ _, by have := HX.out; omega, by rw [HX.out.2.1]; exact HI.out, hBd, hBe, hBr, hX2⟩
  | ep _ e _ h0 h1 he h =>
   rw [h0] at c0
   rw [h1] at c1
   have d1 : (e == ep) = false := by simpa using he
   have HI := Lib.hid h
   clear h H2 h0 h1 he c2 s2
   gi_wp2
   exact ⟨Ext.refl _ _, by have := HX.out; omega, by rw [HX.out.2.1]; exact HI.out, hBd, hBe, hBr, hX2⟩
  | hit _ h0 h1 =>
   rw [h0] at c0
   rw [h1] at c1
   have o2 : ∀ cs, val x 2 ≠ .agg cs := fun cs e => by have := hone.out x 2 HX.out.2.2 (by decide); rw [e] at this; cases this
   clear H2 h0 h1
   gi_wp2
   all_goals first | (exact absurd (by assumption) (o2 _)) | skip
   have xb : Ext (just br) w₂ (w₂.setCell ⟨br, 0, none⟩ (val x 2)) := Ext.setCell _ _ _ rfl
   have hwb : w.heap.size ≤ br := by omega
   have hbr4 : br < w4.heap.size := hb2l
   clear s2 cd ce cr fr c0 c1 c2
   refine ⟨⟨hBr.set 0 (val x 2) (by simp), hX2.trans xb (fun k hk h => by have h : k = br := h; omega)⟩, fun k h1 h2 => ?_⟩
   exact xb.block k (by omega) (fun h => by have h : k = br := h; omega)
 case done =>
  rintro D W hD hD2 hDW ⟨h1, h2, h3, h4, h5, h6⟩ hK
  rw [List.length_reverse, List.length_range, Nat.sub_self] at h2
  cases h2
  have hb2l := hb2.lt (by simp)
  have y0 := h5.cell 0 _ rfl
  have fr := h5.fr 0
  have hlo4 := x4.size
  clear hb0 hb1 hb2 hbx HOV x4
  go_wp2_with fail
  have xb : Ext (just br) W (W.setCell ⟨br, 0, none⟩ (.int .i64 0)) := Ext.setCell _ _ _ rfl
  have hwb : w.heap.size ≤ br := by omega
  have hKD : (W.setCell ⟨br, 0, none⟩ (.int .i64 0)).heap[D]? = some (.deferred (some [])) := (xb.block D hDW (fun h => by have h : D = br := h; omega)).trans hK
  have xd : Ext (just D) (W.setCell ⟨br, 0, none⟩ (.int .i64 0)) _ := Ext.putObj _ D (.deferred none) rfl
  refine ⟨by simp, .inl ⟨_, _, rfl, run_takeDeferred hKD, ?_⟩⟩
  refine ⟨_, inc_out _ br _ _ rfl ((((h5.set 0 (.int .i64 0) (by simp)).ext (by simp) xd (fun h => by have h : br = D := h; omega))).cell 0 _ rfl), rfl, ?_⟩
  exact (h6.trans xb (fun k hk h => by have h : k = br := h; omega)).trans xd (fun k hk h => by have h : k = D := h; omega)
 case stop =>
  rintro D W hD hD2 hDW ⟨h5, h6⟩ hK
  have hb2l := hb2.lt (by simp)
  have y0 := h5.cell 0 _ rfl
  have hlo4 := x4.size
  clear hb0 hb1 hb2 hbx HOV x4
  go_wp2_with fail
  have xd : Ext (just D) W _ := Ext.putObj _ D (.deferred none) rfl
  refine ⟨by simp, .inl ⟨_, _, rfl, run_takeDeferred hK, ?_⟩⟩
  refine ⟨_, inc_out _ br _ _ rfl ((h5.ext (by simp) xd (fun h => by have h : br = D := h; omega)).cell 0 _ rfl), rfl, ?_⟩
  exact h6.trans xd (fun k hk h => by have h : k = D := h; omega)
end Go.Proofs.YteaijkhiibjopaaGreat
namespace Go.Vm
open Go Go.Proofs
section
variable {X : GX} {P : Program} {w : World} {G : Gh} {S : St}
theorem ptr_cell (hr : HR X G S w) {x k : Nat} {u : Value} (hx : BRel G x u) (hbx : x < 2 ^ 128) (h0 : ld1 (faF k x) S ≠ 0) :
  ∃ r o v, u = .pointer (some ⟨r, o, none⟩) ∧ w.cell? ⟨r, o + k, none⟩ = some v ∧ BRel G (ld1 (faF k x) S) v ∧ ld1 (faF k x) S < 2 ^ 128 := by
 obtain ⟨h1, h2⟩ := arm0 (show Bool.rec (motive := fun _ => Nat) 0 (rdB S (blkOf (faF k x)) (offOf (faF k x)) 128 0 fun v => v) (isPtr (faF k x)) = ld1 (faF k x) S from rfl) h0
 have e : faF k x = Bool.rec (motive := fun _ => Nat) 0 (fit1 (Nat.add x (Nat.shiftLeft k 29))) (isPtr x) := rfl
 cases hp : isPtr x with
 | false =>
  rw [e, hp] at h1
  exact absurd ((isPtr_iff 0).1 h1) (by decide)
 | true =>
  obtain ⟨b, off, r, δ, z, rfl, hg, hb, rfl⟩ := brel_ptr hx ((isPtr_iff x).1 hp) hbx
  rw [hp] at e
  have hn : fit1 (Nat.add (ptrC b off) (Nat.shiftLeft k 29)) ≠ 0 := fun h => by
   have e' : faF k (ptrC b off) = 0 := e.trans h
   rw [e'] at h1
   exact absurd ((isPtr_iff 0).1 h1) (by decide)
  have e2 : faF k (ptrC b off) = ptrC b (off + k) := by
   rw [e]
   show fit1 _ = _
   rw [fit1_eq hn]
   show ptrC b off + k <<< 29 = _
   unfold ptrC
   rw [Nat.shiftLeft_eq]
   omega
  rw [e2] at h0 h1 h2 ⊢
  rw [ptr_blk hb, ptr_off hb] at h2
  rw [← h2] at h0 ⊢
  rcases rdB_ok X hr (off := off + k) (k := 1) hg 0 (fun v => v) with h3 | ⟨n, ro, tip, bits, cs, el, fz, h3, h4, h5, h6, h7, h8, h9, h10, h11⟩
  ·exact absurd h3 h0
  ·have h11' : rdB S b (off + k) 128 0 (fun v => v) = cell bits (off + k) := h11
   rw [h11'] at h0 ⊢
   have hlt : δ + (off + k) < cs.size := by omega
   have hc := h8 (off + k) cs[δ + (off + k)] (by omega) (Array.getElem?_eq_getElem hlt)
   exact ⟨r, δ + off, cs[δ + (off + k)], rfl, by simp [World.cell?, h6, Nat.add_assoc, hlt], cell_brel hc (cell_lt _ _), cell_lt _ _⟩
theorem eqN_cases {x y : Nat} {u v : Value} (hx : BRel G x u) (hy : BRel G y v) (hbx : x < 2 ^ 128) (hby : y < 2 ^ 128) :
  eqN 2 x y = 0 ∨ ∃ n m : Int, u = .int .i64 n ∧ v = .int .i64 m ∧ eqN 2 x y = bo (n == m) := by
 have e : eqN 2 x y = Bool.rec (motive := fun _ => Nat) 0 (bo (Nat.beq x y)) (is2 2 x y) := rfl
 rw [e]
 cases h : is2 2 x y with
 | false => exact .inl rfl
 | true =>
  obtain ⟨h1, h2⟩ := is2_of (by decide) h
  obtain ⟨n, h3, h4, h5⟩ := brel_i hx hbx h1
  obtain ⟨m, h6, h7, h8⟩ := brel_i hy hby h2
  exact .inr ⟨n, m, h3, h6, by rw [← eqI_code h4 h7]⟩
theorem incGo_spec {bits dc ec : Nat} {dev ep : Int} {val : Nat → Nat → Value} (hd : BRel G dc (.int .i64 dev)) (he : BRel G ec (.int .i64 ep)) (hbd : dc < 2 ^ 128) (hbe : ec < 2 ^ 128) : ∀ n, (∀ i k, i < n → k < 11 → BRel G (cell bits (i * 11 + k)) (val i k)) → incGo 11 bits dc ec n ≠ 0 →
  ∃ v, Go.Proofs.YteaijkhiibjopaaGreat.Inc val dev ep n v ∧ BRel G (incGo 11 bits dc ec n) v ∧ incGo 11 bits dc ec n < 2 ^ 128
 | 0, _, _ => ⟨.int .i64 0, .zero, .one 2 _ (.int .i64 0 (by unfold fits; decide)) (by decide), (by decide : 2 < 2 ^ 128)⟩
 | i + 1, hrow, h0 => by
  have e : incGo 11 bits dc ec (i + 1) = Bool.rec (motive := fun _ => Nat) (Bool.rec (motive := fun _ => Nat) 0 (incGo 11 bits dc ec i) (Nat.beq (eqN 2 (g bits (128 * (i * 11))) dc) 1))
    (Bool.rec (motive := fun _ => Nat) (Bool.rec (motive := fun _ => Nat) 0 (incGo 11 bits dc ec i) (Nat.beq (eqN 2 (g bits (128 * (i * 11 + 1))) ec) 1)) (g bits (128 * (i * 11 + 2))) (Nat.beq (eqN 2 (g bits (128 * (i * 11 + 1))) ec) 17)) (Nat.beq (eqN 2 (g bits (128 * (i * 11))) dc) 17) := rfl
  have c0 : g bits (128 * (i * 11)) = cell bits (i * 11 + 0) := g_eq _ _
  have c1 : g bits (128 * (i * 11 + 1)) = cell bits (i * 11 + 1) := g_eq _ _
  have c2 : g bits (128 * (i * 11 + 2)) = cell bits (i * 11 + 2) := g_eq _ _
  rw [c0, c1, c2] at e
  rw [e] at h0 ⊢
  have ih := incGo_spec hd he hbd hbe i (fun j k hj hk => hrow j k (by omega) hk)
  rcases eqN_cases (hrow i 0 (by omega) (by decide)) hd (cell_lt _ _) hbd with h | ⟨n, m, h1, h2, h⟩
  ·rw [h] at h0; exact absurd rfl h0
  ·cases h2
   rw [h] at h0 ⊢
   cases hq : (n == dev) with
   | false =>
    rw [hq] at h0
    obtain ⟨v, i1, i2, i3⟩ := ih h0
    exact ⟨v, .dev i n v h1 (by simpa using hq) i1, i2, i3⟩
   | true =>
    have : n = dev := by simpa using hq
    subst this
    rw [hq] at h0
    rcases eqN_cases (hrow i 1 (by omega) (by decide)) he (cell_lt _ _) hbe with h' | ⟨n', m', h1', h2', h'⟩
    ·rw [h'] at h0; exact absurd rfl h0
    ·cases h2'
     rw [h'] at h0 ⊢
     cases hq' : (n' == ep) with
     | false =>
      rw [hq'] at h0
      obtain ⟨v, i1, i2, i3⟩ := ih h0
      exact ⟨v, .ep i n' v h1 h1' (by simpa using hq') i1, i2, i3⟩
     | true =>
      have : n' = ep := by simpa using hq'
      subst this
      rw [hq'] at h0
      exact ⟨val i 2, .hit i h1 h1', hrow i 2 (by omega) (by decide), cell_lt _ _⟩
end
end Go.Vm
namespace Go.Vm
open Go Go.Proofs
theorem HR.more {X : GX} {G : Gh} {S : St} {w w' : World} (h : HR X G S w) (hh : ∀ r, r < w.heap.size → w'.heap[r]? = w.heap[r]?) : HR X G S w' where
 cln := h.cln
 dom := h.dom
 row := fun b r δ z hb => by
  obtain ⟨n, ro, tip, bits, h1⟩ := h.row b r δ z hb
  obtain ⟨cs, el, fz, h2, h3⟩ := h1.there
  exact ⟨n, ro, tip, bits, h1.blk, h1.len, h1.ro, cs, el, fz, (hh r (Array.getElem?_eq_some_iff.1 h2).1).trans h2, h3⟩
 val := h.val
 obj := fun b r hb => by
  obtain ⟨o, h1, h2⟩ := h.obj b r hb
  exact ⟨o, (hh r (Array.getElem?_eq_some_iff.1 h1).1).trans h1, h2⟩
 one := h.one
 apart := h.apart
theorem inc_call {G : Gh} {S : St} {w : World} {cs : List Frame} {kb ko n q : Nat} {a : Option Addr} {val : Nat → Nat → Value} {dev ep : Int} {c : Nat} {v : Value} (hr : HR gx G S w) (hk : w.cell? ⟨kb, ko + 22, none⟩ = some (.slice a n q)) (hn : n ≤ 2000000)
  (hv : YteaijkhiibjopaaGreat.OpsAt w a n val) (ho : ∀ i k, i < n → k < 11 → (val i k).oneCell' = true) (hi : YteaijkhiibjopaaGreat.Inc val dev ep n v) (hc : BRel G c v) :
  CallR Tryz.prog gx 233 Tryz.f233 G S w (lone (Frame.enter Tryz.prog 233 #[.pointer (some ⟨kb, ko, none⟩), .int .i64 dev, .int .i64 ep] .normal) cs w) cs (.ok [c] S) := by
 obtain ⟨e, w', fr, ⟨rfl, hx⟩, h1, h2, h3⟩ := YteaijkhiibjopaaGreat.inc_any w kb ko n q a val dev ep v hk hn hv ho hi cs
 refine ⟨G, w', #[v], fr, ?_, hr.more (fun r hlt => hx.block r hlt (fun h => h)), ?_, rfl, h2, h3, h1⟩
 ·exact ⟨fun _ _ h => h, hx.os, hx.tape, hx.output, hx.size, fun r hlt _ => hx.block r hlt (fun h => h), Nat.le_refl _, fun b hb hg => ⟨rfl, hg⟩, fun b x r h h' _ => ⟨b, x, h, h'⟩⟩
 ·refine .t _ _ (fun i y hy => ?_) (fun i hi => ?_)
  ·cases i with
   | zero => have : v = y := by simpa using hy
             subst this; exact hc
   | succ i => simp at hy
  ·cases i with
   | zero => simp at hi
   | succ i => rfl
theorem inc_fl {fc : Func} {G : Gh} {S : St} {w : World} {m : Machine} {cs : List Frame} : CallR Tryz.prog gx 233 fc G S w m cs .fl := trivial
theorem h233 (κ : Kap) (fc : Func) (args : Array Value) (bits : Nat) (G : Gh) (S : St) (w : World) (cs : List Frame) (hf : gx.fn 233 = some fc) (hp : Packed G (entW gx 233 fc) bits args.toList) (hr : HR gx G S w) (hpool : PoolOk gx G) :
  CallR Tryz.prog gx 233 fc G S w (lone (Frame.enter Tryz.prog 233 args .normal) cs w) cs (r233 κ bits S) := by
 have hfc : fc = Tryz.f233 := by
  have h1 := xok.fn 233 fc hf
  rw [Tryz.func233] at h1
  exact (Option.some.inj h1).symm
 subst hfc
 have hw : entW gx 233 Tryz.f233 = [128, 128, 128] := by kernel_rfl
 rw [hw] at hp
 obtain ⟨l⟩ := args
 rcases l with _ | ⟨u0, _ | ⟨u1, _ | ⟨u2, _ | ⟨u3, l⟩⟩⟩⟩
 ·exact hp.elim
 ·exact hp.2.elim
 ·exact hp.2.2.elim
 rotate_left
 ·exact hp.2.2.2.elim
 have g0 : g bits 0 = bits % 2 ^ 128 := by rw [g_eq, gw_eq, Nat.shiftRight_zero]
 have g1 : g bits 128 = (bits >>> 128) % 2 ^ 128 := by rw [g_eq, gw_eq]
 have g2 : g bits 256 = (bits >>> 128 >>> 128) % 2 ^ 128 := by rw [g_eq, gw_eq, ← Nat.shiftRight_add]
 have p0 : BRel G (g bits 0) u0 := by rw [g0]; exact hp.1
 have p1 : BRel G (g bits 128) u1 := by rw [g1]; exact hp.2.1
 have p2 : BRel G (g bits 256) u2 := by rw [g2]; exact hp.2.2.1
 have b0 : g bits 0 < 2 ^ 128 := by rw [g_eq]; exact gw_lt _ _ _
 have b1 : g bits 128 < 2 ^ 128 := by rw [g_eq]; exact gw_lt _ _ _
 have b2 : g bits 256 < 2 ^ 128 := by rw [g_eq]; exact gw_lt _ _ _
 have e : r233 κ bits S = (fun r => Res.rec (motive := fun _ => RC) RC.fl (fun e _ _ => .ok [e] S) (fun _ _ _ => .fl) r)
   (need (is2 2 (g bits 128) (g bits 256)) (q (ld1 (faF 22 (g bits 0)) S) fun log => lnC log fun n => cells 11 log n S fun b => q (incGo 11 b (g bits 128) (g bits 256) n) fun v => .ok v 0 S)) := rfl
 rw [e]
 rcases need_cases (is2 2 (g bits 128) (g bits 256)) (q (ld1 (faF 22 (g bits 0)) S) fun log => lnC log fun n => cells 11 log n S fun b => q (incGo 11 b (g bits 128) (g bits 256) n) fun v => .ok v 0 S) with h | ⟨h1, h⟩
 ·rw [h]; exact inc_fl
 rw [h]
 obtain ⟨i1, i2⟩ := is2_of (by decide) h1
 obtain ⟨dev, rfl, hdv, hdr⟩ := brel_i p1 b1 i1
 obtain ⟨ep, rfl, hepv, hepr⟩ := brel_i p2 b2 i2
 rcases q_cases (ld1 (faF 22 (g bits 0)) S) (fun log => lnC log fun n => cells 11 log n S fun b => q (incGo 11 b (g bits 128) (g bits 256) n) fun v => .ok v 0 S) with h | ⟨h0, h⟩
 ·rw [h]; exact inc_fl
 rw [h]
 obtain ⟨kb, ko, lv, rfl, hcell, hlog, hlogb⟩ := ptr_cell hr p0 b0 h0
 generalize ld1 (faF 22 (g bits 0)) S = log at *
 rcases lnC_ok hlog hlogb (fun n => cells 11 log n S fun b => q (incGo 11 b (g bits 128) (g bits 256) n) fun v => .ok v 0 S) with h | ⟨n, h, hn⟩
 ·rw [h]; exact inc_fl
 rw [h]
 rcases hn with ⟨rfl, hn⟩ | ⟨b, ex, cap, sz, off, r, δ, z, rc, rfl, hg, hb, he, hl, hc, hsz, hrc, hxc, hz, rfl⟩
 ·have hs : ∃ a c, lv = .slice a 0 c := by
   rcases hn with ⟨_, rfl⟩ | ⟨_, a, c, rfl⟩
   ·exact ⟨_, _, rfl⟩
   ·exact ⟨_, _, rfl⟩
  obtain ⟨a, c, rfl⟩ := hs
  exact inc_call hr hcell (by decide) (fun i hi => absurd hi (Nat.not_lt_zero _)) (fun i k hi _ => absurd hi (Nat.not_lt_zero _)) (val := fun _ _ => undef) .zero (.one 2 _ (.int .i64 0 (by unfold fits; decide)) (by decide))
 ·have e2 : ∀ k : Nat → Res, cells 11 (slC b ex n cap sz off) n S k = Bool.rec (motive := fun _ => Res) (rdB S (blkOf (slC b ex n cap sz off)) (offS (slC b ex n cap sz off)) (Nat.mul 128 (Nat.mul n 11)) .fl k) (k 0) (Nat.beq n 0) := fun k => rfl
  rw [e2]
  cases hz0 : Nat.beq n 0 with
  | true =>
   have hn0 := beq_iff.1 hz0
   subst hn0
   exact inc_call hr hcell (by decide) (fun i hi => absurd hi (Nat.not_lt_zero _)) (fun i k hi _ => absurd hi (Nat.not_lt_zero _)) (val := fun _ _ => undef) .zero (.one 2 _ (.int .i64 0 (by unfold fits; decide)) (by decide))
  | false =>
   dsimp only
   rw [sl_blk hb he, sl_off hb he hl hc hsz]
   rcases rdB_ok gx hr (off := off) (k := n * 11) hg Res.fl (fun b => q (incGo 11 b (g bits 128) (g bits 256) n) fun v => .ok v 0 S) with h3 | ⟨m, ro, tip, bb, cs', el, fz, h3, h4, h5, h6, h7, h8, h9, h10, h11⟩
   ·have h3' : rdB S b off (Nat.mul 128 (Nat.mul n 11)) Res.fl (fun b => q (incGo 11 b (g bits 128) (g bits 256) n) fun v => .ok v 0 S) = .fl := h3
    rw [h3']; exact inc_fl
   ·have h11' : rdB S b off (Nat.mul 128 (Nat.mul n 11)) Res.fl (fun b => q (incGo 11 b (g bits 128) (g bits 256) n) fun v => .ok v 0 S) = _ := h11
    rw [h11']
    have hin : ∀ i k, i < n → k < 11 → i * 11 + k < n * 11 := fun i k hi hk => by omega
    have hval : ∀ i k, i < n → k < 11 → cs'[δ + off + i * 11 + k]? = some (cs'.getD (δ + off + i * 11 + k) undef) := fun i k hi hk => by
     have hlt : δ + off + i * 11 + k < cs'.size := by have := hin i k hi hk; omega
     rw [Array.getD_eq_getD_getElem?, Array.getElem?_eq_getElem hlt]; rfl
    have hrel : ∀ i k, i < n → k < 11 → CRel G (cell bb (off + (i * 11 + k))) (cs'.getD (δ + off + i * 11 + k) undef) := fun i k hi hk => by
     refine h8 (off + (i * 11 + k)) _ (by have := hin i k hi hk; omega) ?_
     rw [← hval i k hi hk]
     congr 1
     omega
    rcases q_cases (incGo 11 (gw bb (128 * off) (128 * (n * 11))) (g bits 128) (g bits 256) n) (fun v => .ok v 0 S) with h | ⟨hi0, h⟩
    ·rw [h]; exact inc_fl
    ·rw [h]
     obtain ⟨v, hv1, hv2, hv3⟩ := incGo_spec (val := fun i k => cs'.getD (δ + off + i * 11 + k) undef) p1 p2 b1 b2 n (fun i k hi hk => by
      rw [cell_gw _ _ _ _ (hin i k hi hk)]
      exact cell_brel (hrel i k hi hk) (cell_lt _ _)) hi0
     refine inc_call hr hcell (by omega) (fun i hi => ⟨r, δ + off, rfl, fun k hk => ?_⟩) (fun i k hi hk => (hrel i k hi hk).1) hv1 hv2
     have := hval i k hi hk
     simp only [World.cell?, h6]
     exact this
end Go.Vm
namespace Go.Proofs.YteaijkhiibjopaaGreat
open Go.RowKit Go.Esc
attribute [local go_sem] Oper.semAt_some
set_option maxHeartbeats 400000 in
theorem within_any (a n : Int) (w : World) (h1 : 0 < n) (h2 : n ≤ 100) (h3 : I64ok a) :
  Calls Tryz.prog 7 #[.int .i64 a, .int .i64 n] w fun e w' => ∃ r : Nat, e = .returned (.int .i64 r) ∧ (r : Int) < n ∧ w = w' := by
 obtain ⟨h3, h4⟩ := h3
 have hb := Int.tmod_lt_of_pos a h1
 have hb' : -n < a.tmod n := by
  have := Int.tmod_lt_of_pos (-a) h1
  rw [Int.neg_tmod] at this
  omega
 by_cases hn : a.tmod n < 0
 ·go_enter Tryz.func7, Tryz.ntmps7
  go_wp2
  go_ret
  exact ⟨(a.tmod n + n).toNat, by rw [Int.toNat_of_nonneg (by omega)]; rfl, by omega, rfl⟩
 ·go_enter Tryz.func7, Tryz.ntmps7
  go_wp2
  go_ret
  exact ⟨(a.tmod n).toNat, by rw [Int.toNat_of_nonneg (by omega)]; rfl, by omega, rfl⟩
end Go.Proofs.YteaijkhiibjopaaGreat
