/- Rows of operations by their devices, plainly. -/
import Derived.Test.YtejmmkjpncpedaaGreatCoX
import Derived.Test.YtejmmkjpncpedaaGreatCoT
namespace Go.Esc
open Go.RowKit
set_option linter.unusedSimpArgs false
set_option linter.unusedVariables false
theorem row_mem (l : List OpR) : ∀ (n : List Int) (o' : OpR), o' ∈ rowL n l → ∃ o ∈ l, ∃ m, o' = rowOp o m := by
  induction l with
  | nil => intro n o' h; cases h
  | cons o l ih =>
    intro n o' h
    simp only [rowL, List.mem_cons] at h
    rcases h with rfl | h
    · exact ⟨o, by simp, _, rfl⟩
    · obtain ⟨p, hp, m, e⟩ := ih _ o' h
      exact ⟨p, by simp [hp], m, e⟩
structure Short (o : OpR) : Prop where
  dots : o.dots.length ≤ 8
  key : o.key.length ≤ 40
  text : o.text.length ≤ 40
  dev : 0 ≤ o.dot.dev ∧ o.dot.dev < 6
theorem row_short (o : OpR) (m : Int) : Short (rowOp o m) := by
  have hc := goodOp_check o
  have ht : textOk (goodOp o).key = true ∧ textOk (goodOp o).text = true := by
    unfold checkOp at hc
    split at hc
    · cases hc
    · split at hc
      · cases hc
      · split at hc
        · cases hc
        · rename_i h; exact Classical.not_not.1 h
  refine ⟨?_, ((textOk_iff _).1 ht.1).1, ((textOk_iff _).1 ht.2).1, ?_⟩
  · show (goodOp o).dots.length ≤ 8
    by_cases hk : 1 + o.kind % 5 = 3
    · exact dots_le8 hc hk
    · have : (goodOp o).dots = [] := if_neg hk
      rw [this]; simp
  · show 0 ≤ o.dot.dev % 6 ∧ o.dot.dev % 6 < 6
    omega
theorem foldC_small (L : List OpR) : ∀ {C : CollR} {m : Nat}, C.small m → (foldC C L).small (m + 8 * L.length) := by
  induction L with
  | nil => intro C m h; exact h.mono (by simp)
  | cons o L ih =>
    intro C m h
    have := ih (h.apply o)
    exact this.mono (by rw [List.length_cons]; omega)
theorem foldC_snoc (C : CollR) (L : List OpR) (o : OpR) : foldC C (L ++ [o]) = applyC (foldC C L) o := by rw [foldC_append]; rfl
/-- One device's. -/
def devW (d : Nat) (L : List OpW) : List OpW := L.filter (fun x => decide (x.o.dot.dev = d))
theorem devW_map (d : Nat) (L : List OpW) : (devW d L).map OpW.o = ofDev d (L.map OpW.o) := by
  unfold devW ofDev
  rw [List.filter_map]
  rfl
theorem devW_snoc (d : Nat) (L : List OpW) (x : OpW) : devW d (L ++ [x]) = if x.o.dot.dev = d then devW d L ++ [x] else devW d L := by
  unfold devW
  rw [List.filter_append, List.filter_cons]
  by_cases h : x.o.dot.dev = d
  · rw [if_pos (by simpa using h), if_pos h]; rfl
  · rw [if_neg (by simpa using h), if_neg h]; simp
theorem devW_mem {d : Nat} {L : List OpW} {x : OpW} (h : x ∈ devW d L) : x ∈ L := (List.mem_filter.1 h).1
/-- Six rows' values. -/
def byC (ba : Nat → Option Addr) (n bc : Nat → Nat) : List Value := (List.range 6).map fun d => .slice (ba d) (n d) (bc d)
theorem byC_get {ba : Nat → Option Addr} {n bc : Nat → Nat} {d : Nat} (h : d < 6) : (byC ba n bc)[d]? = some (.slice (ba d) (n d) (bc d)) := by simp [byC, h]
theorem byC_len (ba : Nat → Option Addr) (n bc : Nat → Nat) : (byC ba n bc).length = 6 := by simp [byC]
theorem byC_ne {ba : Nat → Option Addr} {n bc : Nat → Nat} : byC ba n bc ≠ [] := fun e => by have := congrArg List.length e; rw [byC_len] at this; cases this
def upd {α : Type} (f : Nat → α) (d : Nat) (x : α) : Nat → α := fun i => if i = d then x else f i
theorem upd_self {α : Type} (f : Nat → α) (d : Nat) (x : α) : upd f d x d = x := if_pos rfl
theorem upd_ne {α : Type} (f : Nat → α) {d i : Nat} (x : α) (h : i ≠ d) : upd f d x i = f i := if_neg h
theorem byC_set {ba : Nat → Option Addr} {n bc : Nat → Nat} {d : Nat} (h : d < 6) (a : Option Addr) (m c : Nat) : (byC ba n bc).set d (.slice a m c) = byC (upd ba d a) (upd n d m) (upd bc d c) := by
  apply List.ext_getElem
  · simp [byC]
  · intro i h1 h2
    have hi : i < 6 := by simpa [byC] using h2
    rw [List.getElem_set]
    by_cases e : d = i
    · subst e; simp [byC, upd]
    · rw [if_neg e]; simp [byC, upd, Ne.symm e]
theorem OpW.good.up {x : OpW} {w w' : World} {B : Nat} (h : x.good w) (hx : Ext (upfrom B) w w') (hB : w.heap.size ≤ B) : x.good w' :=
  ⟨h.ok, Rd.extN h.rd hx (fun hne ad ha e => by
    obtain ⟨ad', ha', hlt⟩ := h.rd.ne (List.length_pos_iff.2 hne)
    rw [ha] at ha'
    cases ha'
    have e : B ≤ ad.block := e
    omega), h.lc, h.cm⟩
end Go.Esc
namespace Go.Esc
open Go.RowKit
theorem OpW.good.upS {x : OpW} {w4 wr : World} {gy g8 n : Nat} (h : x.good w4) (hx : Ext (fun k => k = gy ∨ g8 ≤ k) w4 wr) (hlt : x.o.dots ≠ [] → ∀ ad, x.a = some ad → ad.block < n) (h1 : n ≤ gy) (h2 : n ≤ g8) : x.good wr :=
  ⟨h.ok, Rd.extN h.rd hx (fun hne ad ha e => by
    have := hlt (ds_nil hne) ad ha
    have e : ad.block = gy ∨ g8 ≤ ad.block := e
    omega), h.lc, h.cm⟩
theorem OpW.good.lt {x : OpW} {w : World} (h : x.good w) : x.o.dots ≠ [] → ∀ ad, x.a = some ad → ad.block < w.heap.size := by
  intro hne ad ha
  obtain ⟨ad', ha', hlt⟩ := h.rd.ne (by
    have := ds_length x.o.dots
    have : 0 < x.o.dots.length := List.length_pos_iff.2 hne
    omega)
  rw [ha] at ha'
  cases ha'
  exact hlt
end Go.Esc
