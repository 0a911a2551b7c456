/- Operations as plain data: dots, their order, what is checked. -/
import Derived.Test.YtpljcnjkdjblmaaPlainA
namespace Go.Esc
open Go.RowKit

structure DotR where
  dev : Int
  ep : Int
  seq : Int
structure OpR where
  dot : DotR
  coll : Int
  ver : Int
  kind : Int
  key : List UInt8
  text : List UInt8
  n : Int
  time : Int
  dots : List DotR

def DotR.cells (d : DotR) : List Value := [.int .i64 d.dev, .int .i64 d.ep, .int .i64 d.seq]
def DotR.v (d : DotR) : Value := .agg #[.int .i64 d.dev, .int .i64 d.ep, .int .i64 d.seq]
def DotR.ok (d : DotR) : Prop := I64ok d.dev ∧ I64ok d.ep ∧ I64ok d.seq
def ds (l : List DotR) : List Value := l.flatMap DotR.cells
def OpR.cells (o : OpR) (a : Option Addr) (c : Nat) : List Value := [.int .i64 o.dot.dev, .int .i64 o.dot.ep, .int .i64 o.dot.seq, .int .i64 o.coll, .int .i64 o.ver, .int .i64 o.kind, .string (str o.key), .string (str o.text), .int .i64 o.n, .int .i64 o.time, .slice a o.dots.length c]
def OpR.v (o : OpR) (a : Option Addr) (c : Nat) : Value := .agg #[.int .i64 o.dot.dev, .int .i64 o.dot.ep, .int .i64 o.dot.seq, .int .i64 o.coll, .int .i64 o.ver, .int .i64 o.kind, .string (str o.key), .string (str o.text), .int .i64 o.n, .int .i64 o.time, .slice a o.dots.length c]
structure OpR.ok (o : OpR) : Prop where
  dot : o.dot.ok
  coll : I64ok o.coll
  ver : I64ok o.ver
  kind : I64ok o.kind
  n : I64ok o.n
  time : I64ok o.time
  key : o.key.length ≤ maxLen
  text : o.text.length ≤ maxLen
  dots : ∀ d ∈ o.dots, d.ok

def cmpI (a b : Int) : Int := if a < b then -1 else if b < a then 1 else 0
def DotR.cmp (a b : DotR) : Int := if cmpI a.dev b.dev ≠ 0 then cmpI a.dev b.dev else if cmpI a.ep b.ep ≠ 0 then cmpI a.ep b.ep else cmpI a.seq b.seq
def DotR.lt (a b : DotR) : Bool := if a.dev ≠ b.dev then decide (a.dev < b.dev) else if a.ep ≠ b.ep then decide (a.ep < b.ep) else decide (a.seq < b.seq)
theorem cmpI_zero (a b : Int) : cmpI a b = 0 ↔ a = b := by
  unfold cmpI; split
  · omega
  · split <;> omega
theorem cmpI_neg (a b : Int) : cmpI a b < 0 ↔ a < b := by
  unfold cmpI; split
  · omega
  · split <;> omega
theorem DotR.cmp_lt (a b : DotR) : a.cmp b < 0 ↔ a.lt b = true := by
  unfold DotR.cmp DotR.lt
  have h1 := cmpI_zero a.dev b.dev
  have h2 := cmpI_zero a.ep b.ep
  have g1 := cmpI_neg a.dev b.dev
  have g2 := cmpI_neg a.ep b.ep
  have g3 := cmpI_neg a.seq b.seq
  by_cases e1 : a.dev = b.dev
  · have c1 := h1.2 e1
    by_cases e2 : a.ep = b.ep
    · have c2 := h2.2 e2
      simp [e1, e2]
      rw [e1] at c1; rw [e2] at c2; simp [c1, c2, g3]
    · have c2 : cmpI a.ep b.ep ≠ 0 := fun h => e2 (h2.1 h)
      simp [e1, e2, c2]
      rw [e1] at c1; simp [c1, g2]
  · have c1 : cmpI a.dev b.dev ≠ 0 := fun h => e1 (h1.1 h)
    simp [e1, c1, g1]
def risesB : List DotR → Bool
  | a :: b :: l => a.lt b && risesB (b :: l)
  | _ => true
theorem risesB_iff : ∀ l : List DotR, risesB l = true ↔ ∀ (j : Nat) (a b : DotR), l[j]? = some a → l[j + 1]? = some b → a.lt b = true
  | [] => by simp [risesB]
  | [a] => by simp [risesB]
  | a :: b :: l => by
    rw [risesB, Bool.and_eq_true, risesB_iff (b :: l)]
    constructor
    · rintro ⟨h1, h2⟩ j x y hx hy
      cases j with
      | zero => simp at hx hy; subst hx hy; exact h1
      | succ j => exact h2 j x y (by simpa using hx) (by simpa using hy)
    · intro h
      exact ⟨h 0 a b rfl rfl, fun j x y hx hy => h (j + 1) x y (by simpa using hx) (by simpa using hy)⟩
def textB (b : UInt8) : Bool := decide (32 ≤ b.toNat) && decide (b.toNat ≠ 127)
def textOk (s : List UInt8) : Bool := decide (s.length ≤ 40) && s.all textB
theorem textOk_iff (s : List UInt8) : textOk s = true ↔ s.length ≤ 40 ∧ ∀ (j : Nat) (b : UInt8), s[j]? = some b → 32 ≤ b.toNat ∧ b.toNat ≠ 127 := by
  unfold textOk
  rw [Bool.and_eq_true, decide_eq_true_iff, List.all_eq_true]
  constructor
  · rintro ⟨h1, h2⟩
    exact ⟨h1, fun j b hb => by have := h2 b (List.mem_of_getElem? hb); simpa [textB] using this⟩
  · rintro ⟨h1, h2⟩
    refine ⟨h1, fun b hb => ?_⟩
    obtain ⟨j, hj⟩ := List.getElem?_of_mem hb
    simpa [textB] using h2 j b hj

def dotsErr (l : List DotR) : Nat := if 8 < l.length then 4 else if risesB l then 0 else 10
def headOk (o : OpR) : Prop := ((((((0 ≤ o.dot.dev ∧ o.dot.dev ≤ 5) ∧ (1 ≤ o.dot.ep ∧ o.dot.ep ≤ 1073741824)) ∧ (1 ≤ o.dot.seq ∧ o.dot.seq ≤ 1073741824)) ∧ (0 ≤ o.coll ∧ o.coll ≤ 2)) ∧ (1 ≤ o.ver ∧ o.ver ≤ 3)) ∧ (0 ≤ o.time ∧ o.time ≤ 1099511627776))
instance (o : OpR) : Decidable (headOk o) := by unfold headOk; infer_instance
def kindErr (o : OpR) : Nat :=
  if o.kind ≠ 5 ∧ o.key = [] then 1 else
  if o.kind = 3 then dotsErr o.dots else
  if o.kind = 4 then (if o.n = 0 ∨ ¬ (-1099511627776 ≤ o.n ∧ o.n ≤ 1099511627776) then 11 else 0) else
  if o.kind = 5 then (if 0 ≤ o.n ∧ o.n ≤ 999 then 0 else 11) else 0
def checkOp (o : OpR) : Nat :=
  if ¬ headOk o then 1 else
  if ¬ (1 ≤ o.kind ∧ o.kind ≤ 5) then 3 else
  if ¬ (textOk o.key = true ∧ textOk o.text = true) then 5 else kindErr o

theorem ds_length (l : List DotR) : (ds l).length = l.length * 3 := by
  induction l with
  | nil => rfl
  | cons d l ih => unfold ds at *; rw [List.flatMap_cons, List.length_append, ih]; simp [DotR.cells]; omega
theorem ds_get (l : List DotR) (k : Nat) (d : DotR) (h : l[k]? = some d) (m : Nat) (v : Value) (hm : d.cells[m]? = some v) : (ds l)[k * 3 + m]? = some v := by
  have hm3 : m < 3 := (List.getElem?_eq_some_iff.1 hm).1
  unfold ds
  induction l generalizing k with
  | nil => simp at h
  | cons c l ih =>
    rw [List.flatMap_cons]
    cases k with
    | zero =>
      simp at h
      subst h
      rw [List.getElem?_append_left (by simp [DotR.cells]; omega), Nat.zero_mul, Nat.zero_add]
      exact hm
    | succ k =>
      rw [List.getElem?_append_right (by simp [DotR.cells]; omega), show (k + 1) * 3 + m - c.cells.length = k * 3 + m by simp [DotR.cells]; omega]
      exact ih k (by simpa using h)
theorem ds_cell {w : World} {b o : Nat} {l : List DotR} {k : Nat} {d : DotR} (h : Rd w (some ⟨b, o, none⟩) (ds l)) (hd : l[k]? = some d) : ∀ m v, d.cells[m]? = some v → w.cell? ⟨b, o + k * 3 + m, none⟩ = some v := by
  intro m v hm
  obtain ⟨ad, hs, hc⟩ := h (k * 3 + m) v (ds_get l k d hd m v hm)
  cases hs
  rw [Addr.add_lit] at hc
  rw [Nat.add_assoc]
  exact hc
theorem ds_shape {w : World} {a : Option Addr} {l : List DotR} (h : Rd w a (ds l)) (hl : 0 < l.length) : ∃ b off, a = some ⟨b, off, none⟩ ∧ b < w.heap.size := h.shape (by rw [ds_length]; omega)
theorem ds_append (l m : List DotR) : ds (l ++ m) = ds l ++ ds m := by simp [ds]
end Go.Esc
