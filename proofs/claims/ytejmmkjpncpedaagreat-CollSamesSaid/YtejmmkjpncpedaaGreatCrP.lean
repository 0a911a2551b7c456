/- The reference's collections, plainly. -/
import Derived.Test.YtejmmkjpncpedaaGreatCoB
namespace Go.Esc
open Go.RowKit
def splice {α : Type} (l : List α) (p q : Nat) (x : α) : List α := l.take p ++ [x] ++ l.drop q
theorem splice_len {α : Type} (l : List α) (p q : Nat) (x : α) : (splice l p q x).length ≤ l.length + 1 + (p - q) := by
  unfold splice
  rw [List.length_append, List.length_append, List.length_take, List.length_drop, List.length_singleton]
  omega
theorem splice_len1 {α : Type} (l : List α) (p q : Nat) (x : α) (h : p ≤ q) : (splice l p q x).length ≤ l.length + 1 := by
  have := splice_len l p q x
  omega
theorem splice_length {α : Type} (l : List α) (p q : Nat) (x : α) (hp : p ≤ l.length) (hq : q ≤ l.length) : (splice l p q x).length = p + 1 + (l.length - q) := by
  unfold splice
  rw [List.length_append, List.length_append, List.length_take, List.length_drop, List.length_singleton]
  omega
/-- Where the new one stands, and from where on the old ones stay. -/
def refPutP (v : List DotR) (d : DotR) : Nat := posOf DotR.pair pairLt d.pair v
def refPutQ (v : List DotR) (d : DotR) : Nat := match v[refPutP v d]? with
  | some x => if pairLt d.pair x.pair = true then refPutP v d else refPutP v d + 1
  | none => refPutP v d
def refPut (v : List DotR) (d : DotR) : List DotR := splice v (refPutP v d) (refPutQ v d) d
def refSetX (o : OpR) (r : RegR) : RegR := if (decide (o.time < r.time) || (decide (r.time = o.time) && DotR.lt o.dot r.dot)) = true then r else regOf o
def refSet (l : List RegR) (o : OpR) : List RegR := match l[posOf RegR.key Op.bytesLess o.key l]? with
  | some r => if r.key = o.key then splice l (posOf RegR.key Op.bytesLess o.key l) (posOf RegR.key Op.bytesLess o.key l + 1) (refSetX o r) else splice l (posOf RegR.key Op.bytesLess o.key l) (posOf RegR.key Op.bytesLess o.key l) (regOf o)
  | none => splice l (posOf RegR.key Op.bytesLess o.key l) (posOf RegR.key Op.bytesLess o.key l) (regOf o)
def refCount (l : List SumR) (o : OpR) : List SumR := match l[posOf SumR.key Op.bytesLess o.key l]? with
  | some r => if r.key = o.key then splice l (posOf SumR.key Op.bytesLess o.key l) (posOf SumR.key Op.bytesLess o.key l + 1) ⟨o.key, wrap64 (o.n + r.n)⟩ else splice l (posOf SumR.key Op.bytesLess o.key l) (posOf SumR.key Op.bytesLess o.key l) ⟨o.key, o.n⟩
  | none => splice l (posOf SumR.key Op.bytesLess o.key l) (posOf SumR.key Op.bytesLess o.key l) ⟨o.key, o.n⟩
def refBindX (o : OpR) (r : BindR) : BindR := if DotR.lt o.dot r.dot = true then bindOf o else r
def refBind (l : List BindR) (o : OpR) : List BindR := match l[posOf BindR.id intLt o.n l]? with
  | some r => if r.id = o.n then splice l (posOf BindR.id intLt o.n l) (posOf BindR.id intLt o.n l + 1) (refBindX o r) else splice l (posOf BindR.id intLt o.n l) (posOf BindR.id intLt o.n l) (bindOf o)
  | none => splice l (posOf BindR.id intLt o.n l) (posOf BindR.id intLt o.n l) (bindOf o)
def refAddP (l : List ElemR) (o : OpR) : Nat := posOf ElemR.k3 elemLt (elemOf o).k3 l
def refAdd (l : List ElemR) (o : OpR) : List ElemR := splice l (refAddP l o) (refAddP l o) (elemOf o)
def refIn (l : List DotR) (d : DotR) : Bool := l.any (fun x => decide (x = d))
def refGoneP (g : List DotR) (d : DotR) : Nat := posOf (fun x => x) DotR.lt d g
def refGone (g : List DotR) (d : DotR) : List DotR := if refIn g d = true then g else splice g (refGoneP g d) (refGoneP g d) d
def refGones (g : List DotR) (l : List DotR) : List DotR := l.foldl refGone g
def refLeft (g : List DotR) (l : List ElemR) : List ElemR := l.filter (fun x => !refIn g x.dot)
def refLay (C : CollR) (o : OpR) : CollR :=
  if o.kind = 1 then { C with regs := refSet C.regs o } else
  if o.kind = 2 then (if refIn C.gone o.dot = true then C else { C with elems := refAdd C.elems o }) else
  if o.kind = 3 then { C with gone := refGones C.gone o.dots, elems := refLeft (refGones C.gone o.dots) C.elems } else
  if o.kind = 4 then { C with sums := refCount C.sums o } else
  if o.kind = 5 then { C with binds := refBind C.binds o } else C
def refApply (C : CollR) (o : OpR) : CollR := if checkOp o ≠ 0 then C else if stepErr C.v o.dot ≠ 0 then C else refLay { C with v := refPut C.v o.dot } o
def refErr (C : CollR) (o : OpR) : Nat := if checkOp o ≠ 0 then checkOp o else stepErr C.v o.dot
theorem refPutQ_ge (v : List DotR) (d : DotR) : refPutP v d ≤ refPutQ v d := by
  unfold refPutQ
  split
  · split <;> omega
  · omega
theorem refPutQ_le (v : List DotR) (d : DotR) : refPutQ v d ≤ v.length := by
  have h := posOf_le (κ := DotR.pair) (lt := pairLt) d.pair v
  unfold refPutQ
  split
  · rename_i x hx
    have := (List.getElem?_eq_some_iff.1 hx).1
    split
    · exact h
    · omega
  · exact h
theorem refPut_len (v : List DotR) (d : DotR) : (refPut v d).length ≤ v.length + 1 := splice_len1 _ _ _ _ (refPutQ_ge v d)
theorem refSet_len (l : List RegR) (o : OpR) : (refSet l o).length ≤ l.length + 1 := by
  unfold refSet
  split
  · split <;> exact splice_len1 _ _ _ _ (by omega)
  · exact splice_len1 _ _ _ _ (by omega)
theorem refCount_len (l : List SumR) (o : OpR) : (refCount l o).length ≤ l.length + 1 := by
  unfold refCount
  split
  · split <;> exact splice_len1 _ _ _ _ (by omega)
  · exact splice_len1 _ _ _ _ (by omega)
theorem refBind_len (l : List BindR) (o : OpR) : (refBind l o).length ≤ l.length + 1 := by
  unfold refBind
  split
  · split <;> exact splice_len1 _ _ _ _ (by omega)
  · exact splice_len1 _ _ _ _ (by omega)
theorem refAdd_len (l : List ElemR) (o : OpR) : (refAdd l o).length ≤ l.length + 1 := splice_len1 _ _ _ _ (Nat.le_refl _)
theorem refGone_len (g : List DotR) (d : DotR) : (refGone g d).length ≤ g.length + 1 := by
  unfold refGone
  split
  · omega
  · exact splice_len1 _ _ _ _ (Nat.le_refl _)
theorem refGones_len (l : List DotR) : ∀ g : List DotR, (refGones g l).length ≤ g.length + l.length := by
  induction l with
  | nil => intro g; exact Nat.le_refl _
  | cons d l ih =>
    intro g
    have h1 := ih (refGone g d)
    have h2 := refGone_len g d
    show (refGones (refGone g d) l).length ≤ _
    rw [List.length_cons]
    omega
theorem refGones_snoc (g l : List DotR) (d : DotR) : refGones g (l ++ [d]) = refGone (refGones g l) d := by
  unfold refGones
  rw [List.foldl_append]
  rfl
theorem refLeft_len (g : List DotR) (l : List ElemR) : (refLeft g l).length ≤ l.length := List.length_filter_le _ _
/-- Operations laid, one behind the other. -/
def refFold (l : List OpR) : CollR := l.foldl refApply CollR.nil
theorem refFold_snoc (l : List OpR) (o : OpR) : refFold (l ++ [o]) = refApply (refFold l) o := by
  unfold refFold
  rw [List.foldl_append]
  rfl
theorem CollR.small.up {C : CollR} {m n : Nat} (h : C.small m) (hn : m ≤ n) : C.small n := ⟨by have := h.v; omega, by have := h.r; omega, by have := h.e; omega, by have := h.g; omega, by have := h.s; omega, by have := h.b; omega⟩
theorem refLay_small {C : CollR} {m : Nat} (h : C.small m) (o : OpR) (hd : o.kind = 3 → o.dots.length ≤ 8) : (refLay C o).small (m + 8) := by
  obtain ⟨h1, h2, h3, h4, h5, h6⟩ := h
  unfold refLay
  split
  · exact ⟨by simp only; omega, by have := refSet_len C.regs o; simp only; omega, by simp only; omega, by simp only; omega, by simp only; omega, by simp only; omega⟩
  · split
    · split
      · exact ⟨by omega, by omega, by omega, by omega, by omega, by omega⟩
      · exact ⟨by simp only; omega, by simp only; omega, by have := refAdd_len C.elems o; simp only; omega, by simp only; omega, by simp only; omega, by simp only; omega⟩
    · split
      · rename_i hk
        have hd := hd hk
        exact ⟨by simp only; omega, by simp only; omega, by have := refLeft_len (refGones C.gone o.dots) C.elems; simp only; omega, by have := refGones_len o.dots C.gone; simp only; omega, by simp only; omega, by simp only; omega⟩
      · split
        · exact ⟨by simp only; omega, by simp only; omega, by simp only; omega, by simp only; omega, by have := refCount_len C.sums o; simp only; omega, by simp only; omega⟩
        · split
          · exact ⟨by simp only; omega, by simp only; omega, by simp only; omega, by simp only; omega, by simp only; omega, by have := refBind_len C.binds o; simp only; omega⟩
          · exact ⟨by omega, by omega, by omega, by omega, by omega, by omega⟩
end Go.Esc
