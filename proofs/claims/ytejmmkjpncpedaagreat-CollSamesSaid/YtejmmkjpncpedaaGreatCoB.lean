/- Collections, plainly. -/
import Derived.Test.YtejmmkjpncpedaaGreatCoA
namespace Go.Esc
open Go.RowKit
structure RegR where
  key : List UInt8
  text : List UInt8
  ver : Int
  time : Int
  dot : DotR
structure ElemR where
  key : List UInt8
  text : List UInt8
  ver : Int
  dot : DotR
structure SumR where
  key : List UInt8
  n : Int
structure BindR where
  id : Int
  text : List UInt8
  ver : Int
  dot : DotR
structure CollR where
  v : List DotR
  regs : List RegR
  elems : List ElemR
  gone : List DotR
  sums : List SumR
  binds : List BindR
def CollR.nil : CollR := ⟨[], [], [], [], [], []⟩
def RegR.cells (r : RegR) : List Value := [.string (str r.key), .string (str r.text), .int .i64 r.ver, .int .i64 r.time, .int .i64 r.dot.dev, .int .i64 r.dot.ep, .int .i64 r.dot.seq]
def ElemR.cells (r : ElemR) : List Value := [.string (str r.key), .string (str r.text), .int .i64 r.ver, .int .i64 r.dot.dev, .int .i64 r.dot.ep, .int .i64 r.dot.seq]
def SumR.cells (r : SumR) : List Value := [.string (str r.key), .int .i64 r.n]
def BindR.cells (r : BindR) : List Value := [.int .i64 r.id, .string (str r.text), .int .i64 r.ver, .int .i64 r.dot.dev, .int .i64 r.dot.ep, .int .i64 r.dot.seq]
/-- Where a collection's six rows lie. -/
structure Six where
  v : Option Addr
  vc : Nat
  r : Option Addr
  rc : Nat
  e : Option Addr
  ec : Nat
  g : Option Addr
  gc : Nat
  s : Option Addr
  sc : Nat
  b : Option Addr
  bc : Nat
def CollR.cells (C : CollR) (h : Six) : List Value := [.slice h.v C.v.length h.vc, .slice h.r C.regs.length h.rc, .slice h.e C.elems.length h.ec, .slice h.g C.gone.length h.gc, .slice h.s C.sums.length h.sc, .slice h.b C.binds.length h.bc]
def CollR.val (C : CollR) (h : Six) : Value := .agg #[.slice h.v C.v.length h.vc, .slice h.r C.regs.length h.rc, .slice h.e C.elems.length h.ec, .slice h.g C.gone.length h.gc, .slice h.s C.sums.length h.sc, .slice h.b C.binds.length h.bc]
structure CollR.In (C : CollR) (w : World) (h : Six) : Prop where
  v : Rd w h.v (rows DotR.cells C.v)
  r : Rd w h.r (rows RegR.cells C.regs)
  e : Rd w h.e (rows ElemR.cells C.elems)
  g : Rd w h.g (rows DotR.cells C.gone)
  s : Rd w h.s (rows SumR.cells C.sums)
  b : Rd w h.b (rows BindR.cells C.binds)
  lv : C.v.length ≤ h.vc
  lr : C.regs.length ≤ h.rc
  le : C.elems.length ≤ h.ec
  lg : C.gone.length ≤ h.gc
  ls : C.sums.length ≤ h.sc
  lb : C.binds.length ≤ h.bc
  mv : h.vc ≤ maxLen
  mr : h.rc ≤ maxLen
  me : h.ec ≤ maxLen
  mg : h.gc ≤ maxLen
  ms : h.sc ≤ maxLen
  mb : h.bc ≤ maxLen
/-- Keys by which rows stand in order. -/
def pairLt : Int × Int → Int × Int → Bool := lexLt intLt intLt
theorem pairOrd : Order pairLt := intOrd.lex intOrd
def DotR.pair (d : DotR) : Int × Int := (d.dev, d.ep)
def ElemR.k3 (x : ElemR) : List UInt8 × List UInt8 × DotR := (x.key, x.text, x.dot)
instance : DecidableEq DotR := fun a b => by
  cases a with | mk a1 a2 a3 => cases b with | mk b1 b2 b3 =>
    exact if h : a1 = b1 ∧ a2 = b2 ∧ a3 = b3 then isTrue (by obtain ⟨rfl, rfl, rfl⟩ := h; rfl) else isFalse (fun e => by cases e; exact h ⟨rfl, rfl, rfl⟩)
def elemLt : List UInt8 × List UInt8 × DotR → List UInt8 × List UInt8 × DotR → Bool := lexLt Op.bytesLess (lexLt Op.bytesLess DotR.lt)
theorem elemOrd : Order elemLt := bytesOrd.lex (bytesOrd.lex dotOrd)
theorem bindOrd : Order intLt := intOrd
/-- What was seen of a device's epoch. -/
def seen (v : List DotR) (d e : Int) : Int := match look DotR.pair (d, e) v with
  | some x => x.seq
  | none => 0
def stepErr (v : List DotR) (d : DotR) : Nat := if d.dev < 0 ∨ d.ep < 0 ∨ d.seq < 1 then 1 else if d.seq ≤ seen v d.dev d.ep then 7 else 0
def stepV (v : List DotR) (d : DotR) : List DotR :=
  if isAt DotR.pair pairLt d.pair v = true then v.set (posOf DotR.pair pairLt d.pair v) ⟨d.dev, d.ep, max (seen v d.dev d.ep) d.seq⟩ else putAt (posOf DotR.pair pairLt d.pair v) d v
def regOf (o : OpR) : RegR := ⟨o.key, o.text, o.ver, o.time, o.dot⟩
def elemOf (o : OpR) : ElemR := ⟨o.key, o.text, o.ver, o.dot⟩
def bindOf (o : OpR) : BindR := ⟨o.n, o.text, o.ver, o.dot⟩
/-- Is a register's word younger? -/
def younger (o : OpR) (r : RegR) : Bool := decide (r.time < o.time) || (decide (o.time = r.time) && DotR.lt r.dot o.dot)
def setL (l : List RegR) (o : OpR) : List RegR := match look RegR.key o.key l with
  | some r => if younger o r = true then l.set (posOf RegR.key Op.bytesLess o.key l) (regOf o) else l
  | none => putAt (posOf RegR.key Op.bytesLess o.key l) (regOf o) l
def addL (g : List DotR) (l : List ElemR) (o : OpR) : List ElemR := if isAt (fun d => d) DotR.lt o.dot g = true then l else putAt (posOf ElemR.k3 elemLt (elemOf o).k3 l) (elemOf o) l
def goneL (g : List DotR) (d : DotR) : List DotR := if isAt (fun d => d) DotR.lt d g = true then g else putAt (posOf (fun d => d) DotR.lt d g) d g
def lessL (l : List ElemR) (d : DotR) : List ElemR := l.filter (fun x => decide (x.dot ≠ d))
def remL : List DotR → List DotR × List ElemR → List DotR × List ElemR
  | [], p => p
  | d :: ds, p => remL ds (goneL p.1 d, lessL p.2 d)
def wrap64 (n : Int) : Int := IntKind.i64.wrap n
def countL (l : List SumR) (o : OpR) : List SumR := match look SumR.key o.key l with
  | some x => l.set (posOf SumR.key Op.bytesLess o.key l) ⟨o.key, wrap64 (x.n + o.n)⟩
  | none => putAt (posOf SumR.key Op.bytesLess o.key l) ⟨o.key, o.n⟩ l
def bindL (l : List BindR) (o : OpR) : List BindR := match look BindR.id o.n l with
  | some b => if DotR.lt o.dot b.dot = true then l.set (posOf BindR.id intLt o.n l) (bindOf o) else l
  | none => putAt (posOf BindR.id intLt o.n l) (bindOf o) l
def layC (C : CollR) (o : OpR) : CollR :=
  if o.kind = 1 then { C with regs := setL C.regs o } else
  if o.kind = 2 then { C with elems := addL C.gone C.elems o } else
  if o.kind = 3 then { C with gone := (remL o.dots (C.gone, C.elems)).1, elems := (remL o.dots (C.gone, C.elems)).2 } else
  if o.kind = 4 then { C with sums := countL C.sums o } else
  if o.kind = 5 then { C with binds := bindL C.binds o } else C
def applyErr (C : CollR) (o : OpR) : Nat := if checkOp o ≠ 0 then checkOp o else stepErr C.v o.dot
def applyC (C : CollR) (o : OpR) : CollR := if applyErr C o ≠ 0 then C else layC { C with v := stepV C.v o.dot } o
/-- In order. -/
structure CollR.ok (C : CollR) : Prop where
  v : InOrd DotR.pair pairLt C.v
  r : InOrd RegR.key Op.bytesLess C.regs
  e : InOrd ElemR.k3 elemLt C.elems
  g : InOrd (fun d => d) DotR.lt C.gone
  s : InOrd SumR.key Op.bytesLess C.sums
  b : InOrd BindR.id intLt C.binds
/-- At most m of each. -/
structure CollR.small (C : CollR) (m : Nat) : Prop where
  v : C.v.length ≤ m
  r : C.regs.length ≤ m
  e : C.elems.length ≤ m
  g : C.gone.length ≤ m
  s : C.sums.length ≤ m
  b : C.binds.length ≤ m
end Go.Esc
