/- The texts WiA WiB WiM in one. -/
import Derived.Test.YtddobhihjljcgaaGreatOpUX
import Derived.Test.YtddobhihjljcgaaGreatMA
import Derived.OneCell
/- Commands, replies, messages, plainly: their bytes; how they are read. -/
namespace Go.Esc
open Go.RowKit
set_option linter.unusedSimpArgs false
set_option linter.unusedVariables false
structure WantR where
 key : List UInt8
 up : Int
 down : Int
 ids : Int
structure SliceR where
 key : List UInt8
 up : Int
 down : Int
 uu : Int
 ud : Int
structure RangeR where
 lo : Int
 hi : Int
structure CmdR where
 kind : Int
 dev : Int
 ep : Int
 req : Int
 n : Int
 wants : List WantR
 ops : List OpR
structure ReplyR where
 err : Int
 n : Int
 dev : Int
 ep : Int
 til : Int
 last : Int
 slices : List SliceR
 ids : List RangeR
 used : List Int
structure MsgR where
 kind : Int
 dev : Int
 req : Int
 ver : Int
 pos : Int
 nxt : Int
 subs : List Bool
 err : Int
 cmd : CmdR
 rep : ReplyR
 ops : List OpR
def CmdR.zero : CmdR := ⟨0, 0, 0, 0, 0, [], []⟩
def ReplyR.zero : ReplyR := ⟨0, 0, 0, 0, 0, 0, [], [], []⟩
def MsgR.zero : MsgR := ⟨0, 0, 0, 0, 0, 0, [], 0, CmdR.zero, ReplyR.zero, []⟩
/-! ### bytes -/
def encs (l : List Int) : List UInt8 := l.flatMap encI
def wantEnc (x : WantR) : List UInt8 := encT x.key ++ encs [x.up, x.down, x.ids]
def sliceEnc (x : SliceR) : List UInt8 := encT x.key ++ encs [x.up, x.down, x.uu, x.ud]
def rangeEnc (x : RangeR) : List UInt8 := encs [x.lo, x.hi]
def opsEnc (l : List OpR) : List UInt8 := encs [(l.length : Int)] ++ l.flatMap opEnc
def cmdEnc (c : CmdR) : List UInt8 := encs [c.kind, c.dev, c.ep, c.req, c.n, (c.wants.length : Int)] ++ c.wants.flatMap wantEnc ++ opsEnc c.ops
def replyEnc (r : ReplyR) : List UInt8 := encs [r.err, r.n, r.dev, r.ep, r.til, r.last, (r.slices.length : Int)] ++ r.slices.flatMap sliceEnc ++ encs [(r.ids.length : Int)] ++ r.ids.flatMap rangeEnc ++ encL r.used
def bit1 (b : Bool) : Int := if b = true then 1 else 0
def restEnc (m : MsgR) : List UInt8 :=
 if m.kind = 1 then cmdEnc m.cmd else
 if m.kind = 2 then encs [m.req, m.pos] ++ replyEnc m.rep else
 if m.kind = 3 then encs [m.ver, m.pos] ++ encs (m.subs.map bit1) else
 if m.kind = 4 then encs [m.pos, m.nxt] ++ opsEnc m.ops else
 encs [m.req, m.err]
def bodyEnc (m : MsgR) : List UInt8 := encs [m.kind, m.dev] ++ restEnc m
def manyM (m : MsgR) : Bool :=
 if m.kind = 1 then decide (20 < m.cmd.wants.length ∨ 20 < m.cmd.ops.length) else
 if m.kind = 2 then decide (20 < m.rep.slices.length ∨ 100 < m.rep.ids.length ∨ 100 < m.rep.used.length) else
 if m.kind = 4 then decide (20 < m.ops.length) else false
def bytesErr (m : MsgR) : Nat := if m.kind < 1 ∨ 5 < m.kind then 3 else if m.kind = 3 ∧ m.subs.length ≠ 3 then 1 else if manyM m = true then 4 else 0
def bytesOf (m : MsgR) : List UInt8 := if bytesErr m = 0 then frame (bodyEnc m) else []
/-! ### such as may be -/
structure WantR.ok (x : WantR) : Prop where
 key : x.key.length ≤ maxLen
 up : I64ok x.up
 down : I64ok x.down
 ids : I64ok x.ids
structure SliceR.ok (x : SliceR) : Prop where
 key : x.key.length ≤ maxLen
 up : I64ok x.up
 down : I64ok x.down
 uu : I64ok x.uu
 ud : I64ok x.ud
structure RangeR.ok (x : RangeR) : Prop where
 lo : I64ok x.lo
 hi : I64ok x.hi
structure CmdR.ok (c : CmdR) : Prop where
 kind : I64ok c.kind
 dev : I64ok c.dev
 ep : I64ok c.ep
 req : I64ok c.req
 n : I64ok c.n
 wants : ∀ x ∈ c.wants, x.ok
 ops : ∀ x ∈ c.ops, x.ok
structure ReplyR.ok (r : ReplyR) : Prop where
 err : I64ok r.err
 n : I64ok r.n
 dev : I64ok r.dev
 ep : I64ok r.ep
 til : I64ok r.til
 last : I64ok r.last
 slices : ∀ x ∈ r.slices, x.ok
 ids : ∀ x ∈ r.ids, x.ok
 used : ∀ x ∈ r.used, I64ok x
structure MsgR.ok (m : MsgR) : Prop where
 kind : I64ok m.kind
 dev : I64ok m.dev
 req : I64ok m.req
 ver : I64ok m.ver
 pos : I64ok m.pos
 nxt : I64ok m.nxt
 err : I64ok m.err
 cmd : m.cmd.ok
 rep : m.rep.ok
 ops : ∀ x ∈ m.ops, x.ok
/-- Not too much: an operation, a command, a message. -/
def OpR.few (o : OpR) : Prop := o.key.length ≤ 60 ∧ o.text.length ≤ 60 ∧ o.dots.length ≤ 12
structure CmdR.few (c : CmdR) : Prop where
 wl : c.wants.length ≤ 40
 wk : ∀ x ∈ c.wants, x.key.length ≤ 60
 ol : c.ops.length ≤ 40
 of : ∀ x ∈ c.ops, x.few
structure ReplyR.few (r : ReplyR) : Prop where
 sl : r.slices.length ≤ 40
 sk : ∀ x ∈ r.slices, x.key.length ≤ 60
 il : r.ids.length ≤ 200
 ul : r.used.length ≤ 200
structure MsgR.few (m : MsgR) : Prop where
 sub : m.subs.length ≤ 40
 cmd : m.cmd.few
 rep : m.rep.few
 ol : m.ops.length ≤ 40
 of : ∀ x ∈ m.ops, x.few
/-! ### how long -/
theorem encI_le {n : Int} (h : I64ok n) : (encI n).length ≤ 10 := by
 have := encs_len [n] (by simpa using h)
 simpa using this
theorem encs_le {l : List Int} (h : ∀ n ∈ l, I64ok n) : (encs l).length ≤ 10 * l.length := encs_len l h
theorem len_ok {n : Nat} (h : n ≤ 1000) : I64ok (n : Int) := by unfold I64ok; omega
theorem encT_le {t : List UInt8} (h : t.length ≤ 60) : (encT t).length ≤ 70 := by
 unfold encT
 rw [List.length_append]
 have := encI_le (len_ok (show t.length ≤ 1000 by omega))
 omega
theorem flat_le {α : Type} {f : α → List UInt8} {k : Nat} : ∀ (l : List α), (∀ x ∈ l, (f x).length ≤ k) → (l.flatMap f).length ≤ k * l.length
 | [], _ => by simp
 | x :: l, h => by
  have h1 := h x (by simp)
  have h2 := flat_le l (fun y hy => h y (by simp [hy]))
  rw [List.flatMap_cons, List.length_append, List.length_cons, Nat.mul_add]
  omega
theorem wantEnc_le {x : WantR} (h : x.ok) (hk : x.key.length ≤ 60) : (wantEnc x).length ≤ 100 := by
 unfold wantEnc
 have h1 := encT_le hk
 have h2 := encs_le (l := [x.up, x.down, x.ids]) (by simp [h.up, h.down, h.ids])
 simp only [List.length_append, List.length_cons, List.length_nil] at *
 omega
theorem sliceEnc_le {x : SliceR} (h : x.ok) (hk : x.key.length ≤ 60) : (sliceEnc x).length ≤ 110 := by
 unfold sliceEnc
 have h1 := encT_le hk
 have h2 := encs_le (l := [x.up, x.down, x.uu, x.ud]) (by simp [h.up, h.down, h.uu, h.ud])
 simp only [List.length_append, List.length_cons, List.length_nil] at *
 omega
theorem rangeEnc_le {x : RangeR} (h : x.ok) : (rangeEnc x).length ≤ 20 := by
 unfold rangeEnc
 have h2 := encs_le (l := [x.lo, x.hi]) (by simp [h.lo, h.hi])
 simpa using h2
theorem opEnc_le {o : OpR} (h : o.ok) (hf : o.few) : (opEnc o).length ≤ 600 := by
 obtain ⟨h1, h2, h3⟩ := hf
 unfold opEnc
 have g1 := headEnc_len o h
 have g2 := encT_le h1
 have g3 := encT_le h2
 have g4 := encs_le (l := [o.n, (o.dots.length : Int)]) (by simp [h.n, len_ok (show o.dots.length ≤ 1000 by omega)])
 have g5 := dotsEnc_len o.dots h.dots
 unfold encs at g4
 simp only [List.length_append, List.length_cons, List.length_nil] at *
 omega
theorem opsEnc_le {l : List OpR} (h : ∀ x ∈ l, x.ok) (hl : l.length ≤ 40) (hf : ∀ x ∈ l, x.few) : (opsEnc l).length ≤ 24010 := by
 unfold opsEnc
 have h1 := flat_le l (f := opEnc) (k := 600) (fun x hx => opEnc_le (h x hx) (hf x hx))
 have h2 := encs_le (l := [(l.length : Int)]) (by simp [len_ok (show l.length ≤ 1000 by omega)])
 simp only [List.length_append, List.length_cons, List.length_nil] at *
 omega
theorem cmdEnc_le {c : CmdR} (h : c.ok) (hf : c.few) : (cmdEnc c).length ≤ 30000 := by
 unfold cmdEnc
 have h1 := flat_le c.wants (f := wantEnc) (k := 100) (fun x hx => wantEnc_le (h.wants x hx) (hf.wk x hx))
 have h2 := encs_le (l := [c.kind, c.dev, c.ep, c.req, c.n, (c.wants.length : Int)]) (by simp [h.kind, h.dev, h.ep, h.req, h.n, len_ok (show c.wants.length ≤ 1000 by have := hf.wl; omega)])
 have h3 := opsEnc_le h.ops hf.ol hf.of
 have := hf.wl
 simp only [List.length_append, List.length_cons, List.length_nil] at *
 omega
theorem encL_le {l : List Int} (h : ∀ x ∈ l, I64ok x) (hl : l.length ≤ 200) : (encL l).length ≤ 2010 := by
 unfold encL
 have h1 := encs_len l h
 have h2 := encI_le (len_ok (show l.length ≤ 1000 by omega))
 rw [List.length_append]
 omega
theorem replyEnc_le {r : ReplyR} (h : r.ok) (hf : r.few) : (replyEnc r).length ≤ 12000 := by
 unfold replyEnc
 have h1 := flat_le r.slices (f := sliceEnc) (k := 110) (fun x hx => sliceEnc_le (h.slices x hx) (hf.sk x hx))
 have h2 := encs_le (l := [r.err, r.n, r.dev, r.ep, r.til, r.last, (r.slices.length : Int)]) (by simp [h.err, h.n, h.dev, h.ep, h.til, h.last, len_ok (show r.slices.length ≤ 1000 by have := hf.sl; omega)])
 have h3 := flat_le r.ids (f := rangeEnc) (k := 20) (fun x hx => rangeEnc_le (h.ids x hx))
 have h4 := encs_le (l := [(r.ids.length : Int)]) (by simp [len_ok (show r.ids.length ≤ 1000 by have := hf.il; omega)])
 have h5 := encL_le h.used hf.ul
 have g1 := hf.sl
 have g2 := hf.il
 simp only [List.length_append, List.length_cons, List.length_nil] at *
 omega
theorem bit1_ok (b : Bool) : I64ok (bit1 b) := by unfold bit1 I64ok; split <;> omega
theorem restEnc_le {m : MsgR} (h : m.ok) (hf : m.few) : (restEnc m).length ≤ 31000 := by
 have h1 := cmdEnc_le h.cmd hf.cmd
 have h2 := replyEnc_le h.rep hf.rep
 have h3 := opsEnc_le h.ops hf.ol hf.of
 have g1 := encs_le (l := [m.req, m.pos]) (by simp [h.req, h.pos])
 have g2 := encs_le (l := [m.ver, m.pos]) (by simp [h.ver, h.pos])
 have g3 := encs_le (l := [m.pos, m.nxt]) (by simp [h.pos, h.nxt])
 have g4 := encs_le (l := [m.req, m.err]) (by simp [h.req, h.err])
 have g5 := encs_le (l := m.subs.map bit1) (by intro n hn; obtain ⟨b, _, rfl⟩ := List.mem_map.1 hn; exact bit1_ok b)
 have g6 := hf.sub
 rw [List.length_map] at g5
 unfold restEnc
 simp only [List.length_cons, List.length_nil] at g1 g2 g3 g4
 split
 ·omega
 ·split
  ·rw [List.length_append]; omega
  ·split
   ·rw [List.length_append]; omega
   ·split
    ·rw [List.length_append]; omega
    ·omega
theorem bodyEnc_le {m : MsgR} (h : m.ok) (hf : m.few) : (bodyEnc m).length ≤ 32000 := by
 unfold bodyEnc
 have h1 := restEnc_le h hf
 have g1 := encs_le (l := [m.kind, m.dev]) (by simp [h.kind, h.dev])
 rw [List.length_append]
 simp only [List.length_cons, List.length_nil] at g1
 omega
/-- Not too much, keys of any length that a message may have. -/
structure CmdR.few2 (c : CmdR) : Prop where
 wl : c.wants.length ≤ 40
 wk : ∀ x ∈ c.wants, x.key.length ≤ 65535
 ol : c.ops.length ≤ 40
 of : ∀ x ∈ c.ops, x.few
structure ReplyR.few2 (r : ReplyR) : Prop where
 sl : r.slices.length ≤ 40
 sk : ∀ x ∈ r.slices, x.key.length ≤ 65535
 il : r.ids.length ≤ 200
 ul : r.used.length ≤ 200
structure MsgR.few2 (m : MsgR) : Prop where
 sub : m.subs.length ≤ 40
 cmd : m.cmd.few2
 rep : m.rep.few2
 ol : m.ops.length ≤ 40
 of : ∀ x ∈ m.ops, x.few
theorem MsgR.few.two {m : MsgR} (h : m.few) : m.few2 := ⟨h.sub, ⟨h.cmd.wl, fun x hx => by have := h.cmd.wk x hx; omega, h.cmd.ol, h.cmd.of⟩, ⟨h.rep.sl, fun x hx => by have := h.rep.sk x hx; omega, h.rep.il, h.rep.ul⟩, h.ol, h.of⟩
theorem encT_le2 {t : List UInt8} (h : t.length ≤ 65535) : (encT t).length ≤ 65545 := by
 unfold encT
 rw [List.length_append]
 have := encI_le (n := (t.length : Int)) (by unfold I64ok; omega)
 omega
theorem wantEnc_le2 {x : WantR} (h : x.ok) (hk : x.key.length ≤ 65535) : (wantEnc x).length ≤ 65580 := by
 unfold wantEnc
 have h1 := encT_le2 hk
 have h2 := encs_le (l := [x.up, x.down, x.ids]) (by simp [h.up, h.down, h.ids])
 simp only [List.length_append, List.length_cons, List.length_nil] at *
 omega
theorem sliceEnc_le2 {x : SliceR} (h : x.ok) (hk : x.key.length ≤ 65535) : (sliceEnc x).length ≤ 65590 := by
 unfold sliceEnc
 have h1 := encT_le2 hk
 have h2 := encs_le (l := [x.up, x.down, x.uu, x.ud]) (by simp [h.up, h.down, h.uu, h.ud])
 simp only [List.length_append, List.length_cons, List.length_nil] at *
 omega
theorem cmdEnc_le2 {c : CmdR} (h : c.ok) (hf : c.few2) : (cmdEnc c).length ≤ 2700000 := by
 unfold cmdEnc
 have h1 := flat_le c.wants (f := wantEnc) (k := 65580) (fun x hx => wantEnc_le2 (h.wants x hx) (hf.wk x hx))
 have h2 := encs_le (l := [c.kind, c.dev, c.ep, c.req, c.n, (c.wants.length : Int)]) (by simp [h.kind, h.dev, h.ep, h.req, h.n, len_ok (show c.wants.length ≤ 1000 by have := hf.wl; omega)])
 have h3 := opsEnc_le h.ops hf.ol hf.of
 have := hf.wl
 simp only [List.length_append, List.length_cons, List.length_nil] at *
 omega
theorem replyEnc_le2 {r : ReplyR} (h : r.ok) (hf : r.few2) : (replyEnc r).length ≤ 2700000 := by
 unfold replyEnc
 have h1 := flat_le r.slices (f := sliceEnc) (k := 65590) (fun x hx => sliceEnc_le2 (h.slices x hx) (hf.sk x hx))
 have h2 := encs_le (l := [r.err, r.n, r.dev, r.ep, r.til, r.last, (r.slices.length : Int)]) (by simp [h.err, h.n, h.dev, h.ep, h.til, h.last, len_ok (show r.slices.length ≤ 1000 by have := hf.sl; omega)])
 have h3 := flat_le r.ids (f := rangeEnc) (k := 20) (fun x hx => rangeEnc_le (h.ids x hx))
 have h4 := encs_le (l := [(r.ids.length : Int)]) (by simp [len_ok (show r.ids.length ≤ 1000 by have := hf.il; omega)])
 have h5 := encL_le h.used hf.ul
 have g1 := hf.sl
 have g2 := hf.il
 simp only [List.length_append, List.length_cons, List.length_nil] at *
 omega
theorem restEnc_le2 {m : MsgR} (h : m.ok) (hf : m.few2) : (restEnc m).length ≤ 2750000 := by
 have h1 := cmdEnc_le2 h.cmd hf.cmd
 have h2 := replyEnc_le2 h.rep hf.rep
 have h3 := opsEnc_le h.ops hf.ol hf.of
 have g1 := encs_le (l := [m.req, m.pos]) (by simp [h.req, h.pos])
 have g2 := encs_le (l := [m.ver, m.pos]) (by simp [h.ver, h.pos])
 have g3 := encs_le (l := [m.pos, m.nxt]) (by simp [h.pos, h.nxt])
 have g4 := encs_le (l := [m.req, m.err]) (by simp [h.req, h.err])
 have g5 := encs_le (l := m.subs.map bit1) (by intro n hn; obtain ⟨b, _, rfl⟩ := List.mem_map.1 hn; exact bit1_ok b)
 have g6 := hf.sub
 rw [List.length_map] at g5
 unfold restEnc
 simp only [List.length_cons, List.length_nil] at g1 g2 g3 g4
 split
 ·omega
 ·split
  ·rw [List.length_append]; omega
  ·split
   ·rw [List.length_append]; omega
   ·split
    ·rw [List.length_append]; omega
    ·omega
theorem bodyEnc_le2 {m : MsgR} (h : m.ok) (hf : m.few2) : (bodyEnc m).length ≤ 2800000 := by
 unfold bodyEnc
 have h1 := restEnc_le2 h hf
 have g1 := encs_le (l := [m.kind, m.dev]) (by simp [h.kind, h.dev])
 rw [List.length_append]
 simp only [List.length_cons, List.length_nil] at g1
 omega
end Go.Esc
/- Commands, messages, read plainly. -/
namespace Go.Esc
open Go.RowKit
set_option linter.unusedSimpArgs false
set_option linter.unusedVariables false
/-- How many there are. -/
def pSize (m : Int) (s : RS) : Nat × RS := if (rInt s).1 < 0 ∨ m < (rInt s).1 then (0, rFail (rInt s).2 4) else ((rInt s).1.toNat, (rInt s).2)
def pWant (s : RS) : WantR × RS :=
 let k := rText s
 let a := rInt k.2
 let b := rInt a.2
 let c := rInt b.2
 (⟨k.1, a.1, b.1, c.1⟩, c.2)
def pSlice (s : RS) : SliceR × RS :=
 let k := rText s
 let a := rInt k.2
 let b := rInt a.2
 let c := rInt b.2
 let d := rInt c.2
 (⟨k.1, a.1, b.1, c.1, d.1⟩, d.2)
def pRange (s : RS) : RangeR × RS :=
 let a := rInt s
 let b := rInt a.2
 (⟨a.1, b.1⟩, b.2)
def pRow {α : Type} (f : RS → α × RS) : Nat → RS → List α × RS
 | 0, s => ([], s)
 | n + 1, s => ((f s).1 :: (pRow f n (f s).2).1, (pRow f n (f s).2).2)
/-- An operation, all its dots, an error or none. -/
def wOp (s : RS) : OpR × RS :=
 let a := pHead s
 let s1 := if pBad a.2.1 then rFail a.2.2 4 else a.2.2
 let r := pAll (if pBad a.2.1 then 0 else a.2.1.toNat) s1
 ({ a.1 with dots := r.1 }, r.2)
def wOps (s : RS) : List OpR × RS := pRow wOp (pSize 20 s).1 (pSize 20 s).2
/-- What is wrong with operations: the first that may not be. -/
def opsErr : List OpR → Nat
 | [] => 0
 | o :: l => if checkOp o ≠ 0 then checkOp o else opsErr l
def wCmd (s : RS) : CmdR × RS :=
 let a := rInt s
 let b := rInt a.2
 let c := rInt b.2
 let d := rInt c.2
 let e := rInt d.2
 let n := pSize 20 e.2
 let w := pRow pWant n.1 n.2
 let o := wOps w.2
 (⟨a.1, b.1, c.1, d.1, e.1, w.1, o.1⟩, o.2)
def pErr (s : RS) : Int × RS := ((rInt s).1, if (rInt s).1 < 0 ∨ 22 < (rInt s).1 then rFail (rInt s).2 10 else (rInt s).2)
def wReply (s : RS) : ReplyR × RS :=
 let a := pErr s
 let b := rInt a.2
 let c := rInt b.2
 let d := rInt c.2
 let e := rInt d.2
 let f := rInt e.2
 let n := pSize 20 f.2
 let w := pRow pSlice n.1 n.2
 let m := pSize 100 w.2
 let i := pRow pRange m.1 m.2
 let u := rInts i.2
 (⟨a.1, b.1, c.1, d.1, e.1, f.1, w.1, i.1, u.1⟩, u.2)
def pSub (s : RS) : Bool × RS := (decide ((rInt s).1 = 1), if (rInt s).1 ≠ 0 ∧ (rInt s).1 ≠ 1 then rFail (rInt s).2 10 else (rInt s).2)
/-- What stands behind a message's kind. -/
def wBody (k : Int) (s : RS) : MsgR × RS :=
 let a := rInt s
 let z : MsgR := { MsgR.zero with kind := k, dev := a.1 }
 if k = 1 then ({ z with cmd := (wCmd a.2).1 }, (wCmd a.2).2) else
 if k = 2 then
  let b := rInt a.2
  let c := rInt b.2
  ({ z with req := b.1, pos := c.1, rep := (wReply c.2).1 }, (wReply c.2).2) else
 if k = 3 then
  let b := rInt a.2
  let c := rInt b.2
  ({ z with ver := b.1, pos := c.1, subs := (pRow pSub 3 c.2).1 }, (pRow pSub 3 c.2).2) else
 if k = 4 then
  let b := rInt a.2
  let c := rInt b.2
  ({ z with pos := b.1, nxt := c.1, ops := (wOps c.2).1 }, (wOps c.2).2) else
 if k = 5 then
  let b := rInt a.2
  ({ z with req := b.1, err := (pErr b.2).1 }, (pErr b.2).2) else (z, a.2)
def wMsg (l : List UInt8) : MsgR × RS := if (rInt ⟨l, 0⟩).1 < 1 ∨ 5 < (rInt ⟨l, 0⟩).1 then ({ MsgR.zero with kind := (rInt ⟨l, 0⟩).1 }, rFail (rInt ⟨l, 0⟩).2 3) else wBody (rInt ⟨l, 0⟩).1 (rInt ⟨l, 0⟩).2
/-- The first operation of a message that may not be. -/
def msgErr (m : MsgR) : Nat := if opsErr m.cmd.ops ≠ 0 then opsErr m.cmd.ops else opsErr m.ops
def parseErr (l : List UInt8) : Int :=
 if (one l).2 ≠ 0 then ((one l).2 : Int) else
 if rEnd (wMsg (one l).1).2 ≠ 0 then rEnd (wMsg (one l).1).2 else
 if 100 < (wMsg (one l).1).1.rep.used.length then 4 else (msgErr (wMsg (one l).1).1 : Int)
def parseMsg (l : List UInt8) : MsgR := if parseErr l = 0 then (wMsg (one l).1).1 else MsgR.zero
/-! ### written, and read again -/
theorem encs_cons (n : Int) (l : List Int) (r : List UInt8) : encs (n :: l) ++ r = encI n ++ (encs l ++ r) := by unfold encs; rw [List.flatMap_cons, List.append_assoc]
theorem encs_nil (r : List UInt8) : encs [] ++ r = r := rfl
theorem encs_app (l m : List Int) : encs (l ++ m) = encs l ++ encs m := List.flatMap_append ..
/-- A command that comes back. -/
structure CmdR.nice (c : CmdR) : Prop where
 ok : c.ok
 wl : c.wants.length ≤ 20
 wk : ∀ x ∈ c.wants, x.key.length ≤ 60
 ol : c.ops.length ≤ 20
 of : ∀ o ∈ c.ops, o.ok ∧ o.few ∧ o.dots.length ≤ 8 ∧ checkOp o = 0
structure ReplyR.nice (x : ReplyR) : Prop where
 ok : x.ok
 er : 0 ≤ x.err ∧ x.err ≤ 22
 sl : x.slices.length ≤ 20
 sk : ∀ s ∈ x.slices, s.key.length ≤ 60
 il : x.ids.length ≤ 100
 ul : x.used.length ≤ 100
/-- A message that comes back; what its kind names. -/
structure MsgR.nice (m : MsgR) : Prop where
 ok : m.ok
 kd : 1 ≤ m.kind ∧ m.kind ≤ 5
 er : 0 ≤ m.err ∧ m.err ≤ 22
 sb : m.subs.length = 3
 cmd : m.cmd.nice
 rep : m.rep.nice
 ol : m.ops.length ≤ 20
 of : ∀ o ∈ m.ops, o.ok ∧ o.few ∧ o.dots.length ≤ 8 ∧ checkOp o = 0
theorem MsgR.nice.few {m : MsgR} (h : m.nice) : m.few :=
 ⟨by rw [h.sb]; omega, ⟨by have := h.cmd.wl; omega, h.cmd.wk, by have := h.cmd.ol; omega, fun x hx => (h.cmd.of x hx).2.1⟩, ⟨by have := h.rep.sl; omega, h.rep.sk, by have := h.rep.il; omega, by have := h.rep.ul; omega⟩, by have := h.ol; omega, fun x hx => (h.of x hx).2.1⟩
theorem MsgR.nice.bytes {m : MsgR} (h : m.nice) : bytesErr m = 0 := by
 unfold bytesErr
 rw [if_neg (by have := h.kd; omega), if_neg (fun e => e.2 h.sb), if_neg]
 unfold manyM
 have g1 := h.cmd.wl
 have g2 := h.cmd.ol
 have g3 := h.rep.sl
 have g4 := h.rep.il
 have g5 := h.rep.ul
 have g6 := h.ol
 split
 ·rw [decide_eq_true_iff]; omega
 ·split
  ·rw [decide_eq_true_iff]; omega
  ·split
   ·rw [decide_eq_true_iff]; omega
   ·simp
end Go.Esc
/- Commands, replies, messages in memory; a writer's bytes. -/
namespace Go.Esc
open Go.RowKit
set_option linter.unusedSimpArgs false
set_option linter.unusedVariables false
/-- An operation, and where its dots lie. -/
structure OpW where
 o : OpR
 a : Option Addr
 c : Nat
def OpW.cells (x : OpW) : List Value := x.o.cells x.a x.c
structure OpW.good (x : OpW) (w : World) : Prop where
 rd : Rd w x.a (ds x.o.dots)
 lc : x.o.dots.length ≤ x.c
 cm : x.c ≤ maxLen
theorem kOp (x : OpW) : (OpW.cells x).length = 11 := rfl
theorem OpW.good.no {x : OpW} {w w' : World} (h : x.good w) (hx : Ext no w w') : x.good w' := ⟨h.rd.ext hx (fun _ _ h => h), h.lc, h.cm⟩
/-- The operations l lie at a. -/
def OpsIn (w : World) (a : Option Addr) (l : List OpR) : Prop := ∃ L : List OpW, L.map OpW.o = l ∧ Rd w a (rows OpW.cells L) ∧ ∀ x ∈ L, x.good w
theorem OpsIn.no {w w' : World} {a : Option Addr} {l : List OpR} (h : OpsIn w a l) (hx : Ext no w w') : OpsIn w' a l := by
 obtain ⟨L, h1, h2, h3⟩ := h
 exact ⟨L, h1, h2.ext hx (fun _ _ h => h), fun x hx' => (h3 x hx').no hx⟩
theorem OpsIn.nil (w : World) (a : Option Addr) : OpsIn w a [] := ⟨[], rfl, Rd.nil _ _, fun x hx => by cases hx⟩
def WantR.cells (x : WantR) : List Value := [.string (str x.key), .int .i64 x.up, .int .i64 x.down, .int .i64 x.ids]
def SliceR.cells (x : SliceR) : List Value := [.string (str x.key), .int .i64 x.up, .int .i64 x.down, .int .i64 x.uu, .int .i64 x.ud]
def RangeR.cells (x : RangeR) : List Value := [.int .i64 x.lo, .int .i64 x.hi]
def bls (l : List Bool) : List Value := l.map .bool
@[simp] theorem bls_length (l : List Bool) : (bls l).length = l.length := by simp [bls]
theorem kWant (x : WantR) : x.cells.length = 4 := rfl
theorem kSlice (x : SliceR) : x.cells.length = 5 := rfl
theorem kRange (x : RangeR) : x.cells.length = 2 := rfl
/-- Where the rows of a command, a reply, a message lie. -/
structure CmdA where
 w : Option Addr
 wc : Nat
 o : Option Addr
 oc : Nat
structure ReplyA where
 s : Option Addr
 sc : Nat
 i : Option Addr
 ic : Nat
 u : Option Addr
 uc : Nat
structure MsgA where
 b : Option Addr
 bc : Nat
 c : CmdA
 r : ReplyA
 o : Option Addr
 oc : Nat
def CmdA.zero : CmdA := ⟨none, 0, none, 0⟩
def ReplyA.zero : ReplyA := ⟨none, 0, none, 0, none, 0⟩
def MsgA.zero : MsgA := ⟨none, 0, CmdA.zero, ReplyA.zero, none, 0⟩
def CmdR.cells (c : CmdR) (h : CmdA) : List Value := [.int .i64 c.kind, .int .i64 c.dev, .int .i64 c.ep, .int .i64 c.req, .int .i64 c.n, .slice h.w c.wants.length h.wc, .slice h.o c.ops.length h.oc]
def ReplyR.cells (r : ReplyR) (h : ReplyA) : List Value := [.int .i64 r.err, .int .i64 r.n, .int .i64 r.dev, .int .i64 r.ep, .int .i64 r.til, .int .i64 r.last, .slice h.s r.slices.length h.sc, .slice h.i r.ids.length h.ic, .slice h.u r.used.length h.uc]
def MsgR.cells (m : MsgR) (h : MsgA) : List Value :=
 [.int .i64 m.kind, .int .i64 m.dev, .int .i64 m.req, .int .i64 m.ver, .int .i64 m.pos, .int .i64 m.nxt, .slice h.b m.subs.length h.bc, .int .i64 m.err,
  .int .i64 m.cmd.kind, .int .i64 m.cmd.dev, .int .i64 m.cmd.ep, .int .i64 m.cmd.req, .int .i64 m.cmd.n, .slice h.c.w m.cmd.wants.length h.c.wc, .slice h.c.o m.cmd.ops.length h.c.oc,
  .int .i64 m.rep.err, .int .i64 m.rep.n, .int .i64 m.rep.dev, .int .i64 m.rep.ep, .int .i64 m.rep.til, .int .i64 m.rep.last, .slice h.r.s m.rep.slices.length h.r.sc, .slice h.r.i m.rep.ids.length h.r.ic, .slice h.r.u m.rep.used.length h.r.uc, .slice h.o m.ops.length h.oc]
def CmdR.val (c : CmdR) (h : CmdA) : Value := .agg #[.int .i64 c.kind, .int .i64 c.dev, .int .i64 c.ep, .int .i64 c.req, .int .i64 c.n, .slice h.w c.wants.length h.wc, .slice h.o c.ops.length h.oc]
def ReplyR.val (r : ReplyR) (h : ReplyA) : Value := .agg #[.int .i64 r.err, .int .i64 r.n, .int .i64 r.dev, .int .i64 r.ep, .int .i64 r.til, .int .i64 r.last, .slice h.s r.slices.length h.sc, .slice h.i r.ids.length h.ic, .slice h.u r.used.length h.uc]
def MsgR.val (m : MsgR) (h : MsgA) : Value :=
 .agg #[.int .i64 m.kind, .int .i64 m.dev, .int .i64 m.req, .int .i64 m.ver, .int .i64 m.pos, .int .i64 m.nxt, .slice h.b m.subs.length h.bc, .int .i64 m.err,
  .int .i64 m.cmd.kind, .int .i64 m.cmd.dev, .int .i64 m.cmd.ep, .int .i64 m.cmd.req, .int .i64 m.cmd.n, .slice h.c.w m.cmd.wants.length h.c.wc, .slice h.c.o m.cmd.ops.length h.c.oc,
  .int .i64 m.rep.err, .int .i64 m.rep.n, .int .i64 m.rep.dev, .int .i64 m.rep.ep, .int .i64 m.rep.til, .int .i64 m.rep.last, .slice h.r.s m.rep.slices.length h.r.sc, .slice h.r.i m.rep.ids.length h.r.ic, .slice h.r.u m.rep.used.length h.r.uc, .slice h.o m.ops.length h.oc]
structure CmdR.In (c : CmdR) (w : World) (h : CmdA) : Prop where
 x : Rd w h.w (rows WantR.cells c.wants)
 o : OpsIn w h.o c.ops
 wl : c.wants.length ≤ h.wc
 ol : c.ops.length ≤ h.oc
 wm : h.wc ≤ maxLen
 om : h.oc ≤ maxLen
structure ReplyR.In (r : ReplyR) (w : World) (h : ReplyA) : Prop where
 s : Rd w h.s (rows SliceR.cells r.slices)
 i : Rd w h.i (rows RangeR.cells r.ids)
 u : Rd w h.u (is r.used)
 sl : r.slices.length ≤ h.sc
 il : r.ids.length ≤ h.ic
 ul : r.used.length ≤ h.uc
 sm : h.sc ≤ maxLen
 im : h.ic ≤ maxLen
 um : h.uc ≤ maxLen
structure MsgR.In (m : MsgR) (w : World) (h : MsgA) : Prop where
 b : Rd w h.b (bls m.subs)
 c : m.cmd.In w h.c
 r : m.rep.In w h.r
 o : OpsIn w h.o m.ops
 bl : m.subs.length ≤ h.bc
 bm : h.bc ≤ maxLen
 ol : m.ops.length ≤ h.oc
 om : h.oc ≤ maxLen
theorem CmdR.In.no {c : CmdR} {w w' : World} {h : CmdA} (m : c.In w h) (hx : Ext no w w') : c.In w' h := ⟨m.x.ext hx (fun _ _ h => h), m.o.no hx, m.wl, m.ol, m.wm, m.om⟩
theorem ReplyR.In.no {r : ReplyR} {w w' : World} {h : ReplyA} (m : r.In w h) (hx : Ext no w w') : r.In w' h := ⟨m.s.ext hx (fun _ _ h => h), m.i.ext hx (fun _ _ h => h), m.u.ext hx (fun _ _ h => h), m.sl, m.il, m.ul, m.sm, m.im, m.um⟩
theorem MsgR.In.no {m : MsgR} {w w' : World} {h : MsgA} (g : m.In w h) (hx : Ext no w w') : m.In w' h := ⟨g.b.ext hx (fun _ _ h => h), g.c.no hx, g.r.no hx, g.o.no hx, g.bl, g.bm, g.ol, g.om⟩
theorem CmdR.In.zero (w : World) : CmdR.zero.In w CmdA.zero := ⟨Rd.nil _ _, OpsIn.nil _ _, Nat.le_refl _, Nat.le_refl _, Nat.zero_le _, Nat.zero_le _⟩
theorem ReplyR.In.zero (w : World) : ReplyR.zero.In w ReplyA.zero := ⟨Rd.nil _ _, Rd.nil _ _, Rd.nil _ _, Nat.le_refl _, Nat.le_refl _, Nat.le_refl _, Nat.zero_le _, Nat.zero_le _, Nat.zero_le _⟩
theorem MsgR.In.zero (w : World) : MsgR.zero.In w MsgA.zero := ⟨Rd.nil _ _, CmdR.In.zero w, ReplyR.In.zero w, OpsIn.nil _ _, Nat.le_refl _, Nat.zero_le _, Nat.le_refl _, Nat.zero_le _⟩
/-! ### a writer: a block of one cell, a slice -/
/-- The writer at g has written l. -/
def Wtr (T : TypeId) (w : World) (g : Nat) (l : List UInt8) : Prop := ∃ a c, w.heap[g]? = some (.cells #[.slice a l.length c] T (0, 0)) ∧ Rd w a (bs l)
/-- The first cell is no slice. -/
def plainHd (cs : List Value) : Prop := ∀ u, cs[0]? = some u → ∀ a n c, u ≠ .slice a n c
theorem rd_off {T : TypeId} {w : World} {g : Nat} {v : Value} {x : Option Addr} {n c : Nat} (hg : w.heap[g]? = some (.cells #[v] T (0, 0))) (hv : v = .slice x n c) {a : Option Addr} {cs : List Value} (hr : Rd w a cs) (hp : plainHd cs) (hn : cs ≠ []) : ∀ ad, a = some ad → ad.block ≠ g := by
 intro ad ha e
 have hl : 0 < cs.length := List.length_pos_iff.2 hn
 obtain ⟨b, off, hab, _⟩ := hr.shape hl
 rw [hab] at ha
 cases ha
 have e : b = g := e
 subst e
 rw [hab] at hr
 have hc := hr.lookup 0 hl
 simp only [World.cell?, hg] at hc
 match off, hc with
 | 0, hc =>
  simp at hc
  exact hp _ (List.getElem?_eq_getElem hl) x n c (hc.symm.trans hv)
 | k + 1, hc => simp at hc
theorem plain_bs (l : List UInt8) : plainHd (bs l) := by
 intro u hu a n c e
 obtain ⟨q, hq⟩ := bs_int l u (List.mem_of_getElem? hu)
 rw [hq] at e
 cases e
theorem plain_is (l : List Int) : plainHd (is l) := by
 intro u hu a n c e
 cases l with
 | nil => cases hu
 | cons x l => cases hu; cases e
theorem plain_bls (l : List Bool) : plainHd (bls l) := by
 intro u hu a n c e
 cases l with
 | nil => cases hu
 | cons x l => cases hu; cases e
theorem plain_ds (l : List DotR) : plainHd (ds l) := by
 intro u hu a n c e
 cases l with
 | nil => cases hu
 | cons x l => cases hu; cases e
theorem plain_ops (l : List OpW) : plainHd (rows OpW.cells l) := by
 intro u hu a n c e
 cases l with
 | nil => cases hu
 | cons x l => cases hu; cases e
theorem plain_wants (l : List WantR) : plainHd (rows WantR.cells l) := by
 intro u hu a n c e
 cases l with
 | nil => cases hu
 | cons x l => cases hu; cases e
theorem plain_slices (l : List SliceR) : plainHd (rows SliceR.cells l) := by
 intro u hu a n c e
 cases l with
 | nil => cases hu
 | cons x l => cases hu; cases e
theorem plain_ranges (l : List RangeR) : plainHd (rows RangeR.cells l) := by
 intro u hu a n c e
 cases l with
 | nil => cases hu
 | cons x l => cases hu; cases e
theorem Wtr.lt {T : TypeId} {w : World} {g : Nat} {l : List UInt8} (h : Wtr T w g l) : g < w.heap.size := by
 obtain ⟨a, c, hg, _⟩ := h
 exact lt_of_block hg
/-- What is read stays, whatever the writer writes. -/
theorem Wtr.keeps {T : TypeId} {w w' : World} {g : Nat} {l : List UInt8} (h : Wtr T w g l) (hx : Ext (just g) w w') {a : Option Addr} {cs : List Value} (hr : Rd w a cs) (hp : plainHd cs) : Rd w' a cs := by
 by_cases hn : cs = []
 ·subst hn; exact Rd.nil _ _
 ·obtain ⟨x, c, hg, _⟩ := h
  exact hr.ext hx (fun ad ha e => rd_off hg rfl hr hp hn ad ha e)
theorem Wtr.ops {T : TypeId} {w w' : World} {g : Nat} {l : List UInt8} (h : Wtr T w g l) (hx : Ext (just g) w w') {a : Option Addr} {m : List OpR} (hr : OpsIn w a m) : OpsIn w' a m := by
 obtain ⟨L, h1, h2, h3⟩ := hr
 exact ⟨L, h1, h.keeps hx h2 (plain_ops L), fun x hx' => ⟨h.keeps hx (h3 x hx').rd (plain_ds _), (h3 x hx').lc, (h3 x hx').cm⟩⟩
theorem Wtr.cmd {T : TypeId} {w w' : World} {g : Nat} {l : List UInt8} (h : Wtr T w g l) (hx : Ext (just g) w w') {c : CmdR} {k : CmdA} (m : c.In w k) : c.In w' k := ⟨h.keeps hx m.x (plain_wants _), h.ops hx m.o, m.wl, m.ol, m.wm, m.om⟩
theorem Wtr.reply {T : TypeId} {w w' : World} {g : Nat} {l : List UInt8} (h : Wtr T w g l) (hx : Ext (just g) w w') {r : ReplyR} {k : ReplyA} (m : r.In w k) : r.In w' k := ⟨h.keeps hx m.s (plain_slices _), h.keeps hx m.i (plain_ranges _), h.keeps hx m.u (plain_is _), m.sl, m.il, m.ul, m.sm, m.im, m.um⟩
theorem Wtr.msg {T : TypeId} {w w' : World} {g : Nat} {l : List UInt8} (h : Wtr T w g l) (hx : Ext (just g) w w') {r : MsgR} {k : MsgA} (m : r.In w k) : r.In w' k := ⟨h.keeps hx m.b (plain_bls _), h.cmd hx m.c, h.reply hx m.r, h.ops hx m.o, m.bl, m.bm, m.ol, m.om⟩
theorem Wtr.blk {w w' : World} {g : Nat} (hx : Ext (just g) w w') {k : Nat} {cs : List Value} (h : Blk w k cs) (hn : cs ≠ []) (hk : k ≠ g) : Blk w' k cs := h.ext hn hx hk
theorem Wtr.open {T : TypeId} {w : World} {g : Nat} {l : List UInt8} (h : Wtr T w g l) : ∃ a c, w.cell? ⟨g, 0, none⟩ = some (.slice a l.length c) ∧ w.frozen? ⟨g, 0, none⟩ = false ∧ Rd w a (bs l) := by
 obtain ⟨a, c, hg, hr⟩ := h
 exact ⟨a, c, cell_of_one hg, free_of_one hg, hr⟩
theorem Wtr.on {T : TypeId} {w w' : World} {g : Nat} {l : List UInt8} (h : Wtr T w g l) (hx : Ext no w w') : Wtr T w' g l := by
 obtain ⟨a, c, hg, hr⟩ := h
 exact ⟨a, c, (hx.block g (lt_of_block hg) (fun h => h)).trans hg, hr.ext hx (fun _ _ h => h)⟩
/-- The writer's cell takes what was written. -/
theorem Wtr.put {T : TypeId} {w w2 : World} {g : Nat} {l : List UInt8} (h : Wtr T w g l) (hx : Ext no w w2) {a' : Option Addr} {c' n : Nat} {M : List UInt8} (hr : Rd w2 a' (bs M)) (hn : n = M.length) :
  Wtr T (w2.setCell ⟨g, 0, none⟩ (.slice a' n c')) g M ∧ Ext (just g) w (w2.setCell ⟨g, 0, none⟩ (.slice a' n c')) := by
 subst hn
 obtain ⟨a, c, hg, _⟩ := h
 have hg2 := (hx.block g (lt_of_block hg) (fun h => h)).trans hg
 have hs : Ext (just g) w2 (w2.setCell ⟨g, 0, none⟩ (.slice a' M.length c')) := Ext.setCell _ _ _ rfl
 refine ⟨⟨a', c', one_setCell hg2, ?_⟩, (hx.mono (fun _ _ h => absurd h (fun h => h))).comp hs⟩
 by_cases hM : bs M = []
 ·rw [hM]; exact Rd.nil _ _
 ·exact hr.ext hs (fun ad ha e => rd_off hg2 rfl hr (plain_bs M) hM ad ha e)
theorem Wtr.new (T : TypeId) (w : World) : Wtr T (w.alloc (.cells #[.slice none 0 0] T)) w.heap.size [] := ⟨none, 0, heap_alloc_new w _, Rd.nil _ _⟩
theorem Wtr.cast {T : TypeId} {w : World} {g : Nat} {l m : List UInt8} (h : Wtr T w g l) (e : l = m) : Wtr T w g m := e ▸ h
end Go.Esc
