/- Commands, replies, messages, plainly: their bytes; how they are read. -/
import Derived.Test.YtddobhihjljcgaaOpX
import Derived.Test.YtddobhihjljcgaaOpZ
import Derived.Test.YtddobhihjljcgaaMA
namespace Go.Esc
open Go.RowKit
set_option linter.unusedSimpArgs false
set_option linter.unusedVariables false

structure WantR where
  key : List UInt8
  up : Int
  down : Int
  ids : Int
structure SliceR where
  key : List UInt8
  up : Int
  down : Int
  uu : Int
  ud : Int
structure RangeR where
  lo : Int
  hi : Int
structure CmdR where
  kind : Int
  dev : Int
  ep : Int
  req : Int
  n : Int
  wants : List WantR
  ops : List OpR
structure ReplyR where
  err : Int
  n : Int
  dev : Int
  ep : Int
  til : Int
  last : Int
  slices : List SliceR
  ids : List RangeR
  used : List Int
structure MsgR where
  kind : Int
  dev : Int
  req : Int
  ver : Int
  pos : Int
  nxt : Int
  subs : List Bool
  err : Int
  cmd : CmdR
  rep : ReplyR
  ops : List OpR
def CmdR.zero : CmdR := ⟨0, 0, 0, 0, 0, [], []⟩
def ReplyR.zero : ReplyR := ⟨0, 0, 0, 0, 0, 0, [], [], []⟩
def MsgR.zero : MsgR := ⟨0, 0, 0, 0, 0, 0, [], 0, CmdR.zero, ReplyR.zero, []⟩

/-! ### bytes -/
def encs (l : List Int) : List UInt8 := l.flatMap encI
def wantEnc (x : WantR) : List UInt8 := encT x.key ++ encs [x.up, x.down, x.ids]
def sliceEnc (x : SliceR) : List UInt8 := encT x.key ++ encs [x.up, x.down, x.uu, x.ud]
def rangeEnc (x : RangeR) : List UInt8 := encs [x.lo, x.hi]
def opsEnc (l : List OpR) : List UInt8 := encs [(l.length : Int)] ++ l.flatMap opEnc
def cmdEnc (c : CmdR) : List UInt8 := encs [c.kind, c.dev, c.ep, c.req, c.n, (c.wants.length : Int)] ++ c.wants.flatMap wantEnc ++ opsEnc c.ops
def replyEnc (r : ReplyR) : List UInt8 := encs [r.err, r.n, r.dev, r.ep, r.til, r.last, (r.slices.length : Int)] ++ r.slices.flatMap sliceEnc ++ encs [(r.ids.length : Int)] ++ r.ids.flatMap rangeEnc ++ encL r.used
def bit1 (b : Bool) : Int := if b = true then 1 else 0
def restEnc (m : MsgR) : List UInt8 :=
  if m.kind = 1 then cmdEnc m.cmd else
  if m.kind = 2 then encs [m.req, m.pos] ++ replyEnc m.rep else
  if m.kind = 3 then encs [m.ver, m.pos] ++ encs (m.subs.map bit1) else
  if m.kind = 4 then encs [m.pos, m.nxt] ++ opsEnc m.ops else
  encs [m.req, m.err]
def bodyEnc (m : MsgR) : List UInt8 := encs [m.kind, m.dev] ++ restEnc m
def manyM (m : MsgR) : Bool :=
  if m.kind = 1 then decide (20 < m.cmd.wants.length ∨ 20 < m.cmd.ops.length) else
  if m.kind = 2 then decide (20 < m.rep.slices.length ∨ 100 < m.rep.ids.length ∨ 100 < m.rep.used.length) else
  if m.kind = 4 then decide (20 < m.ops.length) else false
def bytesErr (m : MsgR) : Nat := if m.kind < 1 ∨ 5 < m.kind then 3 else if m.kind = 3 ∧ m.subs.length ≠ 3 then 1 else if manyM m = true then 4 else 0
def bytesOf (m : MsgR) : List UInt8 := if bytesErr m = 0 then frame (bodyEnc m) else []

/-! ### such as may be -/
def keyOk (k : List UInt8) : Prop := k.length ≤ 60
structure WantR.ok (x : WantR) : Prop where
  key : x.key.length ≤ maxLen
  up : I64ok x.up
  down : I64ok x.down
  ids : I64ok x.ids
structure SliceR.ok (x : SliceR) : Prop where
  key : x.key.length ≤ maxLen
  up : I64ok x.up
  down : I64ok x.down
  uu : I64ok x.uu
  ud : I64ok x.ud
structure RangeR.ok (x : RangeR) : Prop where
  lo : I64ok x.lo
  hi : I64ok x.hi
structure CmdR.ok (c : CmdR) : Prop where
  kind : I64ok c.kind
  dev : I64ok c.dev
  ep : I64ok c.ep
  req : I64ok c.req
  n : I64ok c.n
  wants : ∀ x ∈ c.wants, x.ok
  ops : ∀ x ∈ c.ops, x.ok
structure ReplyR.ok (r : ReplyR) : Prop where
  err : I64ok r.err
  n : I64ok r.n
  dev : I64ok r.dev
  ep : I64ok r.ep
  til : I64ok r.til
  last : I64ok r.last
  slices : ∀ x ∈ r.slices, x.ok
  ids : ∀ x ∈ r.ids, x.ok
  used : ∀ x ∈ r.used, I64ok x
structure MsgR.ok (m : MsgR) : Prop where
  kind : I64ok m.kind
  dev : I64ok m.dev
  req : I64ok m.req
  ver : I64ok m.ver
  pos : I64ok m.pos
  nxt : I64ok m.nxt
  err : I64ok m.err
  cmd : m.cmd.ok
  rep : m.rep.ok
  ops : ∀ x ∈ m.ops, x.ok
/-- Not too much: an operation, a command, a message. -/
def OpR.few (o : OpR) : Prop := o.key.length ≤ 60 ∧ o.text.length ≤ 60 ∧ o.dots.length ≤ 12
structure CmdR.few (c : CmdR) : Prop where
  wl : c.wants.length ≤ 40
  wk : ∀ x ∈ c.wants, x.key.length ≤ 60
  ol : c.ops.length ≤ 40
  of : ∀ x ∈ c.ops, x.few
structure ReplyR.few (r : ReplyR) : Prop where
  sl : r.slices.length ≤ 40
  sk : ∀ x ∈ r.slices, x.key.length ≤ 60
  il : r.ids.length ≤ 200
  ul : r.used.length ≤ 200
structure MsgR.few (m : MsgR) : Prop where
  sub : m.subs.length ≤ 40
  cmd : m.cmd.few
  rep : m.rep.few
  ol : m.ops.length ≤ 40
  of : ∀ x ∈ m.ops, x.few

/-! ### how long -/
theorem encI_le {n : Int} (h : I64ok n) : (encI n).length ≤ 10 := by
  have := encs_len [n] (by simpa using h)
  simpa using this
theorem encs_le {l : List Int} (h : ∀ n ∈ l, I64ok n) : (encs l).length ≤ 10 * l.length := encs_len l h
theorem len_ok {n : Nat} (h : n ≤ 1000) : I64ok (n : Int) := by unfold I64ok; omega
theorem encT_le {t : List UInt8} (h : t.length ≤ 60) : (encT t).length ≤ 70 := by
  unfold encT
  rw [List.length_append]
  have := encI_le (len_ok (show t.length ≤ 1000 by omega))
  omega
theorem flat_le {α : Type} {f : α → List UInt8} {k : Nat} : ∀ (l : List α), (∀ x ∈ l, (f x).length ≤ k) → (l.flatMap f).length ≤ k * l.length
  | [], _ => by simp
  | x :: l, h => by
    have h1 := h x (by simp)
    have h2 := flat_le l (fun y hy => h y (by simp [hy]))
    rw [List.flatMap_cons, List.length_append, List.length_cons, Nat.mul_add]
    omega
theorem wantEnc_le {x : WantR} (h : x.ok) (hk : x.key.length ≤ 60) : (wantEnc x).length ≤ 100 := by
  unfold wantEnc
  have h1 := encT_le hk
  have h2 := encs_le (l := [x.up, x.down, x.ids]) (by simp [h.up, h.down, h.ids])
  simp only [List.length_append, List.length_cons, List.length_nil] at *
  omega
theorem sliceEnc_le {x : SliceR} (h : x.ok) (hk : x.key.length ≤ 60) : (sliceEnc x).length ≤ 110 := by
  unfold sliceEnc
  have h1 := encT_le hk
  have h2 := encs_le (l := [x.up, x.down, x.uu, x.ud]) (by simp [h.up, h.down, h.uu, h.ud])
  simp only [List.length_append, List.length_cons, List.length_nil] at *
  omega
theorem rangeEnc_le {x : RangeR} (h : x.ok) : (rangeEnc x).length ≤ 20 := by
  unfold rangeEnc
  have h2 := encs_le (l := [x.lo, x.hi]) (by simp [h.lo, h.hi])
  simpa using h2
theorem opEnc_le {o : OpR} (h : o.ok) (hf : o.few) : (opEnc o).length ≤ 600 := by
  obtain ⟨h1, h2, h3⟩ := hf
  unfold opEnc
  have g1 := headEnc_len o h
  have g2 := encT_le h1
  have g3 := encT_le h2
  have g4 := encs_le (l := [o.n, (o.dots.length : Int)]) (by simp [h.n, len_ok (show o.dots.length ≤ 1000 by omega)])
  have g5 := dotsEnc_len o.dots h.dots
  unfold encs at g4
  simp only [List.length_append, List.length_cons, List.length_nil] at *
  omega
theorem opsEnc_le {l : List OpR} (h : ∀ x ∈ l, x.ok) (hl : l.length ≤ 40) (hf : ∀ x ∈ l, x.few) : (opsEnc l).length ≤ 24010 := by
  unfold opsEnc
  have h1 := flat_le l (f := opEnc) (k := 600) (fun x hx => opEnc_le (h x hx) (hf x hx))
  have h2 := encs_le (l := [(l.length : Int)]) (by simp [len_ok (show l.length ≤ 1000 by omega)])
  simp only [List.length_append, List.length_cons, List.length_nil] at *
  omega
theorem cmdEnc_le {c : CmdR} (h : c.ok) (hf : c.few) : (cmdEnc c).length ≤ 30000 := by
  unfold cmdEnc
  have h1 := flat_le c.wants (f := wantEnc) (k := 100) (fun x hx => wantEnc_le (h.wants x hx) (hf.wk x hx))
  have h2 := encs_le (l := [c.kind, c.dev, c.ep, c.req, c.n, (c.wants.length : Int)]) (by simp [h.kind, h.dev, h.ep, h.req, h.n, len_ok (show c.wants.length ≤ 1000 by have := hf.wl; omega)])
  have h3 := opsEnc_le h.ops hf.ol hf.of
  have := hf.wl
  simp only [List.length_append, List.length_cons, List.length_nil] at *
  omega
theorem encL_le {l : List Int} (h : ∀ x ∈ l, I64ok x) (hl : l.length ≤ 200) : (encL l).length ≤ 2010 := by
  unfold encL
  have h1 := encs_len l h
  have h2 := encI_le (len_ok (show l.length ≤ 1000 by omega))
  rw [List.length_append]
  omega
theorem replyEnc_le {r : ReplyR} (h : r.ok) (hf : r.few) : (replyEnc r).length ≤ 12000 := by
  unfold replyEnc
  have h1 := flat_le r.slices (f := sliceEnc) (k := 110) (fun x hx => sliceEnc_le (h.slices x hx) (hf.sk x hx))
  have h2 := encs_le (l := [r.err, r.n, r.dev, r.ep, r.til, r.last, (r.slices.length : Int)]) (by simp [h.err, h.n, h.dev, h.ep, h.til, h.last, len_ok (show r.slices.length ≤ 1000 by have := hf.sl; omega)])
  have h3 := flat_le r.ids (f := rangeEnc) (k := 20) (fun x hx => rangeEnc_le (h.ids x hx))
  have h4 := encs_le (l := [(r.ids.length : Int)]) (by simp [len_ok (show r.ids.length ≤ 1000 by have := hf.il; omega)])
  have h5 := encL_le h.used hf.ul
  have g1 := hf.sl
  have g2 := hf.il
  simp only [List.length_append, List.length_cons, List.length_nil] at *
  omega
theorem bit1_ok (b : Bool) : I64ok (bit1 b) := by unfold bit1 I64ok; split <;> omega
theorem restEnc_le {m : MsgR} (h : m.ok) (hf : m.few) : (restEnc m).length ≤ 31000 := by
  have h1 := cmdEnc_le h.cmd hf.cmd
  have h2 := replyEnc_le h.rep hf.rep
  have h3 := opsEnc_le h.ops hf.ol hf.of
  have g1 := encs_le (l := [m.req, m.pos]) (by simp [h.req, h.pos])
  have g2 := encs_le (l := [m.ver, m.pos]) (by simp [h.ver, h.pos])
  have g3 := encs_le (l := [m.pos, m.nxt]) (by simp [h.pos, h.nxt])
  have g4 := encs_le (l := [m.req, m.err]) (by simp [h.req, h.err])
  have g5 := encs_le (l := m.subs.map bit1) (by intro n hn; obtain ⟨b, _, rfl⟩ := List.mem_map.1 hn; exact bit1_ok b)
  have g6 := hf.sub
  rw [List.length_map] at g5
  unfold restEnc
  simp only [List.length_cons, List.length_nil] at g1 g2 g3 g4
  split
  · omega
  · split
    · rw [List.length_append]; omega
    · split
      · rw [List.length_append]; omega
      · split
        · rw [List.length_append]; omega
        · omega
theorem bodyEnc_le {m : MsgR} (h : m.ok) (hf : m.few) : (bodyEnc m).length ≤ 32000 := by
  unfold bodyEnc
  have h1 := restEnc_le h hf
  have g1 := encs_le (l := [m.kind, m.dev]) (by simp [h.kind, h.dev])
  rw [List.length_append]
  simp only [List.length_cons, List.length_nil] at g1
  omega
end Go.Esc
