/- Commands, messages, read plainly. -/
import Derived.Test.YtddobhihjljcgaaWiA
namespace Go.Esc
open Go.RowKit
set_option linter.unusedSimpArgs false
set_option linter.unusedVariables false

/-- How many there are. -/
def pSize (m : Int) (s : RS) : Nat × RS := if (rInt s).1 < 0 ∨ m < (rInt s).1 then (0, rFail (rInt s).2 4) else ((rInt s).1.toNat, (rInt s).2)
def pWant (s : RS) : WantR × RS :=
  let k := rText s
  let a := rInt k.2
  let b := rInt a.2
  let c := rInt b.2
  (⟨k.1, a.1, b.1, c.1⟩, c.2)
def pSlice (s : RS) : SliceR × RS :=
  let k := rText s
  let a := rInt k.2
  let b := rInt a.2
  let c := rInt b.2
  let d := rInt c.2
  (⟨k.1, a.1, b.1, c.1, d.1⟩, d.2)
def pRange (s : RS) : RangeR × RS :=
  let a := rInt s
  let b := rInt a.2
  (⟨a.1, b.1⟩, b.2)
def pRow {α : Type} (f : RS → α × RS) : Nat → RS → List α × RS
  | 0, s => ([], s)
  | n + 1, s => ((f s).1 :: (pRow f n (f s).2).1, (pRow f n (f s).2).2)
/-- An operation, all its dots, an error or none. -/
def wOp (s : RS) : OpR × RS :=
  let a := pHead s
  let s1 := if pBad a.2.1 then rFail a.2.2 4 else a.2.2
  let r := pAll (if pBad a.2.1 then 0 else a.2.1.toNat) s1
  ({ a.1 with dots := r.1 }, r.2)
def wOps (s : RS) : List OpR × RS := pRow wOp (pSize 20 s).1 (pSize 20 s).2
/-- What is wrong with operations: the first that may not be. -/
def opsErr : List OpR → Nat
  | [] => 0
  | o :: l => if checkOp o ≠ 0 then checkOp o else opsErr l
def wCmd (s : RS) : CmdR × RS :=
  let a := rInt s
  let b := rInt a.2
  let c := rInt b.2
  let d := rInt c.2
  let e := rInt d.2
  let n := pSize 20 e.2
  let w := pRow pWant n.1 n.2
  let o := wOps w.2
  (⟨a.1, b.1, c.1, d.1, e.1, w.1, o.1⟩, o.2)
def pErr (s : RS) : Int × RS := ((rInt s).1, if (rInt s).1 < 0 ∨ 22 < (rInt s).1 then rFail (rInt s).2 10 else (rInt s).2)
def wReply (s : RS) : ReplyR × RS :=
  let a := pErr s
  let b := rInt a.2
  let c := rInt b.2
  let d := rInt c.2
  let e := rInt d.2
  let f := rInt e.2
  let n := pSize 20 f.2
  let w := pRow pSlice n.1 n.2
  let m := pSize 100 w.2
  let i := pRow pRange m.1 m.2
  let u := rInts i.2
  (⟨a.1, b.1, c.1, d.1, e.1, f.1, w.1, i.1, u.1⟩, u.2)
def pSub (s : RS) : Bool × RS := (decide ((rInt s).1 = 1), if (rInt s).1 ≠ 0 ∧ (rInt s).1 ≠ 1 then rFail (rInt s).2 10 else (rInt s).2)
/-- What stands behind a message's kind. -/
def wBody (k : Int) (s : RS) : MsgR × RS :=
  let a := rInt s
  let z : MsgR := { MsgR.zero with kind := k, dev := a.1 }
  if k = 1 then ({ z with cmd := (wCmd a.2).1 }, (wCmd a.2).2) else
  if k = 2 then
    let b := rInt a.2
    let c := rInt b.2
    ({ z with req := b.1, pos := c.1, rep := (wReply c.2).1 }, (wReply c.2).2) else
  if k = 3 then
    let b := rInt a.2
    let c := rInt b.2
    ({ z with ver := b.1, pos := c.1, subs := (pRow pSub 3 c.2).1 }, (pRow pSub 3 c.2).2) else
  if k = 4 then
    let b := rInt a.2
    let c := rInt b.2
    ({ z with pos := b.1, nxt := c.1, ops := (wOps c.2).1 }, (wOps c.2).2) else
  if k = 5 then
    let b := rInt a.2
    ({ z with req := b.1, err := (pErr b.2).1 }, (pErr b.2).2) else (z, a.2)
def wMsg (l : List UInt8) : MsgR × RS := if (rInt ⟨l, 0⟩).1 < 1 ∨ 5 < (rInt ⟨l, 0⟩).1 then ({ MsgR.zero with kind := (rInt ⟨l, 0⟩).1 }, rFail (rInt ⟨l, 0⟩).2 3) else wBody (rInt ⟨l, 0⟩).1 (rInt ⟨l, 0⟩).2
/-- The first operation of a message that may not be. -/
def msgErr (m : MsgR) : Nat := if opsErr m.cmd.ops ≠ 0 then opsErr m.cmd.ops else opsErr m.ops
def parseErr (l : List UInt8) : Int :=
  if (one l).2 ≠ 0 then ((one l).2 : Int) else
  if rEnd (wMsg (one l).1).2 ≠ 0 then rEnd (wMsg (one l).1).2 else
  if 100 < (wMsg (one l).1).1.rep.used.length then 4 else (msgErr (wMsg (one l).1).1 : Int)
def parseMsg (l : List UInt8) : MsgR := if parseErr l = 0 then (wMsg (one l).1).1 else MsgR.zero
def cmdErr (l : List UInt8) : Int := if rEnd (wCmd ⟨l, 0⟩).2 ≠ 0 then rEnd (wCmd ⟨l, 0⟩).2 else (opsErr (wCmd ⟨l, 0⟩).1.ops : Int)
def parseCmd (l : List UInt8) : CmdR := if cmdErr l = 0 then (wCmd ⟨l, 0⟩).1 else CmdR.zero

/-! ### written, and read again -/
theorem pSize_enc (m : Int) (n : Nat) (hn : (n : Int) ≤ m) (hm : n ≤ 1000) (r : List UInt8) : pSize m ⟨encs [(n : Int)] ++ r, 0⟩ = (n, ⟨r, 0⟩) := by
  have h : rInt ⟨encs [(n : Int)] ++ r, 0⟩ = ((n : Int), ⟨r, 0⟩) := by
    unfold encs
    rw [List.flatMap_cons, List.flatMap_nil, List.append_nil]
    exact rInt_enc _ (len_ok hm) r
  unfold pSize
  rw [h]
  simp only
  rw [if_neg (by omega)]
  simp
theorem encs_cons (n : Int) (l : List Int) (r : List UInt8) : encs (n :: l) ++ r = encI n ++ (encs l ++ r) := by unfold encs; rw [List.flatMap_cons, List.append_assoc]
theorem encs_nil (r : List UInt8) : encs [] ++ r = r := rfl
theorem encs_app (l m : List Int) : encs (l ++ m) = encs l ++ encs m := List.flatMap_append ..
theorem pWant_enc (x : WantR) (h : x.ok) (hk : x.key.length ≤ 60) (r : List UInt8) : pWant ⟨wantEnc x ++ r, 0⟩ = (x, ⟨r, 0⟩) := by
  unfold wantEnc pWant
  simp only [List.append_assoc, encs_cons, encs_nil, rText_enc _ (show x.key.length ≤ 65535 by omega), rInt_enc _ h.up, rInt_enc _ h.down, rInt_enc _ h.ids]
theorem pSlice_enc (x : SliceR) (h : x.ok) (hk : x.key.length ≤ 60) (r : List UInt8) : pSlice ⟨sliceEnc x ++ r, 0⟩ = (x, ⟨r, 0⟩) := by
  unfold sliceEnc pSlice
  simp only [List.append_assoc, encs_cons, encs_nil, rText_enc _ (show x.key.length ≤ 65535 by omega), rInt_enc _ h.up, rInt_enc _ h.down, rInt_enc _ h.uu, rInt_enc _ h.ud]
theorem pRange_enc (x : RangeR) (h : x.ok) (r : List UInt8) : pRange ⟨rangeEnc x ++ r, 0⟩ = (x, ⟨r, 0⟩) := by
  unfold rangeEnc pRange
  simp only [encs_cons, encs_nil, rInt_enc _ h.lo, rInt_enc _ h.hi]
theorem pRow_enc {α : Type} {f : RS → α × RS} {g : α → List UInt8} : ∀ (l : List α) (r : List UInt8), (∀ x ∈ l, ∀ r, f ⟨g x ++ r, 0⟩ = (x, ⟨r, 0⟩)) → pRow f l.length ⟨l.flatMap g ++ r, 0⟩ = (l, ⟨r, 0⟩)
  | [], r, _ => rfl
  | x :: l, r, h => by
    rw [List.flatMap_cons, List.append_assoc, List.length_cons]
    unfold pRow
    rw [h x (by simp)]
    simp only
    rw [pRow_enc l r (fun y hy => h y (by simp [hy]))]
theorem pAll_enc (l : List DotR) (h : ∀ d ∈ l, d.ok) (r : List UInt8) : pAll l.length ⟨l.flatMap dotEnc ++ r, 0⟩ = (l, ⟨r, 0⟩) := by
  have h1 := pAll_state l.length ⟨l.flatMap dotEnc ++ r, 0⟩
  have h2 := pAll_list l.length ⟨l.flatMap dotEnc ++ r, 0⟩ (by rw [pDots_enc l r h])
  rw [pDots_enc l r h] at h1 h2
  exact Prod.ext h2 h1
theorem wOp_enc (o : OpR) (h : o.ok) (hf : o.few) (h8 : o.dots.length ≤ 8) (r : List UInt8) : wOp ⟨opEnc o ++ r, 0⟩ = (o, ⟨r, 0⟩) := by
  obtain ⟨h1, h2, h3⟩ := hf
  have e : opEnc o ++ r = headEnc o ++ encT o.key ++ encT o.text ++ [o.n, (o.dots.length : Int)].flatMap encI ++ (o.dots.flatMap dotEnc ++ r) := by unfold opEnc; rw [List.append_assoc]
  have hh := pHead_enc o h (by omega) (by omega) (by omega) (o.dots.flatMap dotEnc ++ r)
  unfold wOp
  rw [e, hh]
  have hb : ¬ pBad (o.dots.length : Int) := by unfold pBad; omega
  simp only
  rw [if_neg hb, if_neg hb, Int.toNat_natCast, pAll_enc o.dots h.dots r]
theorem wOps_enc (l : List OpR) (h : ∀ o ∈ l, o.ok ∧ o.few ∧ o.dots.length ≤ 8) (hl : l.length ≤ 20) (r : List UInt8) : wOps ⟨opsEnc l ++ r, 0⟩ = (l, ⟨r, 0⟩) := by
  unfold wOps opsEnc
  rw [List.append_assoc, pSize_enc 20 l.length (by omega) (by omega)]
  exact pRow_enc l r (fun o ho r => wOp_enc o (h o ho).1 (h o ho).2.1 (h o ho).2.2 r)
/-- A command that comes back. -/
structure CmdR.nice (c : CmdR) : Prop where
  ok : c.ok
  wl : c.wants.length ≤ 20
  wk : ∀ x ∈ c.wants, x.key.length ≤ 60
  ol : c.ops.length ≤ 20
  of : ∀ o ∈ c.ops, o.ok ∧ o.few ∧ o.dots.length ≤ 8 ∧ checkOp o = 0
theorem wCmd_enc (c : CmdR) (h : c.nice) (r : List UInt8) : wCmd ⟨cmdEnc c ++ r, 0⟩ = (c, ⟨r, 0⟩) := by
  have hk := h.ok
  unfold cmdEnc wCmd
  have e : encs [c.kind, c.dev, c.ep, c.req, c.n, (c.wants.length : Int)] ++ c.wants.flatMap wantEnc ++ opsEnc c.ops ++ r = encI c.kind ++ (encI c.dev ++ (encI c.ep ++ (encI c.req ++ (encI c.n ++ (encs [(c.wants.length : Int)] ++ (c.wants.flatMap wantEnc ++ (opsEnc c.ops ++ r))))))) := by
    simp only [List.append_assoc, encs_cons, encs_nil]
  rw [e]
  simp only [rInt_enc _ hk.kind, rInt_enc _ hk.dev, rInt_enc _ hk.ep, rInt_enc _ hk.req, rInt_enc _ hk.n, pSize_enc 20 c.wants.length (by have := h.wl; omega) (by have := h.wl; omega)]
  rw [pRow_enc c.wants _ (fun x hx r => pWant_enc x (hk.wants x hx) (h.wk x hx) r)]
  simp only
  rw [wOps_enc c.ops (fun o ho => ⟨(h.of o ho).1, (h.of o ho).2.1, (h.of o ho).2.2.1⟩) h.ol r]
theorem opsErr_zero {l : List OpR} (h : ∀ o ∈ l, checkOp o = 0) : opsErr l = 0 := by
  induction l with
  | nil => rfl
  | cons o l ih =>
    unfold opsErr
    rw [if_neg (fun e => e (h o (by simp)))]
    exact ih (fun x hx => h x (by simp [hx]))
theorem parseCmd_enc (c : CmdR) (h : c.nice) : parseCmd (cmdEnc c) = c ∧ cmdErr (cmdEnc c) = 0 := by
  have e := wCmd_enc c h []
  rw [List.append_nil] at e
  have h0 : cmdErr (cmdEnc c) = 0 := by
    unfold cmdErr
    rw [e]
    simp only
    rw [if_neg (by simp [rEnd]), opsErr_zero (fun o ho => (h.of o ho).2.2.2)]
    rfl
  exact ⟨by unfold parseCmd; rw [if_pos h0, e], h0⟩
structure ReplyR.nice (x : ReplyR) : Prop where
  ok : x.ok
  er : 0 ≤ x.err ∧ x.err ≤ 22
  sl : x.slices.length ≤ 20
  sk : ∀ s ∈ x.slices, s.key.length ≤ 60
  il : x.ids.length ≤ 100
  ul : x.used.length ≤ 100
theorem pErr_enc (n : Int) (h0 : 0 ≤ n) (h1 : n ≤ 22) (r : List UInt8) : pErr ⟨encI n ++ r, 0⟩ = (n, ⟨r, 0⟩) := by
  unfold pErr
  rw [rInt_enc n (by unfold I64ok; omega)]
  simp only
  rw [if_neg (by omega)]
theorem wReply_enc (x : ReplyR) (h : x.nice) (r : List UInt8) : wReply ⟨replyEnc x ++ r, 0⟩ = (x, ⟨r, 0⟩) := by
  have hk := h.ok
  unfold replyEnc wReply
  have e : encs [x.err, x.n, x.dev, x.ep, x.til, x.last, (x.slices.length : Int)] ++ x.slices.flatMap sliceEnc ++ encs [(x.ids.length : Int)] ++ x.ids.flatMap rangeEnc ++ encL x.used ++ r
      = encI x.err ++ (encI x.n ++ (encI x.dev ++ (encI x.ep ++ (encI x.til ++ (encI x.last ++ (encs [(x.slices.length : Int)] ++ (x.slices.flatMap sliceEnc ++ (encs [(x.ids.length : Int)] ++ (x.ids.flatMap rangeEnc ++ (encL x.used ++ r)))))))))) := by
    simp only [List.append_assoc, encs_cons, encs_nil]
  rw [e]
  simp only [pErr_enc x.err h.er.1 h.er.2, rInt_enc _ hk.n, rInt_enc _ hk.dev, rInt_enc _ hk.ep, rInt_enc _ hk.til, rInt_enc _ hk.last, pSize_enc 20 x.slices.length (by have := h.sl; omega) (by have := h.sl; omega)]
  rw [pRow_enc x.slices _ (fun s hs r => pSlice_enc s (hk.slices s hs) (h.sk s hs) r)]
  simp only [pSize_enc 100 x.ids.length (by have := h.il; omega) (by have := h.il; omega)]
  rw [pRow_enc x.ids _ (fun s hs r => pRange_enc s (hk.ids s hs) r)]
  simp only
  rw [rInts_enc x.used (by have := h.ul; omega) hk.used r]
theorem pSub_enc (b : Bool) (r : List UInt8) : pSub ⟨encs [bit1 b] ++ r, 0⟩ = (b, ⟨r, 0⟩) := by
  have e : rInt ⟨encs [bit1 b] ++ r, 0⟩ = (bit1 b, ⟨r, 0⟩) := by
    rw [encs_cons, encs_nil]
    exact rInt_enc _ (bit1_ok b) r
  unfold pSub
  rw [e]
  simp only
  cases b
  · show (decide ((0 : Int) = 1), if (0 : Int) ≠ 0 ∧ (0 : Int) ≠ 1 then _ else _) = _
    rw [if_neg (by omega)]
    rfl
  · show (decide ((1 : Int) = 1), if (1 : Int) ≠ 0 ∧ (1 : Int) ≠ 1 then _ else _) = _
    rw [if_neg (by omega)]
    rfl
theorem encs_map (l : List Bool) : encs (l.map bit1) = l.flatMap (fun b => encs [bit1 b]) := by
  induction l with
  | nil => rfl
  | cons b l ih =>
    rw [List.map_cons, List.flatMap_cons, ← ih, ← encs_app]
    rfl
/-- A message that comes back; what its kind names. -/
structure MsgR.nice (m : MsgR) : Prop where
  ok : m.ok
  kd : 1 ≤ m.kind ∧ m.kind ≤ 5
  er : 0 ≤ m.err ∧ m.err ≤ 22
  sb : m.subs.length = 3
  cmd : m.cmd.nice
  rep : m.rep.nice
  ol : m.ops.length ≤ 20
  of : ∀ o ∈ m.ops, o.ok ∧ o.few ∧ o.dots.length ≤ 8 ∧ checkOp o = 0
def named (m : MsgR) : MsgR :=
  let z : MsgR := { MsgR.zero with kind := m.kind, dev := m.dev }
  if m.kind = 1 then { z with cmd := m.cmd } else
  if m.kind = 2 then { z with req := m.req, pos := m.pos, rep := m.rep } else
  if m.kind = 3 then { z with ver := m.ver, pos := m.pos, subs := m.subs } else
  if m.kind = 4 then { z with pos := m.pos, nxt := m.nxt, ops := m.ops } else
  { z with req := m.req, err := m.err }
theorem wBody_enc (m : MsgR) (h : m.nice) : wBody m.kind ⟨encI m.dev ++ restEnc m, 0⟩ = (named m, ⟨[], 0⟩) := by
  have hk := h.ok
  unfold wBody named restEnc
  simp only [rInt_enc _ hk.dev]
  by_cases h1 : m.kind = 1
  · simp only [h1, if_true]
    have e := wCmd_enc m.cmd h.cmd []
    rw [List.append_nil] at e
    rw [e]
  · simp only [if_neg h1]
    by_cases h2 : m.kind = 2
    · simp only [h2, if_true, encs_cons, encs_nil, rInt_enc _ hk.req, rInt_enc _ hk.pos]
      have e := wReply_enc m.rep h.rep []
      rw [List.append_nil] at e
      rw [e]
    · simp only [if_neg h2]
      by_cases h3 : m.kind = 3
      · simp only [h3, if_true, encs_cons, encs_nil, rInt_enc _ hk.ver, rInt_enc _ hk.pos]
        have e := pRow_enc (f := pSub) m.subs [] (fun b _ r => pSub_enc b r)
        rw [List.append_nil, ← encs_map, h.sb] at e
        rw [e]
      · simp only [if_neg h3]
        by_cases h4 : m.kind = 4
        · simp only [h4, if_true, encs_cons, encs_nil, rInt_enc _ hk.pos, rInt_enc _ hk.nxt]
          have e := wOps_enc m.ops (fun o ho => ⟨(h.of o ho).1, (h.of o ho).2.1, (h.of o ho).2.2.1⟩) h.ol []
          rw [List.append_nil] at e
          rw [e]
        · have h5 : m.kind = 5 := by have := h.kd; omega
          simp only [if_neg h4, if_pos h5]
          have e := pErr_enc m.err h.er.1 h.er.2 []
          rw [List.append_nil] at e
          have e5 : encs [m.req, m.err] = encI m.req ++ encI m.err := by simp [encs]
          rw [e5]
          simp only [rInt_enc _ hk.req, e]
theorem wMsg_enc (m : MsgR) (h : m.nice) : wMsg (bodyEnc m) = (named m, ⟨[], 0⟩) := by
  unfold wMsg bodyEnc
  have hk := h.ok
  rw [encs_cons, encs_cons, encs_nil, rInt_enc _ hk.kind]
  simp only
  rw [if_neg (by have := h.kd; omega), wBody_enc m h]
theorem MsgR.nice.few {m : MsgR} (h : m.nice) : m.few :=
  ⟨by rw [h.sb]; omega, ⟨by have := h.cmd.wl; omega, h.cmd.wk, by have := h.cmd.ol; omega, fun x hx => (h.cmd.of x hx).2.1⟩, ⟨by have := h.rep.sl; omega, h.rep.sk, by have := h.rep.il; omega, by have := h.rep.ul; omega⟩, by have := h.ol; omega, fun x hx => (h.of x hx).2.1⟩
theorem named_used (m : MsgR) (h : m.rep.used.length ≤ 100) : (named m).rep.used.length ≤ 100 := by
  unfold named
  simp only
  split
  · simp [MsgR.zero, ReplyR.zero]
  · split
    · exact h
    · split
      · simp [MsgR.zero, ReplyR.zero]
      · split <;> simp [MsgR.zero, ReplyR.zero]
theorem named_err {m : MsgR} (h : m.nice) : msgErr (named m) = 0 := by
  have h1 := opsErr_zero (fun o ho => (h.cmd.of o ho).2.2.2)
  have h2 := opsErr_zero (fun o ho => (h.of o ho).2.2.2)
  unfold msgErr named
  simp only
  split
  · simp [h1, MsgR.zero, opsErr]
  · split
    · simp [MsgR.zero, CmdR.zero, opsErr]
    · split
      · simp [MsgR.zero, CmdR.zero, opsErr]
      · split
        · simp [MsgR.zero, CmdR.zero, opsErr, h2]
        · simp [MsgR.zero, CmdR.zero, opsErr]
theorem MsgR.nice.bytes {m : MsgR} (h : m.nice) : bytesErr m = 0 := by
  unfold bytesErr
  rw [if_neg (by have := h.kd; omega), if_neg (fun e => e.2 h.sb), if_neg]
  unfold manyM
  have g1 := h.cmd.wl
  have g2 := h.cmd.ol
  have g3 := h.rep.sl
  have g4 := h.rep.il
  have g5 := h.rep.ul
  have g6 := h.ol
  split
  · rw [decide_eq_true_iff]; omega
  · split
    · rw [decide_eq_true_iff]; omega
    · split
      · rw [decide_eq_true_iff]; omega
      · simp
theorem parse_enc (m : MsgR) (h : m.nice) : parseErr (frame (bodyEnc m)) = 0 ∧ parseMsg (frame (bodyEnc m)) = named m := by
  have hl := bodyEnc_le h.ok h.few
  have ho := one_frame (bodyEnc m) (by omega)
  have h0 : parseErr (frame (bodyEnc m)) = 0 := by
    unfold parseErr
    rw [ho, wMsg_enc m h]
    simp only
    rw [if_neg (by simp), if_neg (by simp [rEnd]), if_neg (by have := named_used m h.rep.ul; omega), named_err h]
    rfl
  refine ⟨h0, ?_⟩
  unfold parseMsg
  rw [if_pos h0, ho, wMsg_enc m h]
theorem parse_bad {l : List UInt8} {k : Nat} (h : one l = ([], k)) (hk : k ≠ 0) : parseErr l = k ∧ parseMsg l = MsgR.zero := by
  have h0 : parseErr l = (k : Int) := by
    unfold parseErr
    rw [h]
    simp only
    rw [if_pos hk]
  refine ⟨h0, ?_⟩
  unfold parseMsg
  rw [h0, if_neg (by omega)]
end Go.Esc
