/- Commands, replies, messages in memory; a writer's bytes. -/
import Derived.Test.YtddobhihjljcgaaWiB
import Derived.OneCell
namespace Go.Esc
open Go.RowKit
set_option linter.unusedSimpArgs false
set_option linter.unusedVariables false

/-- An operation, and where its dots lie. -/
structure OpW where
  o : OpR
  a : Option Addr
  c : Nat
def OpW.cells (x : OpW) : List Value := x.o.cells x.a x.c
structure OpW.good (x : OpW) (w : World) : Prop where
  rd : Rd w x.a (ds x.o.dots)
  lc : x.o.dots.length ≤ x.c
  cm : x.c ≤ maxLen
theorem kOp (x : OpW) : (OpW.cells x).length = 11 := rfl
theorem OpW.good.no {x : OpW} {w w' : World} (h : x.good w) (hx : Ext no w w') : x.good w' := ⟨h.rd.ext hx (fun _ _ h => h), h.lc, h.cm⟩
/-- The operations l lie at a. -/
def OpsIn (w : World) (a : Option Addr) (l : List OpR) : Prop := ∃ L : List OpW, L.map OpW.o = l ∧ Rd w a (rows OpW.cells L) ∧ ∀ x ∈ L, x.good w
theorem OpsIn.no {w w' : World} {a : Option Addr} {l : List OpR} (h : OpsIn w a l) (hx : Ext no w w') : OpsIn w' a l := by
  obtain ⟨L, h1, h2, h3⟩ := h
  exact ⟨L, h1, h2.ext hx (fun _ _ h => h), fun x hx' => (h3 x hx').no hx⟩
theorem OpsIn.nil (w : World) (a : Option Addr) : OpsIn w a [] := ⟨[], rfl, Rd.nil _ _, fun x hx => by cases hx⟩
def WantR.cells (x : WantR) : List Value := [.string (str x.key), .int .i64 x.up, .int .i64 x.down, .int .i64 x.ids]
def SliceR.cells (x : SliceR) : List Value := [.string (str x.key), .int .i64 x.up, .int .i64 x.down, .int .i64 x.uu, .int .i64 x.ud]
def RangeR.cells (x : RangeR) : List Value := [.int .i64 x.lo, .int .i64 x.hi]
def bls (l : List Bool) : List Value := l.map .bool
@[simp] theorem bls_length (l : List Bool) : (bls l).length = l.length := by simp [bls]
theorem kWant (x : WantR) : x.cells.length = 4 := rfl
theorem kSlice (x : SliceR) : x.cells.length = 5 := rfl
theorem kRange (x : RangeR) : x.cells.length = 2 := rfl

/-- Where the rows of a command, a reply, a message lie. -/
structure CmdA where
  w : Option Addr
  wc : Nat
  o : Option Addr
  oc : Nat
structure ReplyA where
  s : Option Addr
  sc : Nat
  i : Option Addr
  ic : Nat
  u : Option Addr
  uc : Nat
structure MsgA where
  b : Option Addr
  bc : Nat
  c : CmdA
  r : ReplyA
  o : Option Addr
  oc : Nat
def CmdA.zero : CmdA := ⟨none, 0, none, 0⟩
def ReplyA.zero : ReplyA := ⟨none, 0, none, 0, none, 0⟩
def MsgA.zero : MsgA := ⟨none, 0, CmdA.zero, ReplyA.zero, none, 0⟩
def CmdR.cells (c : CmdR) (h : CmdA) : List Value := [.int .i64 c.kind, .int .i64 c.dev, .int .i64 c.ep, .int .i64 c.req, .int .i64 c.n, .slice h.w c.wants.length h.wc, .slice h.o c.ops.length h.oc]
def ReplyR.cells (r : ReplyR) (h : ReplyA) : List Value := [.int .i64 r.err, .int .i64 r.n, .int .i64 r.dev, .int .i64 r.ep, .int .i64 r.til, .int .i64 r.last, .slice h.s r.slices.length h.sc, .slice h.i r.ids.length h.ic, .slice h.u r.used.length h.uc]
def MsgR.cells (m : MsgR) (h : MsgA) : List Value :=
  [.int .i64 m.kind, .int .i64 m.dev, .int .i64 m.req, .int .i64 m.ver, .int .i64 m.pos, .int .i64 m.nxt, .slice h.b m.subs.length h.bc, .int .i64 m.err,
   .int .i64 m.cmd.kind, .int .i64 m.cmd.dev, .int .i64 m.cmd.ep, .int .i64 m.cmd.req, .int .i64 m.cmd.n, .slice h.c.w m.cmd.wants.length h.c.wc, .slice h.c.o m.cmd.ops.length h.c.oc,
   .int .i64 m.rep.err, .int .i64 m.rep.n, .int .i64 m.rep.dev, .int .i64 m.rep.ep, .int .i64 m.rep.til, .int .i64 m.rep.last, .slice h.r.s m.rep.slices.length h.r.sc, .slice h.r.i m.rep.ids.length h.r.ic, .slice h.r.u m.rep.used.length h.r.uc, .slice h.o m.ops.length h.oc]
def CmdR.val (c : CmdR) (h : CmdA) : Value := .agg #[.int .i64 c.kind, .int .i64 c.dev, .int .i64 c.ep, .int .i64 c.req, .int .i64 c.n, .slice h.w c.wants.length h.wc, .slice h.o c.ops.length h.oc]
def ReplyR.val (r : ReplyR) (h : ReplyA) : Value := .agg #[.int .i64 r.err, .int .i64 r.n, .int .i64 r.dev, .int .i64 r.ep, .int .i64 r.til, .int .i64 r.last, .slice h.s r.slices.length h.sc, .slice h.i r.ids.length h.ic, .slice h.u r.used.length h.uc]
def MsgR.val (m : MsgR) (h : MsgA) : Value :=
  .agg #[.int .i64 m.kind, .int .i64 m.dev, .int .i64 m.req, .int .i64 m.ver, .int .i64 m.pos, .int .i64 m.nxt, .slice h.b m.subs.length h.bc, .int .i64 m.err,
   .int .i64 m.cmd.kind, .int .i64 m.cmd.dev, .int .i64 m.cmd.ep, .int .i64 m.cmd.req, .int .i64 m.cmd.n, .slice h.c.w m.cmd.wants.length h.c.wc, .slice h.c.o m.cmd.ops.length h.c.oc,
   .int .i64 m.rep.err, .int .i64 m.rep.n, .int .i64 m.rep.dev, .int .i64 m.rep.ep, .int .i64 m.rep.til, .int .i64 m.rep.last, .slice h.r.s m.rep.slices.length h.r.sc, .slice h.r.i m.rep.ids.length h.r.ic, .slice h.r.u m.rep.used.length h.r.uc, .slice h.o m.ops.length h.oc]
structure CmdR.In (c : CmdR) (w : World) (h : CmdA) : Prop where
  x : Rd w h.w (rows WantR.cells c.wants)
  o : OpsIn w h.o c.ops
  wl : c.wants.length ≤ h.wc
  ol : c.ops.length ≤ h.oc
  wm : h.wc ≤ maxLen
  om : h.oc ≤ maxLen
structure ReplyR.In (r : ReplyR) (w : World) (h : ReplyA) : Prop where
  s : Rd w h.s (rows SliceR.cells r.slices)
  i : Rd w h.i (rows RangeR.cells r.ids)
  u : Rd w h.u (is r.used)
  sl : r.slices.length ≤ h.sc
  il : r.ids.length ≤ h.ic
  ul : r.used.length ≤ h.uc
  sm : h.sc ≤ maxLen
  im : h.ic ≤ maxLen
  um : h.uc ≤ maxLen
structure MsgR.In (m : MsgR) (w : World) (h : MsgA) : Prop where
  b : Rd w h.b (bls m.subs)
  c : m.cmd.In w h.c
  r : m.rep.In w h.r
  o : OpsIn w h.o m.ops
  bl : m.subs.length ≤ h.bc
  bm : h.bc ≤ maxLen
  ol : m.ops.length ≤ h.oc
  om : h.oc ≤ maxLen
theorem CmdR.In.no {c : CmdR} {w w' : World} {h : CmdA} (m : c.In w h) (hx : Ext no w w') : c.In w' h := ⟨m.x.ext hx (fun _ _ h => h), m.o.no hx, m.wl, m.ol, m.wm, m.om⟩
theorem ReplyR.In.no {r : ReplyR} {w w' : World} {h : ReplyA} (m : r.In w h) (hx : Ext no w w') : r.In w' h := ⟨m.s.ext hx (fun _ _ h => h), m.i.ext hx (fun _ _ h => h), m.u.ext hx (fun _ _ h => h), m.sl, m.il, m.ul, m.sm, m.im, m.um⟩
theorem MsgR.In.no {m : MsgR} {w w' : World} {h : MsgA} (g : m.In w h) (hx : Ext no w w') : m.In w' h := ⟨g.b.ext hx (fun _ _ h => h), g.c.no hx, g.r.no hx, g.o.no hx, g.bl, g.bm, g.ol, g.om⟩
theorem CmdR.In.zero (w : World) : CmdR.zero.In w CmdA.zero := ⟨Rd.nil _ _, OpsIn.nil _ _, Nat.le_refl _, Nat.le_refl _, Nat.zero_le _, Nat.zero_le _⟩
theorem ReplyR.In.zero (w : World) : ReplyR.zero.In w ReplyA.zero := ⟨Rd.nil _ _, Rd.nil _ _, Rd.nil _ _, Nat.le_refl _, Nat.le_refl _, Nat.le_refl _, Nat.zero_le _, Nat.zero_le _, Nat.zero_le _⟩
theorem MsgR.In.zero (w : World) : MsgR.zero.In w MsgA.zero := ⟨Rd.nil _ _, CmdR.In.zero w, ReplyR.In.zero w, OpsIn.nil _ _, Nat.le_refl _, Nat.zero_le _, Nat.le_refl _, Nat.zero_le _⟩

/-! ### a writer: a block of one cell, a slice -/
/-- The writer at g has written l. -/
def Wtr (T : TypeId) (w : World) (g : Nat) (l : List UInt8) : Prop := ∃ a c, w.heap[g]? = some (.cells #[.slice a l.length c] T (0, 0)) ∧ Rd w a (bs l)
/-- The first cell is no slice. -/
def plainHd (cs : List Value) : Prop := ∀ u, cs[0]? = some u → ∀ a n c, u ≠ .slice a n c
theorem rd_off {T : TypeId} {w : World} {g : Nat} {v : Value} {x : Option Addr} {n c : Nat} (hg : w.heap[g]? = some (.cells #[v] T (0, 0))) (hv : v = .slice x n c) {a : Option Addr} {cs : List Value} (hr : Rd w a cs) (hp : plainHd cs) (hn : cs ≠ []) : ∀ ad, a = some ad → ad.block ≠ g := by
  intro ad ha e
  have hl : 0 < cs.length := List.length_pos_iff.2 hn
  obtain ⟨b, off, hab, _⟩ := hr.shape hl
  rw [hab] at ha
  cases ha
  have e : b = g := e
  subst e
  rw [hab] at hr
  have hc := hr.lookup 0 hl
  simp only [World.cell?, hg] at hc
  match off, hc with
  | 0, hc =>
    simp at hc
    exact hp _ (List.getElem?_eq_getElem hl) x n c (hc.symm.trans hv)
  | k + 1, hc => simp at hc
theorem plain_bs (l : List UInt8) : plainHd (bs l) := by
  intro u hu a n c e
  obtain ⟨q, hq⟩ := bs_int l u (List.mem_of_getElem? hu)
  rw [hq] at e
  cases e
theorem plain_is (l : List Int) : plainHd (is l) := by
  intro u hu a n c e
  cases l with
  | nil => cases hu
  | cons x l => cases hu; cases e
theorem plain_bls (l : List Bool) : plainHd (bls l) := by
  intro u hu a n c e
  cases l with
  | nil => cases hu
  | cons x l => cases hu; cases e
theorem plain_ds (l : List DotR) : plainHd (ds l) := by
  intro u hu a n c e
  cases l with
  | nil => cases hu
  | cons x l => cases hu; cases e
theorem plain_ops (l : List OpW) : plainHd (rows OpW.cells l) := by
  intro u hu a n c e
  cases l with
  | nil => cases hu
  | cons x l => cases hu; cases e
theorem plain_wants (l : List WantR) : plainHd (rows WantR.cells l) := by
  intro u hu a n c e
  cases l with
  | nil => cases hu
  | cons x l => cases hu; cases e
theorem plain_slices (l : List SliceR) : plainHd (rows SliceR.cells l) := by
  intro u hu a n c e
  cases l with
  | nil => cases hu
  | cons x l => cases hu; cases e
theorem plain_ranges (l : List RangeR) : plainHd (rows RangeR.cells l) := by
  intro u hu a n c e
  cases l with
  | nil => cases hu
  | cons x l => cases hu; cases e
theorem Wtr.lt {T : TypeId} {w : World} {g : Nat} {l : List UInt8} (h : Wtr T w g l) : g < w.heap.size := by
  obtain ⟨a, c, hg, _⟩ := h
  exact lt_of_block hg
/-- What is read stays, whatever the writer writes. -/
theorem Wtr.keeps {T : TypeId} {w w' : World} {g : Nat} {l : List UInt8} (h : Wtr T w g l) (hx : Ext (just g) w w') {a : Option Addr} {cs : List Value} (hr : Rd w a cs) (hp : plainHd cs) : Rd w' a cs := by
  by_cases hn : cs = []
  · subst hn; exact Rd.nil _ _
  · obtain ⟨x, c, hg, _⟩ := h
    exact hr.ext hx (fun ad ha e => rd_off hg rfl hr hp hn ad ha e)
theorem Wtr.ops {T : TypeId} {w w' : World} {g : Nat} {l : List UInt8} (h : Wtr T w g l) (hx : Ext (just g) w w') {a : Option Addr} {m : List OpR} (hr : OpsIn w a m) : OpsIn w' a m := by
  obtain ⟨L, h1, h2, h3⟩ := hr
  exact ⟨L, h1, h.keeps hx h2 (plain_ops L), fun x hx' => ⟨h.keeps hx (h3 x hx').rd (plain_ds _), (h3 x hx').lc, (h3 x hx').cm⟩⟩
theorem Wtr.cmd {T : TypeId} {w w' : World} {g : Nat} {l : List UInt8} (h : Wtr T w g l) (hx : Ext (just g) w w') {c : CmdR} {k : CmdA} (m : c.In w k) : c.In w' k := ⟨h.keeps hx m.x (plain_wants _), h.ops hx m.o, m.wl, m.ol, m.wm, m.om⟩
theorem Wtr.reply {T : TypeId} {w w' : World} {g : Nat} {l : List UInt8} (h : Wtr T w g l) (hx : Ext (just g) w w') {r : ReplyR} {k : ReplyA} (m : r.In w k) : r.In w' k := ⟨h.keeps hx m.s (plain_slices _), h.keeps hx m.i (plain_ranges _), h.keeps hx m.u (plain_is _), m.sl, m.il, m.ul, m.sm, m.im, m.um⟩
theorem Wtr.msg {T : TypeId} {w w' : World} {g : Nat} {l : List UInt8} (h : Wtr T w g l) (hx : Ext (just g) w w') {r : MsgR} {k : MsgA} (m : r.In w k) : r.In w' k := ⟨h.keeps hx m.b (plain_bls _), h.cmd hx m.c, h.reply hx m.r, h.ops hx m.o, m.bl, m.bm, m.ol, m.om⟩
theorem Wtr.blk {w w' : World} {g : Nat} (hx : Ext (just g) w w') {k : Nat} {cs : List Value} (h : Blk w k cs) (hn : cs ≠ []) (hk : k ≠ g) : Blk w' k cs := h.ext hn hx hk
theorem Wtr.open {T : TypeId} {w : World} {g : Nat} {l : List UInt8} (h : Wtr T w g l) : ∃ a c, w.cell? ⟨g, 0, none⟩ = some (.slice a l.length c) ∧ w.frozen? ⟨g, 0, none⟩ = false ∧ Rd w a (bs l) := by
  obtain ⟨a, c, hg, hr⟩ := h
  exact ⟨a, c, cell_of_one hg, free_of_one hg, hr⟩
theorem Wtr.on {T : TypeId} {w w' : World} {g : Nat} {l : List UInt8} (h : Wtr T w g l) (hx : Ext no w w') : Wtr T w' g l := by
  obtain ⟨a, c, hg, hr⟩ := h
  exact ⟨a, c, (hx.block g (lt_of_block hg) (fun h => h)).trans hg, hr.ext hx (fun _ _ h => h)⟩
/-- The writer's cell takes what was written. -/
theorem Wtr.put {T : TypeId} {w w2 : World} {g : Nat} {l : List UInt8} (h : Wtr T w g l) (hx : Ext no w w2) {a' : Option Addr} {c' n : Nat} {M : List UInt8} (hr : Rd w2 a' (bs M)) (hn : n = M.length) :
    Wtr T (w2.setCell ⟨g, 0, none⟩ (.slice a' n c')) g M ∧ Ext (just g) w (w2.setCell ⟨g, 0, none⟩ (.slice a' n c')) := by
  subst hn
  obtain ⟨a, c, hg, _⟩ := h
  have hg2 := (hx.block g (lt_of_block hg) (fun h => h)).trans hg
  have hs : Ext (just g) w2 (w2.setCell ⟨g, 0, none⟩ (.slice a' M.length c')) := Ext.setCell _ _ _ rfl
  refine ⟨⟨a', c', one_setCell hg2, ?_⟩, (hx.mono (fun _ _ h => absurd h (fun h => h))).comp hs⟩
  by_cases hM : bs M = []
  · rw [hM]; exact Rd.nil _ _
  · exact hr.ext hs (fun ad ha e => rd_off hg2 rfl hr (plain_bs M) hM ad ha e)
theorem Wtr.new (T : TypeId) (w : World) : Wtr T (w.alloc (.cells #[.slice none 0 0] T)) w.heap.size [] := ⟨none, 0, heap_alloc_new w _, Rd.nil _ _⟩
theorem Wtr.cast {T : TypeId} {w : World} {g : Nat} {l m : List UInt8} (h : Wtr T w g l) (e : l = m) : Wtr T w g m := e ▸ h
end Go.Esc
