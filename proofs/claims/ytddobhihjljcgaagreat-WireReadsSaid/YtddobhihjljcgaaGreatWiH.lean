/- A good message, plainly; a row of operations that grows. -/
import Derived.Test.YtddobhihjljcgaaGreatWiG
import Derived.Test.YtddobhihjljcgaaGreatOpG
namespace Go.Esc
open Go.RowKit
set_option linter.unusedVariables false
set_option linter.unusedSimpArgs false
def goodOps (l : List OpR) : List OpR := (l.take 20).map goodOp
def goodCmd (c : CmdR) : CmdR := { c with wants := c.wants.take 20, ops := goodOps c.ops }
def goodReply (r : ReplyR) : ReplyR := { r with err := r.err % 23, slices := r.slices.take 20, ids := r.ids.take 100, used := r.used.take 100 }
def goodM (m : MsgR) : MsgR := { m with kind := 1 + m.kind % 5, subs := [m.req.tmod 2 == 0, m.pos.tmod 2 == 0, m.nxt.tmod 2 == 0], err := m.err % 23, cmd := goodCmd m.cmd, rep := goodReply m.rep, ops := goodOps m.ops }
theorem goodOp_few (o : OpR) : (goodOp o).few := by
 refine ⟨?_, ?_, ?_⟩
 ·have := (goodKey_ok o.key).2.2; show (goodKey o.key).length ≤ 60; omega
 ·have := (goodText_ok o.text).2; show (goodText o.text).length ≤ 60; omega
 ·have := goodOp_len o; omega
theorem goodOps_len (l : List OpR) : (goodOps l).length ≤ 20 := by unfold goodOps; rw [List.length_map, List.length_take]; omega
theorem goodOps_of (l : List OpR) (h : ∀ x ∈ l, x.ok) : ∀ o ∈ goodOps l, o.ok ∧ o.few ∧ o.dots.length ≤ 8 ∧ checkOp o = 0 := by
 intro o ho
 obtain ⟨x, hx, rfl⟩ := List.mem_map.1 ho
 exact ⟨goodOp_ok x (h x (List.mem_of_mem_take hx)), goodOp_few x, goodOp_len x, goodOp_check x⟩
theorem take_le {α : Type} (l : List α) (n : Nat) : (l.take n).length ≤ n := by rw [List.length_take]; omega
/-- A good message comes back. -/
theorem goodM_nice (m : MsgR) (ho : m.ok) (hf : m.few) : (goodM m).nice where
 ok := {
  kind := by show I64ok (1 + m.kind % 5); unfold I64ok; omega
  dev := ho.dev
  req := ho.req
  ver := ho.ver
  pos := ho.pos
  nxt := ho.nxt
  err := by show I64ok (m.err % 23); unfold I64ok; omega
  cmd := { kind := ho.cmd.kind, dev := ho.cmd.dev, ep := ho.cmd.ep, req := ho.cmd.req, n := ho.cmd.n, wants := fun x hx => ho.cmd.wants x (List.mem_of_mem_take hx), ops := fun x hx => (goodOps_of _ ho.cmd.ops x hx).1 }
  rep := { err := (by show I64ok (m.rep.err % 23); unfold I64ok; omega), n := ho.rep.n, dev := ho.rep.dev, ep := ho.rep.ep, til := ho.rep.til, last := ho.rep.last, slices := fun x hx => ho.rep.slices x (List.mem_of_mem_take hx), ids := fun x hx => ho.rep.ids x (List.mem_of_mem_take hx), used := fun x hx => ho.rep.used x (List.mem_of_mem_take hx) }
  ops := fun x hx => (goodOps_of _ ho.ops x hx).1 }
 kd := by show 1 ≤ 1 + m.kind % 5 ∧ 1 + m.kind % 5 ≤ 5; omega
 er := by show 0 ≤ m.err % 23 ∧ m.err % 23 ≤ 22; omega
 sb := rfl
 cmd := {
  ok := { kind := ho.cmd.kind, dev := ho.cmd.dev, ep := ho.cmd.ep, req := ho.cmd.req, n := ho.cmd.n, wants := fun x hx => ho.cmd.wants x (List.mem_of_mem_take hx), ops := fun x hx => (goodOps_of _ ho.cmd.ops x hx).1 }
  wl := take_le _ _
  wk := fun x hx => hf.cmd.wk x (List.mem_of_mem_take hx)
  ol := goodOps_len _
  of := goodOps_of _ ho.cmd.ops }
 rep := {
  ok := { err := (by show I64ok (m.rep.err % 23); unfold I64ok; omega), n := ho.rep.n, dev := ho.rep.dev, ep := ho.rep.ep, til := ho.rep.til, last := ho.rep.last, slices := fun x hx => ho.rep.slices x (List.mem_of_mem_take hx), ids := fun x hx => ho.rep.ids x (List.mem_of_mem_take hx), used := fun x hx => ho.rep.used x (List.mem_of_mem_take hx) }
  er := by show 0 ≤ m.rep.err % 23 ∧ m.rep.err % 23 ≤ 22; omega
  sl := take_le _ _
  sk := fun x hx => hf.rep.sk x (List.mem_of_mem_take hx)
  il := take_le _ _
  ul := take_le _ _ }
 ol := goodOps_len _
 of := goodOps_of _ ho.ops
theorem goodOps_step (l : List OpR) (i : Nat) (x : OpR) (h : l[i]? = some x) : (l.take (i + 1)).map goodOp = (l.take i).map goodOp ++ [goodOp x] := by
 rw [List.take_add_one, h]
 simp
/-! ### a row of operations that grows -/
structure OpAcc (w : World) (B : Nat) (ga : Option Addr) (gc : Nat) (g : List OpW) : Prop where
 own : Own w B ga 11 g.length gc (rows OpW.cells g)
 gd : ∀ x ∈ g, x.good w
 ap : ∀ x ∈ g, ∀ ad bd, x.a = some ad → ga = some bd → x.o.dots ≠ [] → ad.block ≠ bd.block
 lo : ∀ x ∈ g, ∀ ad, x.a = some ad → B ≤ ad.block
theorem OpAcc.nil (w : World) (B : Nat) : OpAcc w B none 0 [] := ⟨Own.nil _ _ _, (fun x hx => by cases hx), (fun x hx => by cases hx), (fun x hx => by cases hx)⟩
theorem OpAcc.on {w w' : World} {B : Nat} {ga : Option Addr} {gc : Nat} {g : List OpW} (h : OpAcc w B ga gc g) (hx : Ext no w w') : OpAcc w' B ga gc g :=
 ⟨h.own.ext hx (fun _ _ h => h), fun x hx' => (h.gd x hx').no hx, h.ap, h.lo⟩
theorem OpAcc.low {S : Nat → Prop} {w w' : World} {B : Nat} {ga : Option Addr} {gc : Nat} {g : List OpW} (h : OpAcc w B ga gc g) (hx : Ext S w w') (hS : ∀ k, S k → k < B) : OpAcc w' B ga gc g :=
 ⟨h.own.ext hx (fun ad ha hs => by have := (h.own.base ad ha).1; have := hS _ hs; omega),
  fun x hx' => ⟨(h.gd x hx').rd.ext hx (fun ad ha hs => by have := h.lo x hx' ad ha; have := hS _ hs; omega), (h.gd x hx').lc, (h.gd x hx').cm⟩, h.ap, h.lo⟩
theorem OpAcc.in {w : World} {B : Nat} {ga : Option Addr} {gc : Nat} {g : List OpW} (h : OpAcc w B ga gc g) : OpsIn w ga (g.map OpW.o) := ⟨g, rfl, h.own.rd, h.gd⟩
theorem ds_ne {l : List DotR} (h : ds l ≠ []) : l ≠ [] := fun e => h (by rw [e]; rfl)
theorem OpAcc.push {w w1 w' : World} {B : Nat} {ga : Option Addr} {gc : Nat} {g : List OpW} {x : OpW} {e : TypeId} {a' : Option Addr} {c' : Nat} (h : OpAcc w B ga gc g) (hx : Ext no w w1) (hxg : x.good w1) (hfr : ∀ ad, x.a = some ad → w.heap.size ≤ ad.block) (hB : B ≤ w.heap.size)
  (ha : App (w1.alloc (.cells x.cells.toArray e)) w' B 11 ga g.length gc (rows OpW.cells g) a' c' 1 x.cells) :
  OpAcc w' B a' c' (g ++ [x]) ∧ Ext (blk ga) (w1.alloc (.cells x.cells.toArray e)) w' := by
 have hx2 : Ext no w (w1.alloc (.cells x.cells.toArray e)) := hx.comp (Ext.alloc no w1 _)
 have h2 := h.on hx2
 have hxg2 := hxg.no (Ext.alloc no w1 (.cells x.cells.toArray e))
 refine ⟨⟨?_, ?_, ?_, ?_⟩, ha.ext⟩
 ·rw [List.length_append, rows_append, rows_one]
  exact ha.own
 ·intro y hy
  rcases List.mem_append.1 hy with hy | hy
  ·have hyg := h2.gd y hy
   refine ⟨?_, hyg.lc, hyg.cm⟩
   by_cases hn : ds y.o.dots = []
   ·rw [hn]; exact Rd.nil _ _
   ·exact hyg.rd.ext ha.ext (fun ad hya => by rintro ⟨bd, hb, e⟩; exact h.ap y hy ad bd hya hb (ds_ne hn) e.symm)
  ·rw [List.mem_singleton.1 hy]
   exact ⟨hxg2.rd.ext ha.ext (fun ad hya => by rintro ⟨bd, hb, e⟩; have := hfr ad hya; have := (h.own.base bd hb).2.1; omega), hxg2.lc, hxg2.cm⟩
 ·intro y hy ad bd hya hb hne
  rcases ha.loc with ⟨rfl, _⟩ | hl
  ·rcases List.mem_append.1 hy with hy | hy
   ·exact h.ap y hy ad bd hya hb hne
   ·rw [List.mem_singleton.1 hy] at hya
    have := hfr ad hya
    have := (h.own.base bd hb).2.1
    omega
  ·have hl := hl bd hb
   have hyg : y.good (w1.alloc (.cells x.cells.toArray e)) := by
    rcases List.mem_append.1 hy with hy | hy
    ·exact h2.gd y hy
    ·rw [List.mem_singleton.1 hy]; exact hxg2
   obtain ⟨ad', ha', hlt⟩ := hyg.rd.ne (by have := ds_length y.o.dots; have : 0 < y.o.dots.length := List.length_pos_iff.2 hne; omega)
   rw [hya] at ha'
   cases ha'
   omega
 ·intro y hy ad hya
  rcases List.mem_append.1 hy with hy | hy
  ·exact h.lo y hy ad hya
  ·rw [List.mem_singleton.1 hy] at hya
   have := hfr ad hya
   omega
end Go.Esc
namespace Go.Proofs.YtddobhihjljcgaaGreat
open Go.RowKit Go.Esc
theorem TOps : SlT Tryz.prog 25 62 (.agg #[.int .i64 0, .int .i64 0, .int .i64 0, .int .i64 0, .int .i64 0, .int .i64 0, .string { data := #[] }, .string { data := #[] }, .int .i64 0, .int .i64 0, .slice none 0 0]) 11 120 := ⟨Tryz.underlying25, by kernel_rfl, rfl, by decide⟩
theorem oneOp (x : OpW) : ∀ u ∈ OpW.cells x, u.oneCell' = true := fun u hu => by
 simp only [OpW.cells, OpR.cells, List.mem_cons, List.not_mem_nil, or_false] at hu
 rcases hu with rfl | rfl | rfl | rfl | rfl | rfl | rfl | rfl | rfl | rfl | rfl <;> rfl
end Go.Proofs.YtddobhihjljcgaaGreat
