/- Messages of as many rows as may be, plainly; a made row of records. -/
import Derived.Test.YtddobhihjljcgaaWiSame
import Derived.Test.YtddobhihjljcgaaWiRd2
namespace Go.Esc
open Go.RowKit
set_option linter.unusedVariables false
set_option linter.unusedSimpArgs false
def zS : SliceR := ⟨[], 0, 0, 0, 0⟩
def zG : RangeR := ⟨0, 0⟩
def zW : WantR := ⟨[], 0, 0, 0⟩
def oB : OpR := ⟨⟨0, 1, 1⟩, 0, 1, 1, [107], [], 0, 0, []⟩
/-- So many of each. -/
def bm (k : Int) (T : List Bool) (W O S I U P : Nat) : MsgR :=
  { MsgR.zero with kind := k, subs := T, cmd := { CmdR.zero with wants := List.replicate W zW, ops := List.replicate O oB }, rep := { ReplyR.zero with slices := List.replicate S zS, ids := List.replicate I zG, used := List.replicate U 0 }, ops := List.replicate P oB }
theorem mem_rep {α : Type} {n : Nat} {x y : α} (h : y ∈ List.replicate n x) : y = x := (List.mem_replicate.1 h).2
theorem i0 : I64ok 0 := by unfold I64ok; omega
theorem oB_ok : oB.ok := ⟨⟨i0, by show I64ok 1; unfold I64ok; omega, by show I64ok 1; unfold I64ok; omega⟩, i0, by show I64ok 1; unfold I64ok; omega, by show I64ok 1; unfold I64ok; omega, i0, i0, by show 1 ≤ maxLen; unfold maxLen; omega, Nat.zero_le _, fun d hd => by cases hd⟩
theorem oB_few : oB.few := ⟨by decide, by decide, by decide⟩
theorem oB_check : checkOp oB = 0 := by decide
theorem bm_ok (k : Int) (T : List Bool) (W O S I U P : Nat) (hk : I64ok k) : (bm k T W O S I U P).ok where
  kind := hk
  dev := i0
  req := i0
  ver := i0
  pos := i0
  nxt := i0
  err := i0
  cmd := ⟨i0, i0, i0, i0, i0, fun x hx => by rw [mem_rep hx]; exact ⟨Nat.zero_le _, i0, i0, i0⟩, fun x hx => by rw [mem_rep hx]; exact oB_ok⟩
  rep := ⟨i0, i0, i0, i0, i0, i0, fun x hx => by rw [mem_rep hx]; exact ⟨Nat.zero_le _, i0, i0, i0, i0⟩, fun x hx => by rw [mem_rep hx]; exact ⟨i0, i0⟩, fun x hx => by rw [mem_rep hx]; exact i0⟩
  ops := fun x hx => by rw [mem_rep hx]; exact oB_ok
theorem bm_few (k : Int) (T : List Bool) (W O S I U P : Nat) (h : T.length ≤ 40 ∧ W ≤ 40 ∧ O ≤ 40 ∧ S ≤ 40 ∧ I ≤ 200 ∧ U ≤ 200 ∧ P ≤ 40) : (bm k T W O S I U P).few where
  sub := h.1
  cmd := ⟨by show (List.replicate W zW).length ≤ 40; rw [List.length_replicate]; exact h.2.1, fun x hx => by rw [mem_rep hx]; exact Nat.zero_le _, by show (List.replicate O oB).length ≤ 40; rw [List.length_replicate]; exact h.2.2.1, fun x hx => by rw [mem_rep hx]; exact oB_few⟩
  rep := ⟨by show (List.replicate S zS).length ≤ 40; rw [List.length_replicate]; exact h.2.2.2.1, fun x hx => by rw [mem_rep hx]; exact Nat.zero_le _, by show (List.replicate I zG).length ≤ 200; rw [List.length_replicate]; exact h.2.2.2.2.1, by show (List.replicate U (0 : Int)).length ≤ 200; rw [List.length_replicate]; exact h.2.2.2.2.2.1⟩
  ol := by show (List.replicate P oB).length ≤ 40; rw [List.length_replicate]; exact h.2.2.2.2.2.2
  of := fun x hx => by rw [mem_rep hx]; exact oB_few
theorem oB_all : oB.ok ∧ oB.few ∧ oB.dots.length ≤ 8 ∧ checkOp oB = 0 := ⟨oB_ok, oB_few, by decide, oB_check⟩
theorem bm_nice (k : Int) (T : List Bool) (W O S I U P : Nat) (hk : 1 ≤ k ∧ k ≤ 5) (h : T.length = 3 ∧ W ≤ 20 ∧ O ≤ 20 ∧ S ≤ 20 ∧ I ≤ 100 ∧ U ≤ 100 ∧ P ≤ 20) : (bm k T W O S I U P).nice where
  ok := bm_ok k T W O S I U P (by unfold I64ok; omega)
  kd := hk
  er := ⟨Int.le_refl _, by show (0 : Int) ≤ 22; omega⟩
  sb := h.1
  cmd := ⟨(bm_ok k T W O S I U P (by unfold I64ok; omega)).cmd, by show (List.replicate W zW).length ≤ 20; rw [List.length_replicate]; exact h.2.1, fun x hx => by rw [mem_rep hx]; exact Nat.zero_le _, by show (List.replicate O oB).length ≤ 20; rw [List.length_replicate]; exact h.2.2.1, fun x hx => by rw [mem_rep hx]; exact oB_all⟩
  rep := ⟨(bm_ok k T W O S I U P (by unfold I64ok; omega)).rep, ⟨Int.le_refl _, by show (0 : Int) ≤ 22; omega⟩, by show (List.replicate S zS).length ≤ 20; rw [List.length_replicate]; exact h.2.2.2.1, fun x hx => by rw [mem_rep hx]; exact Nat.zero_le _, by show (List.replicate I zG).length ≤ 100; rw [List.length_replicate]; exact h.2.2.2.2.1, by show (List.replicate U (0 : Int)).length ≤ 100; rw [List.length_replicate]; exact h.2.2.2.2.2.1⟩
  ol := by show (List.replicate P oB).length ≤ 20; rw [List.length_replicate]; exact h.2.2.2.2.2.2
  of := fun x hx => by rw [mem_rep hx]; exact oB_all
theorem subs_bytes (m : MsgR) (T : List Bool) (h : m.kind ≠ 3) : bytesErr { m with subs := T } = bytesErr m ∧ bodyEnc { m with subs := T } = bodyEnc m ∧ named { m with subs := T } = named m := by
  refine ⟨?_, ?_, ?_⟩
  · unfold bytesErr manyM
    simp [h]
  · unfold bodyEnc restEnc
    simp [h]
  · unfold named
    simp [h]
/-- What is written of a message of few rows, and read. -/
theorem bm_good (k : Int) (T : List Bool) (W O S I U P : Nat) (hk : 1 ≤ k ∧ k ≤ 5) (h3 : k ≠ 3) (h : W ≤ 20 ∧ O ≤ 20 ∧ S ≤ 20 ∧ I ≤ 100 ∧ U ≤ 100 ∧ P ≤ 20) :
    bytesErr (bm k T W O S I U P) = 0 ∧ ∃ B, bytesOf (bm k T W O S I U P) = B ∧ B.length ≤ 1099511627776 ∧ parseErr B = 0 ∧ parseMsg B = named (bm k T W O S I U P) := by
  have hn := bm_nice k [false, false, false] W O S I U P hk ⟨rfl, h⟩
  obtain ⟨e1, e2, e3⟩ := subs_bytes (bm k T W O S I U P) [false, false, false] h3
  have e1 : bytesErr (bm k [false, false, false] W O S I U P) = bytesErr (bm k T W O S I U P) := e1
  have e2 : bodyEnc (bm k [false, false, false] W O S I U P) = bodyEnc (bm k T W O S I U P) := e2
  have e3 : named (bm k [false, false, false] W O S I U P) = named (bm k T W O S I U P) := e3
  have hb := hn.bytes
  have hl := bodyEnc_le hn.ok hn.few
  have hp := parse_enc _ hn
  rw [e1] at hb
  rw [e2] at hl hp
  rw [e3] at hp
  refine ⟨hb, frame (bodyEnc (bm k T W O S I U P)), by unfold bytesOf; rw [if_pos hb], by rw [frame_length]; omega, hp.1, hp.2⟩
section
variable {P : Program} {α : Type} {f : α → List Value} {k : Nat}
theorem run_make_rows {t e : TypeId} {z : Value} {by' : Nat} (T : SlT P t e z k by') (x : α) (hk : ∀ r, (f r).length = k) (h0 : 0 < k) (hzc : z.cells = (f x).toArray) {k1 k2 : IntKind} {n : Nat} (w : World) (B : Nat) (hB : B ≤ w.heap.size) (hb : by' * n ≤ 281474976710656) (h63 : n ≤ maxLen) :
    ∃ w', (Instr.makeSlice t (.int k1 n) (.int k2 n)).run P w = .ok (.slice (some ⟨w.heap.size, 0, none⟩) n n) w' ∧ Own w' B (some ⟨w.heap.size, 0, none⟩) k n n (rows f (List.replicate n x)) ∧ Ext no w w' := by
  obtain ⟨i, hi, hz, hk', hbb⟩ := info_parts T.info
  have hm63 : n ≤ 9223372036854775807 := h63
  have hb' : (i.bytes : Int) * (n : Int) ≤ 281474976710656 := by
    have := Int.ofNat_le.2 hb
    rw [Int.natCast_mul] at this
    rw [hbb]
    generalize (by' : Int) * (n : Int) = q at *
    omega
  have hrun := run_make (P := P) w t e i z T.und hi hz k1 k2 n n (by omega) (Int.le_refl _) hb' (by omega)
  rw [hk'] at hrun
  simp only [Int.toNat_natCast] at hrun
  refine ⟨_, hrun, ?_, Ext.alloc no w _⟩
  refine Own.fresh w B k n n _ e (0, 0) _ hB (by rw [rows_length hk, List.length_replicate]) (Nat.le_refl _) h63 (size_madeCells _ _) ?_ (.inl (Nat.le_refl _))
  rw [hzc]
  apply List.ext_getElem
  · rw [rows_length hk, List.length_replicate, List.length_take, Array.length_toList, size_madeCells]
    omega
  · intro j h1 h2
    have hj : j < n * k := by have q := h2; rw [rows_length hk, List.length_replicate] at q; exact q
    have hq : j / k < n := Nat.div_lt_of_lt_mul (by rw [Nat.mul_comm]; exact hj)
    have hr : j % k < k := Nat.mod_lt _ h0
    have e := rows_get hk (List.replicate n x) (j / k) x (by rw [List.getElem?_replicate, if_pos hq]) (j % k) ((f x)[j % k]'(by rw [hk]; exact hr)) (List.getElem?_eq_getElem _)
    rw [show j / k * k + j % k = j by rw [Nat.mul_comm]; exact Nat.div_add_mod j k] at e
    have e2 : (rows f (List.replicate n x))[j] = (f x)[j % k]'(by rw [hk]; exact hr) := (List.getElem_eq_iff h2).2 e
    rw [e2]
    simp [madeCells, hk, List.getElem?_eq_getElem (show j % k < (f x).length by rw [hk]; exact hr)]
theorem wp_make_rows {ops : Array Oper} {rest : List Oper} {o : Oper} {a : Act} {w : World} {Q : Exit → Act → World → Prop} {t e : TypeId} {z : Value} {by' : Nat} (T : SlT P t e z k by') (x : α) (hk : ∀ r, (f r).length = k) (h0 : 0 < k) (hzc : z.cells = (f x).toArray)
    (hgd : o.guard = none) {l c : Operand} (hop : o.op = .makeSlice t l c) {k1 k2 : IntKind} (n : Nat) (hl : a.eval l = .int k1 n) (hc : a.eval c = .int k2 n) (B : Nat) (hB : B ≤ w.heap.size) (hb : by' * n ≤ 281474976710656) (h63 : n ≤ maxLen)
    (h : ∀ g w', Own w' B (some ⟨g, 0, none⟩) k n n (rows f (List.replicate n x)) → Ext no w w' → wpList P ops Q rest (a.put o.dst (.slice (some ⟨g, 0, none⟩) n n)) w') :
    wpList P ops Q (o :: rest) a w := by
  obtain ⟨w', hrun, h2, h3⟩ := run_make_rows (P := P) (k1 := k1) (k2 := k2) T x hk h0 hzc w B hB hb h63
  refine wpList_plain hgd fun K hK => ?_
  unfold Oper.wp execOp
  simp only [hop, hl, hc, Sem.run_bind, Sem.run_pure, Result.andThen_ok, hrun]
  exact hK _ _ (h _ _ h2 h3)
end
end Go.Esc
