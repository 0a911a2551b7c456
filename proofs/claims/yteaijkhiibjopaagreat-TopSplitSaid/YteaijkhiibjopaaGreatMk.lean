/- Structs in memory; slices that are made; what is copied: of no program. -/
import Derived.Test.YteaijkhiibjopaaGreatBase
import Derived.Laws.MakeOwn
import Derived.Laws.IdiomCopy
namespace Go.Esc
open Go.RowKit

variable {w w' : World}

theorem decT {p : Prop} [Decidable p] (h : p) : decide p = true := decide_eq_true h
theorem decF {p : Prop} [Decidable p] (h : ¬ p) : decide p = false := decide_eq_false h

/-- The first cells of block g, none of which is frozen. -/
structure Blk (w : World) (g : Nat) (cs : List Value) : Prop where
  cell : ∀ k v, cs[k]? = some v → w.cell? ⟨g, k, none⟩ = some v
  fr : ∀ k, w.frozen? ⟨g, k, none⟩ = false

theorem Blk.lt {g : Nat} {cs : List Value} (h : Blk w g cs) (hn : cs ≠ []) : g < w.heap.size := by
  cases cs with
  | nil => exact absurd rfl hn
  | cons v vs => exact World.block_lt_of_cell? w _ (h.cell 0 v rfl)
theorem Blk.ext {S : Nat → Prop} {g : Nat} {cs : List Value} (h : Blk w g cs) (hn : cs ≠ []) (hx : Ext S w w') (hg : ¬ S g) : Blk w' g cs :=
  ⟨fun k v hk => hx.keeps (h.cell k v hk) hg, fun k => by rw [hx.frozen (p := ⟨g, k, none⟩) (h.lt hn) hg]; exact h.fr k⟩
theorem Blk.drew {g : Nat} {cs : List Value} (h : Blk w g cs) : Blk w.drew g cs := ⟨h.cell, h.fr⟩
theorem Blk.drewN {g : Nat} {cs : List Value} (h : Blk w g cs) (n : Nat) : Blk (w.drewN n) g cs := ⟨h.cell, h.fr⟩
theorem Blk.set {g : Nat} {cs : List Value} (h : Blk w g cs) (k : Nat) (v : Value) (hk : k < cs.length) : Blk (w.setCell ⟨g, k, none⟩ v) g (cs.set k v) := by
  refine ⟨fun i u hi => ?_, fun i => ?_⟩
  · by_cases e : k = i
    · subst e
      rw [List.getElem?_set_self hk] at hi
      cases hi
      exact World.cell?_setCell_same _ _ _ (h.cell k cs[k] (by simp [hk]))
    · rw [List.getElem?_set_ne e] at hi
      rw [World.cell?_setCell_other _ _ _ _ (by intro hh; cases hh; exact e rfl)]
      exact h.cell i u hi
  · have := World.frozen?_setCells g [v] k w ⟨g, i, none⟩
    exact this.trans (h.fr i)
theorem Blk.lit (w : World) (cs : Array Value) (e : TypeId) : Blk (w.alloc (.cells cs e)) w.heap.size cs.toList := by
  have hnew : (w.alloc (.cells cs e)).heap[w.heap.size]? = some (.cells cs e) := heap_alloc_new w _
  refine ⟨fun k v hk => ?_, fun k => ?_⟩
  · rw [cell_of_row _ _ _ _ _ _ hnew]; simpa using hk
  · simp only [World.frozen?, hnew]; simp
theorem Blk.at (w : World) (cs : Array Value) (e : TypeId) (g : Nat) (hg : g = w.heap.size) : Blk (w.alloc (.cells cs e)) g cs.toList := hg ▸ Blk.lit w cs e

theorem Own.setCells {B n c g o0 : Nat} : ∀ (ys : List Value) (off : Nat) (w : World) (cs : List Value), Own w B (some ⟨g, o0, none⟩) 1 n c cs → off + ys.length ≤ n →
    Own (w.setCells g (o0 + off) ys) B (some ⟨g, o0, none⟩) 1 n c (cs.take off ++ ys ++ cs.drop (off + ys.length))
  | [], off, w, cs, h, _ => by simpa [World.setCells] using h
  | v :: ys, off, w, cs, h, hl => by
    rw [List.length_cons] at hl
    have h1 := h.set off (by omega) v
    rw [Addr.add_lit] at h1
    have h2 := Own.setCells ys (off + 1) _ _ h1 (by omega)
    have hlen : off < cs.length := by have := h.len; omega
    simp only [World.setCells]
    have e1 : (cs.set off v).take (off + 1) = cs.take off ++ [v] := by
      rw [List.take_succ_eq_append_getElem (by simpa using hlen), List.getElem_set_self, List.take_set_of_le (Nat.le_refl _)]
    have e2 : (cs.set off v).drop (off + 1 + ys.length) = cs.drop (off + (ys.length + 1)) := by
      rw [List.drop_set_of_lt (by omega)]
      congr 1; omega
    rw [e1, e2] at h2
    rw [List.length_cons, show cs.take off ++ v :: ys = cs.take off ++ [v] ++ ys from by simp, show o0 + off + 1 = o0 + (off + 1) from by omega]
    exact h2

section
variable {P : Program}

theorem run_copy_own {t ty e : TypeId} {z : Value} {by' : Nat} (T : SlT P t e z 1 by') {B n c : Nat} {ad : Addr} {cs : List Value} (ho : Own w B (some ad) 1 n c cs) {dp : Option Addr} {off dLen dCap : Nat}
    {xa : Option Addr} {m cx : Nat} {ys : List Value} (hdp : 0 < m → dp = some (ad.add off)) (hr : Rd w xa ys) (hl : ys.length = m) (h1 : ∀ u ∈ ys, u.oneCell' = true) (hm : m ≤ dLen) (hfit : off + m ≤ n) :
    ∃ w', (Builtin.copy_ #[t, t] ty #[.slice dp dLen dCap, .slice xa m cx]).run P w = .ok (goInt m) w' ∧ Own w' B (some ad) 1 n c (cs.take off ++ ys ++ cs.drop (off + m)) ∧ Ext (blk (some ad)) w w' := by
  have hs : (P.info? e).map (·.size) = some 1 := by
    obtain ⟨i, hi, _, hk, _⟩ := info_parts T.info
    simp [hi, hk]
  by_cases h0 : m = 0
  · subst h0
    obtain rfl : ys = [] := List.eq_nil_of_length_eq_zero hl
    exact ⟨w, run_copy_none w t t ty e dp xa dLen dCap 0 cx T.und hs (by simp), by simpa using ho, Ext.refl _ _⟩
  · obtain ⟨_, _, hsp⟩ := ho.base ad rfl
    obtain ⟨g, o0, sp⟩ := ad
    simp only at hsp
    subst hsp
    have hd := hdp (by omega)
    rw [Addr.add_lit] at hd
    subst hd
    obtain ⟨xad, rfl, _⟩ := hr.ne (by omega)
    have hcan : ∀ j, j < ys.length → (w.cell? ⟨g, o0 + off + j, none⟩).isSome = true ∧ w.frozen? ⟨g, o0 + off + j, none⟩ = false := fun j hj => by
      obtain ⟨_, e1, h3, h4⟩ := ho.can (off + j) (by have := ho.nc; omega)
      cases e1
      rw [Addr.add_lit] at h3 h4
      rw [Nat.add_assoc]
      exact ⟨h3, h4⟩
    have hrun := run_copy_cells (P := P) w t t ty e g (o0 + off) dLen dCap xad m cx ys T.und hs (by rw [hl]; exact (Nat.min_eq_left hm).symm) (fun j v hj => hr.get hj) (fun j hj => (hcan j hj).1) (fun j hj => (hcan j hj).2) h1
    rw [hl] at hrun
    refine ⟨_, hrun, ?_, ?_⟩
    · have := Own.setCells ys off w cs ho (by omega)
      rwa [hl] at this
    · exact Ext.setCells g (o0 + off) ys w ⟨_, rfl, rfl⟩

theorem wpList_copy {ops : Array Oper} {rest : List Oper} {o : Oper} {a : Act} {Q : Exit → Act → World → Prop} {t e : TypeId} {z : Value} {by' : Nat} (T : SlT P t e z 1 by')
    (hgd : o.guard = none) {d s : Operand} (hop : o.op = .call { callee := .builtin .copy, args := #[d, s], argTypes := #[t, t] })
    {B n c : Nat} {ad : Addr} {cs : List Value} (ho : Own w B (some ad) 1 n c cs) {dp : Option Addr} {off dLen dCap : Nat} {xa : Option Addr} {m cx : Nat} {ys : List Value}
    (hd : a.eval d = .slice dp dLen dCap) (hs : a.eval s = .slice xa m cx) (hdp : 0 < m → dp = some (ad.add off)) (hr : Rd w xa ys) (hl : ys.length = m) (h1 : ∀ u ∈ ys, u.oneCell' = true) (hm : m ≤ dLen) (hfit : off + m ≤ n)
    (h : ∀ w', Own w' B (some ad) 1 n c (cs.take off ++ ys ++ cs.drop (off + m)) → Ext (blk (some ad)) w w' → wpList P ops Q rest (a.put o.dst (.int .i64 m)) w') :
    wpList P ops Q (o :: rest) a w := by
  obtain ⟨w', hrun, h2, h3⟩ := run_copy_own (P := P) (ty := o.type) T ho (dCap := dCap) (cx := cx) hdp hr hl h1 hm hfit
  refine wpList_plain hgd fun K hK => ?_
  unfold Oper.wp execOp
  simp only [hop, resolve, invoke, builtin, Sem.run_bind, Sem.run_pure, Result.andThen_ok, List.map_toArray, List.map_cons, List.map_nil, hd, hs, hrun]
  exact hK _ _ (h _ h2 h3)

theorem run_make_z {t e : TypeId} {z : Value} {by' : Nat} (T : SlT P t e z 1 by') (hzc : z.cells = #[z]) {k1 k2 : IntKind} {n : Nat} (w : World) (B : Nat) (hB : B ≤ w.heap.size) (hb : by' * n ≤ 281474976710656) (h63 : n ≤ maxLen) :
    ∃ w', (Instr.makeSlice t (.int k1 n) (.int k2 n)).run P w = .ok (.slice (some ⟨w.heap.size, 0, none⟩) n n) w' ∧ Own w' B (some ⟨w.heap.size, 0, none⟩) 1 n n (List.replicate n z) ∧ Ext no w w' := by
  obtain ⟨i, hi, hz, hk, hbb⟩ := info_parts T.info
  have hm63 : n ≤ 9223372036854775807 := h63
  have hb' : (i.bytes : Int) * (n : Int) ≤ 281474976710656 := by
    have := Int.ofNat_le.2 hb
    rw [Int.natCast_mul] at this
    rw [hbb]
    generalize (by' : Int) * (n : Int) = q at *
    omega
  have hrun := run_make (P := P) w t e i z T.und hi hz k1 k2 n n (by omega) (Int.le_refl _) hb' (by omega)
  rw [hk] at hrun
  simp only [Int.toNat_natCast, Nat.mul_one] at hrun
  refine ⟨_, hrun, ?_, Ext.alloc no w _⟩
  refine Own.fresh w B 1 n n _ e (0, 0) _ hB (by simp) (Nat.le_refl _) h63 (by rw [size_madeCells, Nat.mul_one]) ?_ (.inl (Nat.le_refl _))
  rw [Nat.mul_one, hzc]
  apply List.ext_getElem
  · simp [madeCells]
  · intro j h1 h2
    simp [madeCells, Nat.mod_one]

theorem wpList_make_z {ops : Array Oper} {rest : List Oper} {o : Oper} {a : Act} {Q : Exit → Act → World → Prop} {t e : TypeId} {z : Value} {by' : Nat} (T : SlT P t e z 1 by') (hzc : z.cells = #[z])
    (hgd : o.guard = none) {l c : Operand} (hop : o.op = .makeSlice t l c) {k1 k2 : IntKind} {n1 n2 : Int} (n : Nat) (hl : a.eval l = .int k1 n1) (hc : a.eval c = .int k2 n2) (e1 : n1 = n) (e2 : n2 = n) (B : Nat) (hB : B ≤ w.heap.size) (hb : by' * n ≤ 281474976710656) (h63 : n ≤ maxLen)
    (h : ∀ ad w', Own w' B (some ad) 1 n n (List.replicate n z) → Ext no w w' → wpList P ops Q rest (a.put o.dst (.slice (some ad) n n)) w') :
    wpList P ops Q (o :: rest) a w := by
  subst e1 e2
  obtain ⟨w', hrun, h2, h3⟩ := run_make_z (P := P) (k1 := k1) (k2 := k2) T hzc w B hB hb h63
  refine wpList_plain hgd fun K hK => ?_
  unfold Oper.wp execOp
  simp only [hop, hl, hc, Sem.run_bind, Sem.run_pure, Result.andThen_ok, hrun]
  exact hK _ _ (h _ _ h2 h3)
end
end Go.Esc
