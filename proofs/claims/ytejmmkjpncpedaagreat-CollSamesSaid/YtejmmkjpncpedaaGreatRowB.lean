/- Rows of records that are owned: spare elements; a block known whole; inserting, deleting, plainly: of no program. -/
import Derived.Test.YtejmmkjpncpedaaGreatCoO
import Derived.Lib.Overlaps
namespace Go.Esc
open Go.RowKit
section
variable {α : Type} {f : α → List Value} {k : Nat} {w w' : World}
/-- The spare elements are owned too. -/
theorem Own.more {B n c : Nat} {a : Option Addr} {cs : List Value} (h : Own w B a k n c cs) (n' : Nat) (h1 : n ≤ n') (h2 : n' ≤ c) : ∃ zs, zs.length = (n' - n) * k ∧ Own w B a k n' c (cs ++ zs) := by
  refine ⟨(List.range ((n' - n) * k)).map (fun j => match a with | some ad => (w.cell? (ad.add (n * k + j))).getD undef | none => undef), by simp, ?_⟩
  have hle : n' * k ≤ c * k := Nat.mul_le_mul_right _ h2
  have hsp : n * k + (n' - n) * k = n' * k := by rw [← Nat.add_mul]; congr 1; omega
  refine ⟨?_, by rw [List.length_append, h.len]; simp [hsp], h2, h.cm, h.can, h.base⟩
  intro j v hj
  by_cases hlt : j < cs.length
  · rw [List.getElem?_append_left hlt] at hj
    exact h.rd j v hj
  · rw [List.getElem?_append_right (by omega), h.len, List.getElem?_map] at hj
    have hlen := h.len
    have hj2 : j - n * k < (n' - n) * k := by
      rcases Nat.lt_or_ge (j - n * k) ((n' - n) * k) with h | h
      · exact h
      · rw [List.getElem?_eq_none (by simpa using h)] at hj; simp at hj
    rw [List.getElem?_range hj2] at hj
    obtain ⟨ad, ha, hs, _⟩ := h.can j (by omega)
    refine ⟨ad, ha, ?_⟩
    subst ha
    simp only [Option.map_some, Option.some.injEq] at hj
    rw [show n * k + (j - n * k) = j by omega] at hj
    rw [← hj]
    obtain ⟨u, hu⟩ := Option.isSome_iff_exists.1 hs
    rw [hu]; rfl
/-- A block known whole: what the walk asks of it. -/
theorem whole_cell {g : Nat} {cs : Array Value} {e : TypeId} (h : w.heap[g]? = some (.cells cs e)) (j : Nat) : w.cell? ⟨g, j, none⟩ = cs[j]? := by
  simp only [World.cell?, h]; simp
theorem whole_frozen {g : Nat} {cs : Array Value} {e : TypeId} (h : w.heap[g]? = some (.cells cs e)) (j : Nat) : w.frozen? ⟨g, j, none⟩ = false := by
  simp [World.frozen?, h]
theorem whole_shape {g : Nat} {cs : Array Value} {e : TypeId} (h : w.heap[g]? = some (.cells cs e)) : w.shape? g = some (e, cs.size) := by
  simp [World.shape?, h]
theorem whole_rd {g : Nat} {cs : Array Value} {e : TypeId} (h : w.heap[g]? = some (.cells cs e)) : Rd w (some ⟨g, 0, none⟩) cs.toList := by
  intro j v hj
  refine ⟨_, rfl, ?_⟩
  rw [Addr.add_lit, Nat.zero_add, whole_cell h]
  simpa using hj
theorem whole_lt {g : Nat} {o : Obj} (h : w.heap[g]? = some o) : g < w.heap.size := by
  rcases Nat.lt_or_ge g w.heap.size with hh | hh
  · exact hh
  · rw [Array.getElem?_eq_none hh] at h; cases h
theorem whole_ext {S : Nat → Prop} {g : Nat} {o : Obj} (h : w.heap[g]? = some o) (hx : Ext S w w') (hg : ¬ S g) : w'.heap[g]? = some o := (hx.block g (whole_lt h) hg).trans h
theorem whole_new (o : Obj) : (w.alloc o).heap[w.heap.size]? = some o := heap_alloc_new w o
theorem whole_at (o : Obj) (g : Nat) (hg : g = w.heap.size) : (w.alloc o).heap[g]? = some o := hg ▸ heap_alloc_new w o
/-! ### lists -/
theorem ins_rows (hk : ∀ x, (f x).length = k) (l : List α) (n : Nat) (x : α) (hn : n ≤ l.length) (zs : List Value) (hz : zs.length = (l.length + 1 - n) * k) :
    (((rows f l).take (n * k) ++ zs).take (n * k) ++ f x ++ ((rows f l).take (n * k) ++ zs).drop ((n + 1) * k)).take ((n + 1) * k) ++ (rows f l).drop (n * k) ++
      (((rows f l).take (n * k) ++ zs).take (n * k) ++ f x ++ ((rows f l).take (n * k) ++ zs).drop ((n + 1) * k)).drop ((n + 1 + (l.length - n)) * k) = rows f (putAt n x l) := by
  have hle : n * k ≤ l.length * k := Nat.mul_le_mul_right _ hn
  have hln : (rows f l).length = l.length * k := rows_length hk l
  have hlt : ((rows f l).take (n * k)).length = n * k := by rw [List.length_take, hln]; omega
  have e1 : ((rows f l).take (n * k) ++ zs).take (n * k) = (rows f l).take (n * k) := by rw [List.take_append_of_le_length (by omega), List.take_of_length_le (by omega)]
  have hz2 : n * k + (l.length + 1 - n) * k = (l.length + 1) * k := by rw [← Nat.add_mul]; congr 1; omega
  have hd : (((rows f l).take (n * k) ++ zs).drop ((n + 1) * k)).length = (l.length + 1) * k - (n + 1) * k := by rw [List.length_drop, List.length_append, hlt, hz, hz2]
  have hx := hk x
  have hs : (n + 1) * k = n * k + k := by rw [Nat.add_mul, Nat.one_mul]
  have hs2 : (l.length + 1) * k = l.length * k + k := by rw [Nat.add_mul, Nat.one_mul]
  rw [e1]
  have e2 : ((rows f l).take (n * k) ++ f x ++ ((rows f l).take (n * k) ++ zs).drop ((n + 1) * k)).take ((n + 1) * k) = (rows f l).take (n * k) ++ f x := by
    rw [List.take_append_of_le_length (by rw [List.length_append, hlt, hx]; omega), List.take_of_length_le (by rw [List.length_append, hlt, hx]; omega)]
  have e3 : ((rows f l).take (n * k) ++ f x ++ ((rows f l).take (n * k) ++ zs).drop ((n + 1) * k)).drop ((n + 1 + (l.length - n)) * k) = [] := by
    apply List.drop_eq_nil_of_le
    rw [List.length_append, List.length_append, hlt, hx, hd, show n + 1 + (l.length - n) = l.length + 1 by omega]
    omega
  rw [e2, e3, List.append_nil, rows_take hk, rows_drop hk]
  unfold putAt
  rw [rows_append, rows_append, rows_one]
theorem ins_end (l : List α) (x : α) : rows f l ++ f x = rows f (putAt l.length x l) := by
  unfold putAt
  rw [rows_append, rows_append, rows_one, List.take_length, List.drop_length, rows_nil, List.append_nil]
/-- In place: first what stood behind, then what is laid. -/
theorem ins_place (hk : ∀ x, (f x).length = k) (l : List α) (n : Nat) (x : α) (hn : n < l.length) (zs : List Value) (hz : zs.length = k) :
    ((rows f l ++ zs).take ((n + 1) * k) ++ (rows f l).drop (n * k) ++ (rows f l ++ zs).drop ((n + 1 + (l.length - n)) * k)).take (n * k) ++ f x ++
      ((rows f l ++ zs).take ((n + 1) * k) ++ (rows f l).drop (n * k) ++ (rows f l ++ zs).drop ((n + 1 + (l.length - n)) * k)).drop ((n + 1) * k) = rows f (putAt n x l) := by
  have hle : (n + 1) * k ≤ l.length * k := Nat.mul_le_mul_right _ hn
  have hln : (rows f l).length = l.length * k := rows_length hk l
  have hx := hk x
  have hs : (n + 1) * k = n * k + k := by rw [Nat.add_mul, Nat.one_mul]
  have hs2 : (l.length + 1) * k = l.length * k + k := by rw [Nat.add_mul, Nat.one_mul]
  have h1 : (rows f l ++ zs).take ((n + 1) * k) = (rows f l).take ((n + 1) * k) := by rw [List.take_append_of_le_length (by omega)]
  have hl1 : ((rows f l).take ((n + 1) * k)).length = (n + 1) * k := by rw [List.length_take, hln]; omega
  have h3 : (rows f l ++ zs).drop ((n + 1 + (l.length - n)) * k) = [] := by
    apply List.drop_eq_nil_of_le
    rw [List.length_append, hln, hz, show n + 1 + (l.length - n) = l.length + 1 by omega]
    omega
  rw [h1, h3, List.append_nil]
  have e2 : ((rows f l).take ((n + 1) * k) ++ (rows f l).drop (n * k)).take (n * k) = (rows f l).take (n * k) := by
    rw [List.take_append_of_le_length (by omega), List.take_take, Nat.min_eq_left (by omega)]
  have e3 : ((rows f l).take ((n + 1) * k) ++ (rows f l).drop (n * k)).drop ((n + 1) * k) = (rows f l).drop (n * k) := by
    rw [List.drop_append_of_le_length (by omega), List.drop_of_length_le (by omega), List.nil_append]
  rw [e2, e3, rows_take hk, rows_drop hk]
  unfold putAt
  rw [rows_append, rows_append, rows_one]
end
end Go.Esc
namespace Go.Esc
open Go.RowKit
section
variable {P : Program} {w w' : World}
theorem wpList_append_madeN {ops : Array Oper} {rest : List Oper} {o : Oper} {a : Act} {Q : Exit → Act → World → Prop} {t u e : TypeId} {z : Value} {k by' : Nat} {ik : IntKind} (T : SlT P t e z k by')
    (hgd : o.guard = none) {s x : Operand} (hop : o.op = .call { callee := .builtin .append, args := #[s, x], argTypes := #[t, u] }) (hu : P.underlying u = some (.int ik))
    {B n c : Nat} {sa : Option Addr} {xs : List Value} (ho : Own w B sa k n c xs) {m N : Nat} (hN : n + m = N) {mi : Int} (hs : a.eval s = .slice sa n c) (hx : a.eval x = .int .i64 mi) (hmi : mi = m) (hpos : 0 < m) (hroom : c < N) (h63 : N ≤ maxLen) (hby : N * by' ≤ 140737488355328) (hB : B ≤ w.heap.size)
    (h : ∀ zs c' w', Own w' B (some ⟨w.heap.size, 0, none⟩) k N c' (xs ++ zs) → zs.length = m * k → Ext no w w' → wpList P ops Q rest (a.put o.dst (.slice (some ⟨w.heap.size, 0, none⟩) N c')) w') :
    wpList P ops Q (o :: rest) a w := by
  subst hN
  exact wpList_append_made T hgd hop hu ho hs hx hmi hpos hroom h63 hby hB h
theorem cutAt_some {ad : Addr} {c l k : Nat} (h : l < c) : cutAt (some ad) c l k = some (ad.add (l * k)) := by
  unfold cutAt; rw [if_neg (by omega)]; rfl
theorem cutAt_some' (ad : Addr) (c l k : Nat) : ∃ ad', cutAt (some ad) c l k = some ad' ∧ ad'.block = ad.block := by
  unfold cutAt
  split
  · exact ⟨ad, rfl, rfl⟩
  · exact ⟨_, rfl, add_block _ _⟩
end
end Go.Esc
namespace Go.Esc
open Go.RowKit
/-- Where a row lies behind what was laid in it: where it lay, or in a new block. -/
def Near (a : Option Addr) (w : World) (a' : Option Addr) : Prop := ∀ ad, a' = some ad → blk a ad.block ∨ w.heap.size ≤ ad.block
theorem near_self (a : Option Addr) (w : World) : Near a w a := fun ad h => .inl ⟨ad, h, rfl⟩
theorem near_new (a : Option Addr) (w : World) : Near a w (some ⟨w.heap.size, 0, none⟩) := fun ad h => .inr (by cases h; exact Nat.le_refl _)
theorem near_none (a : Option Addr) (w : World) : Near a w none := fun ad h => by cases h
theorem App.near {w w' : World} {B k n c : Nat} {a : Option Addr} {xs : List Value} {a' : Option Addr} {c' m : Nat} {zs : List Value} (h : App w w' B k a n c xs a' c' m zs) : Near a w a' := by
  rcases h.loc with ⟨rfl, _⟩ | h
  · exact near_self _ _
  · exact fun ad e => .inr (h ad e)
def Apart (a b : Option Addr) : Prop := ∀ x y, a = some x → b = some y → x.block ≠ y.block
theorem Apart.symm {a b : Option Addr} (h : Apart a b) : Apart b a := fun x y hx hy => Ne.symm (h y x hy hx)
theorem apart_upd {at' at0 : Nat → Option Addr} {w : World} (h : ∀ i j, i ≠ j → Apart (at0 i) (at0 j)) (hlt : ∀ i ad, at0 i = some ad → ad.block < w.heap.size) (k : Nat) (hk : ∀ i, i ≠ k → at' i = at0 i) (hn : Near (at0 k) w (at' k)) :
    ∀ i j, i ≠ j → Apart (at' i) (at' j) := by
  have key : ∀ i, i ≠ k → Apart (at' k) (at' i) := by
    intro i hi x y hx hy
    rw [hk i hi] at hy
    rcases hn x hx with ⟨z, hz, hb⟩ | hb
    · rw [← hb]; exact h k i (Ne.symm hi) z y hz hy
    · have := hlt i y hy; omega
  intro i j hij
  by_cases hi : i = k
  · subst hi; exact key j (Ne.symm hij)
  · by_cases hj : j = k
    · subst hj; exact (key i hi).symm
    · rw [hk i hi, hk j hj]; exact h i j hij
end Go.Esc
