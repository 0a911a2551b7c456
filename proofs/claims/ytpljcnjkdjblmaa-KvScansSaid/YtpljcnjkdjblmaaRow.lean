/- Rows of records: slices whose elements have k cells each; copying, making, appending such: of no program. -/
import Derived.Test.YtpljcnjkdjblmaaMk
namespace Go.Esc
open Go.RowKit

def rows {α : Type} (f : α → List Value) (l : List α) : List Value := l.flatMap f

section
variable {α : Type} {f : α → List Value} {k : Nat} {w w' : World}

theorem rows_nil : rows f [] = [] := rfl
theorem rows_cons (x : α) (l : List α) : rows f (x :: l) = f x ++ rows f l := by simp [rows]
theorem rows_one (x : α) : rows f [x] = f x := by simp [rows]
theorem rows_append (l m : List α) : rows f (l ++ m) = rows f l ++ rows f m := by simp [rows]
theorem rows_length (hk : ∀ x, (f x).length = k) (l : List α) : (rows f l).length = l.length * k := by
  induction l with
  | nil => simp [rows]
  | cons x l ih => rw [rows_cons, List.length_append, ih, hk, List.length_cons, Nat.add_mul, Nat.one_mul, Nat.add_comm]
theorem rows_take (hk : ∀ x, (f x).length = k) (l : List α) (n : Nat) : (rows f l).take (n * k) = rows f (l.take n) := by
  induction l generalizing n with
  | nil => simp [rows]
  | cons x l ih =>
    cases n with
    | zero => simp [rows]
    | succ n =>
      rw [List.take_succ_cons, rows_cons, rows_cons, ← ih n, List.take_append, hk, List.take_of_length_le (by rw [hk, Nat.add_mul]; omega), show (n + 1) * k - k = n * k by rw [Nat.add_mul]; omega]
theorem rows_drop (hk : ∀ x, (f x).length = k) (l : List α) (n : Nat) : (rows f l).drop (n * k) = rows f (l.drop n) := by
  induction l generalizing n with
  | nil => simp [rows]
  | cons x l ih =>
    cases n with
    | zero => simp [rows]
    | succ n =>
      rw [List.drop_succ_cons, rows_cons, ← ih n, List.drop_append, hk, List.drop_of_length_le (by rw [hk, Nat.add_mul]; omega), List.nil_append, show (n + 1) * k - k = n * k by rw [Nat.add_mul]; omega]
theorem rows_get (hk : ∀ x, (f x).length = k) (l : List α) (n : Nat) (x : α) (h : l[n]? = some x) (m : Nat) (v : Value) (hm : (f x)[m]? = some v) : (rows f l)[n * k + m]? = some v := by
  have hm3 : m < k := by have := (List.getElem?_eq_some_iff.1 hm).1; rw [hk] at this; exact this
  induction l generalizing n with
  | nil => simp at h
  | cons c l ih =>
    rw [rows_cons]
    cases n with
    | zero =>
      simp at h
      subst h
      rw [Nat.zero_mul, Nat.zero_add, List.getElem?_append_left (by rw [hk]; exact hm3)]
      exact hm
    | succ n =>
      rw [List.getElem?_append_right (by rw [hk, Nat.add_mul]; omega), show (n + 1) * k + m - (f c).length = n * k + m by rw [hk, Nat.add_mul]; omega]
      exact ih n (by simpa using h)
theorem rows_cell (hk : ∀ x, (f x).length = k) {b o : Nat} {l : List α} {n : Nat} {x : α} (h : Rd w (some ⟨b, o, none⟩) (rows f l)) (hx : l[n]? = some x) : ∀ m v, (f x)[m]? = some v → w.cell? ⟨b, o + n * k + m, none⟩ = some v := by
  intro m v hm
  obtain ⟨ad, hs, hc⟩ := h (n * k + m) v (rows_get hk l n x hx m v hm)
  cases hs
  rw [Addr.add_lit] at hc
  rw [Nat.add_assoc]
  exact hc
theorem rows_shape (hk : ∀ x, (f x).length = k) (hk0 : 0 < k) {a : Option Addr} {l : List α} (h : Rd w a (rows f l)) (hl : 0 < l.length) : ∃ b off, a = some ⟨b, off, none⟩ ∧ b < w.heap.size :=
  h.shape (by rw [rows_length hk]; exact Nat.mul_pos hl hk0)
theorem rows_one' (h1 : ∀ x, ∀ u ∈ f x, u.oneCell' = true) (l : List α) : ∀ u ∈ rows f l, u.oneCell' = true := by
  intro u hu
  obtain ⟨x, _, hx⟩ := List.mem_flatMap.1 hu
  exact h1 x u hx
end

section
variable {P : Program} {w w' : World}

theorem run_copy_cellsK {k : Nat} (w : World) (dT sT ty elem : TypeId) (b o dLen dCap : Nat) (a : Addr) (sLen sCap : Nat) (cs : List Value)
    (hu : P.underlying dT = some (.slice elem)) (hs : (P.info? elem).map (·.size) = some k) (hn : cs.length = Nat.min sLen dLen * k)
    (hsrc : ∀ j v, cs[j]? = some v → w.cell? (a.add j) = some v) (hc : ∀ j, j < cs.length → (w.cell? ⟨b, o + j, none⟩).isSome = true) (hf : ∀ j, j < cs.length → w.frozen? ⟨b, o + j, none⟩ = false) (h1 : ∀ v ∈ cs, v.oneCell' = true) :
    (Builtin.copy_ #[dT, sT] ty #[.slice (some ⟨b, o, none⟩) dLen dCap, .slice (some a) sLen sCap]).run P w = .ok (goInt (Nat.min sLen dLen)) (w.setCells b o cs) := by
  have hl := run_loadCells_list (P := P) w a cs hsrc
  have hst := run_storeCells_cells (P := P) b o cs 0 w (by simpa using hc) (by simpa using hf) h1
  cases hq : P.info? elem with
  | none => simp [hq] at hs
  | some i =>
    have hi : i.size = k := by simpa [hq] using hs
    rw [hn] at hl
    simp [Builtin.copy_, run_underlying hu, Builtin.lenOf, Builtin.firstCells, sizeOf, typeInfo, hq, hi, hl, hst]

theorem Own.setCellsK {B n c k g o0 : Nat} : ∀ (ys : List Value) (off : Nat) (w : World) (cs : List Value), Own w B (some ⟨g, o0, none⟩) k n c cs → off + ys.length ≤ n * k →
    Own (w.setCells g (o0 + off) ys) B (some ⟨g, o0, none⟩) k n c (cs.take off ++ ys ++ cs.drop (off + ys.length))
  | [], off, w, cs, h, _ => by simpa [World.setCells] using h
  | v :: ys, off, w, cs, h, hl => by
    rw [List.length_cons] at hl
    have h1 := h.set off (by omega) v
    rw [Addr.add_lit] at h1
    have h2 := Own.setCellsK ys (off + 1) _ _ h1 (by omega)
    have hlen : off < cs.length := by have := h.len; omega
    simp only [World.setCells]
    have e1 : (cs.set off v).take (off + 1) = cs.take off ++ [v] := by
      rw [List.take_succ_eq_append_getElem (by simpa using hlen), List.getElem_set_self, List.take_set_of_le (Nat.le_refl _)]
    have e2 : (cs.set off v).drop (off + 1 + ys.length) = cs.drop (off + (ys.length + 1)) := by
      rw [List.drop_set_of_lt (by omega)]
      congr 1; omega
    rw [e1, e2] at h2
    rw [List.length_cons, show cs.take off ++ v :: ys = cs.take off ++ [v] ++ ys from by simp, show o0 + off + 1 = o0 + (off + 1) from by omega]
    exact h2

/-- copy into an owned slice, at element off; what is read may lie in the same one. -/
theorem run_copy_ownK {t ty e : TypeId} {z : Value} {k by' : Nat} (T : SlT P t e z k by') {B n c : Nat} {ad : Addr} {cs : List Value} (ho : Own w B (some ad) k n c cs) {dp : Option Addr} {off dLen dCap : Nat}
    {xa : Option Addr} {sl m cx : Nat} {ys : List Value} (hm : Nat.min sl dLen = m) (hdp : 0 < m → dp = some (ad.add (off * k))) (hr : Rd w xa ys) (hl : ys.length = m * k) (h1 : ∀ u ∈ ys, u.oneCell' = true) (hfit : off + m ≤ n) :
    ∃ w', (Builtin.copy_ #[t, t] ty #[.slice dp dLen dCap, .slice xa sl cx]).run P w = .ok (goInt m) w' ∧ Own w' B (some ad) k n c (cs.take (off * k) ++ ys ++ cs.drop ((off + m) * k)) ∧ Ext (blk (some ad)) w w' := by
  have hs : (P.info? e).map (·.size) = some k := by
    obtain ⟨i, hi, _, hk, _⟩ := info_parts T.info
    simp [hi, hk]
  by_cases h0 : m = 0
  · subst h0
    obtain rfl : ys = [] := List.eq_nil_of_length_eq_zero (by simpa using hl)
    refine ⟨w, ?_, by simpa using ho, Ext.refl _ _⟩
    cases hq : P.info? e with
    | none => simp [hq] at hs
    | some i =>
      have hll : ∀ (x : Addr), (loadCells x 0).run P w = .ok #[] w := fun x => by simpa using run_loadCells_list (P := P) w x [] (by simp)
      cases dp <;> cases xa <;> simp [Builtin.copy_, run_underlying T.und, Builtin.lenOf, Builtin.firstCells, sizeOf, typeInfo, hq, hm, storeCells, hll]
  · have hk0 := T.k0
    obtain ⟨_, _, hsp⟩ := ho.base ad rfl
    obtain ⟨g, o0, sp⟩ := ad
    simp only at hsp
    subst hsp
    have hd := hdp (by omega)
    rw [Addr.add_lit] at hd
    subst hd
    obtain ⟨xad, rfl, _⟩ := hr.ne (by rw [hl]; exact Nat.mul_pos (by omega) hk0)
    have hle : off * k + ys.length ≤ n * k := by rw [hl, ← Nat.add_mul]; exact Nat.mul_le_mul_right _ hfit
    have hnc : n * k ≤ c * k := Nat.mul_le_mul_right _ ho.nc
    have hcan : ∀ j, j < ys.length → (w.cell? ⟨g, o0 + off * k + j, none⟩).isSome = true ∧ w.frozen? ⟨g, o0 + off * k + j, none⟩ = false := fun j hj => by
      obtain ⟨_, e1, h3, h4⟩ := ho.can (off * k + j) (by omega)
      cases e1
      rw [Addr.add_lit] at h3 h4
      rw [Nat.add_assoc]
      exact ⟨h3, h4⟩
    have hrun := run_copy_cellsK (P := P) w t t ty e g (o0 + off * k) dLen dCap xad sl cx ys T.und hs (by rw [hl, hm]) (fun j v hj => hr.get hj) (fun j hj => (hcan j hj).1) (fun j hj => (hcan j hj).2) h1
    rw [hm] at hrun
    refine ⟨_, hrun, ?_, ?_⟩
    · have := Own.setCellsK ys (off * k) w cs ho hle
      rwa [hl, ← Nat.add_mul] at this
    · exact Ext.setCells g (o0 + off * k) ys w ⟨_, rfl, rfl⟩

theorem wpList_copyK {ops : Array Oper} {rest : List Oper} {o : Oper} {a : Act} {Q : Exit → Act → World → Prop} {t e : TypeId} {z : Value} {k by' : Nat} (T : SlT P t e z k by')
    (hgd : o.guard = none) {d s : Operand} (hop : o.op = .call { callee := .builtin .copy, args := #[d, s], argTypes := #[t, t] })
    {B n c : Nat} {ad : Addr} {cs : List Value} (ho : Own w B (some ad) k n c cs) {dp : Option Addr} {off dLen dCap : Nat} {xa : Option Addr} {sl m cx : Nat} {ys : List Value}
    (hd : a.eval d = .slice dp dLen dCap) (hs : a.eval s = .slice xa sl cx) (hm : Nat.min sl dLen = m) (hdp : 0 < m → dp = some (ad.add (off * k))) (hr : Rd w xa ys) (hl : ys.length = m * k) (h1 : ∀ u ∈ ys, u.oneCell' = true) (hfit : off + m ≤ n)
    (h : ∀ w', Own w' B (some ad) k n c (cs.take (off * k) ++ ys ++ cs.drop ((off + m) * k)) → Ext (blk (some ad)) w w' → wpList P ops Q rest (a.put o.dst (.int .i64 m)) w') :
    wpList P ops Q (o :: rest) a w := by
  obtain ⟨w', hrun, h2, h3⟩ := run_copy_ownK (P := P) (ty := o.type) T ho (dCap := dCap) (cx := cx) hm hdp hr hl h1 hfit
  refine wpList_plain hgd fun K hK => ?_
  unfold Oper.wp execOp
  simp only [hop, resolve, invoke, builtin, Sem.run_bind, Sem.run_pure, Result.andThen_ok, List.map_toArray, List.map_cons, List.map_nil, hd, hs, hrun]
  exact hK _ _ (h _ h2 h3)

/-- append of m zero elements where there is no room: a new row. -/
theorem run_append_made {t u ty e : TypeId} {z : Value} {k by' : Nat} {ik : IntKind} (T : SlT P t e z k by') (hu : P.underlying u = some (.int ik))
    {B n c : Nat} {sa : Option Addr} {xs : List Value} (ho : Own w B sa k n c xs) {m : Nat} (hpos : 0 < m) (hroom : c < n + m) (h63 : n + m ≤ maxLen) (hby : (n + m) * by' ≤ 140737488355328) (hB : B ≤ w.heap.size) :
    ∃ zs c' w', (Builtin.append_ #[t, u] ty #[.slice sa n c, .int .i64 m]).run P w = .ok (.slice (some ⟨w.heap.size, 0, none⟩) (n + m) c') w' ∧ Own w' B (some ⟨w.heap.size, 0, none⟩) k (n + m) c' (xs ++ zs) ∧ zs.length = m * k ∧ Ext no w w' := by
  obtain ⟨i, hi, hz, hk, hb⟩ := info_parts T.info
  have hund := T.und
  have hm63 : n + m ≤ 9223372036854775807 := h63
  have hk0 := T.k0
  have hw : IntKind.i64.wrap (m : Int) = m := by rw [IntKind.wrap_i64]; omega
  have hnn : ¬ ((m : Int) < 0) := by omega
  have h63' : ¬ (9223372036854775807 < ((n : Int) + (m : Int))) := by omega
  have hn : ¬ (n + m ≤ c) := by omega
  have h48' : ¬ (281474976710656 < Builtin.nextslicecap (n + m) c * by') := by have := growslice_fits (need := n + m) (old := c) (by omega) hby; omega
  have h48 : ¬ (281474976710656 < (m : Int) * by') := by
    have h2 : m * by' ≤ (n + m) * by' := Nat.mul_le_mul_right _ (by omega)
    have := Int.ofNat_le.2 (Nat.le_trans h2 hby)
    rw [Int.natCast_mul] at this
    generalize (m : Int) * (by' : Int) = q at *
    omega
  have hfo : (Builtin.firstCells k n (.slice sa n c)).run P w.drew = .ok xs.toArray w.drew := by
    cases sa with
    | none =>
      have hx0 : xs = [] := by
        cases xs with
        | nil => rfl
        | cons v vs => obtain ⟨_, h, _⟩ := ho.rd 0 v rfl; cases h
      subst hx0
      exact run_firstCells_none _ _ _ _ _
    | some b => exact run_firstCells_some (P := P) w.drew k n b n c xs (by rw [ho.len]) (fun j v hj => by simpa using ho.rd.get hj)
  have hzl : (Builtin.zeroCells z.cells m).toList.length = m * k := by rw [Array.length_toList, size_zeroCells, T.zk]
  refine ⟨(Builtin.zeroCells z.cells m).toList, grownCap w (n + m) c e, w.drew.alloc (.cells (xs.toArray ++ Builtin.zeroCells z.cells m ++ Builtin.zeroCells z.cells (grownCap w (n + m) c e - (n + m))) e), ?_, ?_, hzl, (Ext.drew no w).comp (Ext.alloc no _ _)⟩
  · simp [Builtin.append_, run_underlying hund, run_underlying hu, sizeOf, typeInfo, zeroValue, hi, hz, hk, hb, asInt, asIntOf, hw, hnn, h48, hn, h63', h48', Question.forced, hfo, newRow, grownCap]
    intro h0
    exact absurd h0 (Nat.ne_of_gt (Nat.mul_pos hpos hk0))
  · have hge := grownCap_ge w (n + m) c e
    refine Own.fresh w.drew B k (n + m) _ (xs ++ (Builtin.zeroCells z.cells m).toList) e (0, 0) _ hB (by rw [List.length_append, ho.len, hzl, Nat.add_mul]) hge (grownCap_le_maxLen _ _ _ _ h63) ?_ ?_ (.inl (Nat.le_refl _))
    · simp only [Array.size_append, List.size_toArray, size_zeroCells, T.zk, ho.len, ← Nat.add_mul]
      congr 1; omega
    · simp only [Array.toList_append, List.append_assoc]
      rw [← List.append_assoc]
      have hl2 : (xs ++ (Builtin.zeroCells z.cells m).toList).length = (n + m) * k := by rw [List.length_append, ho.len, hzl, Nat.add_mul]
      rw [← hl2]
      exact List.take_left

theorem wpList_append_made {ops : Array Oper} {rest : List Oper} {o : Oper} {a : Act} {Q : Exit → Act → World → Prop} {t u e : TypeId} {z : Value} {k by' : Nat} {ik : IntKind} (T : SlT P t e z k by')
    (hgd : o.guard = none) {s x : Operand} (hop : o.op = .call { callee := .builtin .append, args := #[s, x], argTypes := #[t, u] }) (hu : P.underlying u = some (.int ik))
    {B n c : Nat} {sa : Option Addr} {xs : List Value} (ho : Own w B sa k n c xs) {m : Nat} {mi : Int} (hs : a.eval s = .slice sa n c) (hx : a.eval x = .int .i64 mi) (hmi : mi = m) (hpos : 0 < m) (hroom : c < n + m) (h63 : n + m ≤ maxLen) (hby : (n + m) * by' ≤ 140737488355328) (hB : B ≤ w.heap.size)
    (h : ∀ zs c' w', Own w' B (some ⟨w.heap.size, 0, none⟩) k (n + m) c' (xs ++ zs) → zs.length = m * k → Ext no w w' → wpList P ops Q rest (a.put o.dst (.slice (some ⟨w.heap.size, 0, none⟩) (n + m) c')) w') :
    wpList P ops Q (o :: rest) a w := by
  subst hmi
  obtain ⟨zs, c', w', hrun, h2, h3, h4⟩ := run_append_made (P := P) (ty := o.type) T hu ho hpos hroom h63 hby hB
  refine wpList_plain hgd fun K hK => ?_
  unfold Oper.wp execOp
  simp only [hop, resolve, invoke, builtin, Sem.run_bind, Sem.run_pure, Result.andThen_ok, List.map_toArray, List.map_cons, List.map_nil, hs, hx, hrun]
  exact hK _ _ (h _ _ _ h2 h3 h4)

/-- The block of an owned slice that holds something. -/
theorem Own.shapeOf {B k n c : Nat} {ad : Addr} {cs : List Value} (h : Own w B (some ad) k n c cs) (hc : 0 < c * k) : ∃ t m, w.shape? ad.block = some (t, m) ∧ m ≠ 0 := by
  obtain ⟨_, e, h1, _⟩ := h.can 0 hc
  cases e
  have hs : ad.add 0 = ad := by simp [Addr.add]
  rw [hs] at h1
  unfold World.cell? at h1
  unfold World.shape?
  cases hq : w.heap[ad.block]? with
  | none => simp [hq] at h1
  | some ob =>
    cases ob with
    | cells c e fr =>
      refine ⟨_, _, rfl, ?_⟩
      simp only [hq] at h1
      split at h1
      · simp at h1
      · intro hz
        rw [Array.getElem?_eq_none (by omega)] at h1
        simp at h1
    | _ => simp [hq] at h1
end
end Go.Esc
