/- The reference's store, and what a map has to do with it. -/
import Derived.Test.YtpljcnjkdjblmaaKvA
namespace Go.Esc
set_option linter.unusedVariables false
set_option linter.unusedSimpArgs false
structure PairR where
  key : List UInt8
  val : List UInt8
instance : DecidableEq PairR := fun a b => by
  cases a with | mk a1 a2 => cases b with | mk b1 b2 =>
    exact if h : a1 = b1 ∧ a2 = b2 then isTrue (by obtain ⟨rfl, rfl⟩ := h; rfl) else isFalse (fun e => by cases e; exact h ⟨rfl, rfl⟩)
def newRow (c : ChangeR) : List PairR := if c.del = true then [] else [⟨c.key, c.val⟩]
/-- Where a change stands, and from where on what stood stays. -/
def rowP (l : List PairR) (c : ChangeR) : Nat := posOf PairR.key Op.bytesLess c.key l
def rowQ (l : List PairR) (c : ChangeR) : Nat := match l[rowP l c]? with
  | some r => if r.key = c.key then rowP l c + 1 else rowP l c
  | none => rowP l c
def rowPut (l : List PairR) (c : ChangeR) : List PairR := l.take (rowP l c) ++ newRow c ++ l.drop (rowQ l c)
def insRow (c : ChangeR) : List PairR → List PairR
  | [] => newRow c
  | x :: l => if Op.bytesLess x.key c.key = true then x :: insRow c l else newRow c ++ (if x.key = c.key then l else x :: l)
theorem rowPut_eq (c : ChangeR) (l : List PairR) : rowPut l c = insRow c l := by
  induction l with
  | nil => unfold rowPut rowP rowQ rowP insRow; simp [posOf]
  | cons x l ih =>
    unfold insRow
    split
    · rename_i h
      rw [← ih]
      have hp : rowP (x :: l) c = rowP l c + 1 := by unfold rowP; rw [posOf_cons, if_pos h]
      have hq : rowQ (x :: l) c = rowQ l c + 1 := by
        unfold rowQ
        rw [hp, List.getElem?_cons_succ]
        split
        · split <;> rfl
        · rfl
      unfold rowPut
      rw [hp, hq, List.take_succ_cons, List.drop_succ_cons]
      rfl
    · rename_i h
      have hp : rowP (x :: l) c = 0 := by unfold rowP; rw [posOf_cons, if_neg h]
      have hq : rowQ (x :: l) c = if x.key = c.key then 1 else 0 := by
        unfold rowQ
        rw [hp, List.getElem?_cons_zero]
      unfold rowPut
      rw [hp, hq]
      split <;> simp
/-- In order, each key once. -/
def Rising (l : List PairR) : Prop := l.Pairwise (fun a b => Op.bytesLess a.key b.key = true)
theorem newRow_mem (c : ChangeR) (r : PairR) : r ∈ newRow c ↔ c.del = false ∧ r = ⟨c.key, c.val⟩ := by
  unfold newRow
  split
  · rename_i h; rw [h]; simp
  · rename_i h; rw [List.mem_singleton]; simp [Bool.eq_false_iff.2 h]
theorem insRow_mem {l : List PairR} (h : Rising l) (c : ChangeR) (r : PairR) : r ∈ insRow c l ↔ (c.del = false ∧ r = ⟨c.key, c.val⟩) ∨ (r ∈ l ∧ r.key ≠ c.key) := by
  induction l with
  | nil => unfold insRow; rw [newRow_mem]; simp
  | cons x l ih =>
    have h1 := List.pairwise_cons.1 h
    unfold insRow
    split
    · rename_i hx
      have hne : x.key ≠ c.key := fun e => by rw [e, bytesOrd.irr] at hx; cases hx
      rw [List.mem_cons, ih h1.2, List.mem_cons]
      constructor
      · rintro (rfl | a | b)
        · exact .inr ⟨.inl rfl, hne⟩
        · exact .inl a
        · exact .inr ⟨.inr b.1, b.2⟩
      · rintro (a | ⟨rfl | b, b2⟩)
        · exact .inr (.inl a)
        · exact .inl rfl
        · exact .inr (.inr ⟨b, b2⟩)
    · rename_i hx
      rw [List.mem_append, newRow_mem]
      have hx' : Op.bytesLess x.key c.key = false := by simpa using hx
      split
      · rename_i he
        constructor
        · rintro (a | b)
          · exact .inl a
          · refine .inr ⟨List.mem_cons_of_mem _ b, fun e => ?_⟩
            have := h1.1 r b
            rw [he, ← e, bytesOrd.irr] at this
            cases this
        · rintro (a | ⟨b, b2⟩)
          · exact .inl a
          · rcases List.mem_cons.1 b with rfl | b
            · exact absurd he b2
            · exact .inr b
      · rename_i he
        have hlt : Op.bytesLess c.key x.key = true := by
          cases hc : Op.bytesLess c.key x.key with
          | true => rfl
          | false => exact absurd (bytesOrd.tot hx' hc) he
        constructor
        · rintro (a | b)
          · exact .inl a
          · refine .inr ⟨b, fun e => ?_⟩
            rcases List.mem_cons.1 b with rfl | b
            · exact he e
            · have := bytesOrd.tr hlt (h1.1 r b)
              rw [e, bytesOrd.irr] at this
              cases this
        · rintro (a | b)
          · exact .inl a
          · exact .inr b.1
theorem newRow_rising (c : ChangeR) : Rising (newRow c) := by
  unfold newRow Rising
  split
  · exact List.Pairwise.nil
  · exact List.pairwise_singleton _ _
theorem insRow_rising {l : List PairR} (h : Rising l) (c : ChangeR) : Rising (insRow c l) := by
  induction l with
  | nil => exact newRow_rising c
  | cons x l ih =>
    have h1 := List.pairwise_cons.1 h
    unfold insRow
    split
    · rename_i hx
      refine List.pairwise_cons.2 ⟨?_, ih h1.2⟩
      intro r hr
      rcases (insRow_mem h1.2 c r).1 hr with ⟨_, rfl⟩ | ⟨hr, _⟩
      · exact hx
      · exact h1.1 r hr
    · rename_i hx
      have hx' : Op.bytesLess x.key c.key = false := by simpa using hx
      refine List.pairwise_append.2 ⟨newRow_rising c, ?_, ?_⟩
      · split
        · exact h1.2
        · exact h
      · intro a ha b hb
        obtain ⟨_, rfl⟩ := (newRow_mem c a).1 ha
        split at hb
        · rename_i he
          have := h1.1 b hb
          rw [he] at this
          exact this
        · rename_i he
          have hlt : Op.bytesLess c.key x.key = true := by
            cases hc : Op.bytesLess c.key x.key with
            | true => rfl
            | false => exact absurd (bytesOrd.tot hx' hc) he
          rcases List.mem_cons.1 hb with rfl | hb
          · exact hlt
          · exact bytesOrd.tr hlt (h1.1 b hb)
/-- Two rows in order that hold the same are the same. -/
theorem rising_eq {l m : List PairR} (hl : Rising l) (hm : Rising m) (h : ∀ r, r ∈ l ↔ r ∈ m) : l = m := by
  induction l generalizing m with
  | nil =>
    cases m with
    | nil => rfl
    | cons y m => exact absurd ((h y).2 (by simp)) (by simp)
  | cons x l ih =>
    cases m with
    | nil => exact absurd ((h x).1 (by simp)) (by simp)
    | cons y m =>
      have h1 := List.pairwise_cons.1 hl
      have h2 := List.pairwise_cons.1 hm
      have irr : ∀ a : PairR, ¬ Op.bytesLess a.key a.key = true := fun a e => by rw [bytesOrd.irr] at e; cases e
      have hxy : x = y := by
        rcases List.mem_cons.1 ((h x).1 (by simp)) with e | hx
        · exact e
        · rcases List.mem_cons.1 ((h y).2 (by simp)) with e | hy
          · exact e.symm
          · exact absurd (bytesOrd.tr (h1.1 y hy) (h2.1 x hx)) (irr x)
      subst hxy
      congr 1
      refine ih h1.2 h2.2 (fun r => ⟨fun hr => ?_, fun hr => ?_⟩)
      · rcases List.mem_cons.1 ((h r).1 (List.mem_cons_of_mem _ hr)) with rfl | e
        · exact absurd (h1.1 r hr) (irr r)
        · exact e
      · rcases List.mem_cons.1 ((h r).2 (List.mem_cons_of_mem _ hr)) with rfl | e
        · exact absurd (h2.1 r hr) (irr r)
        · exact e

/-- The reference's three rows. -/
structure KvX where
  r0 : List PairR
  r1 : List PairR
  r2 : List PairR
def KvX.nil : KvX := ⟨[], [], []⟩
def KvX.row (X : KvX) (c : Int) : List PairR := if c = 0 then X.r0 else if c = 1 then X.r1 else X.r2
def KvX.put (X : KvX) (c : ChangeR) : KvX := if c.coll = 0 then { X with r0 := rowPut X.r0 c } else if c.coll = 1 then { X with r1 := rowPut X.r1 c } else { X with r2 := rowPut X.r2 c }
def KvX.puts (X : KvX) (l : List ChangeR) : KvX := l.foldl KvX.put X
def KvX.len (X : KvX) : Nat := X.r0.length + X.r1.length + X.r2.length
/-- A map has what the three rows have. -/
structure Tells (m : KvM) (X : KvX) : Prop where
  once : m.once
  coll : ∀ e ∈ m, e.1.1 = 0 ∨ e.1.1 = 1 ∨ e.1.1 = 2
  rise : ∀ c : Int, c = 0 ∨ c = 1 ∨ c = 2 → Rising (X.row c)
  mem : ∀ (c : Int) (r : PairR), c = 0 ∨ c = 1 ∨ c = 2 → (r ∈ X.row c ↔ ((c, r.key), r.val) ∈ m)
theorem Tells.nil : Tells [] KvX.nil := by
  have hrow : ∀ c, KvX.nil.row c = [] := fun c => by unfold KvX.row KvX.nil; simp
  refine ⟨List.nodup_nil, (fun e h => by cases h), (fun c _ => by rw [hrow]; exact List.Pairwise.nil), (fun c r _ => by rw [hrow]; simp)⟩
theorem KvX.row_put (X : KvX) (c : ChangeR) (hc : c.coll = 0 ∨ c.coll = 1 ∨ c.coll = 2) (k : Int) (hk : k = 0 ∨ k = 1 ∨ k = 2) : (X.put c).row k = if k = c.coll then rowPut (X.row k) c else X.row k := by
  unfold KvX.put KvX.row
  rcases hc with h | h | h <;> rcases hk with rfl | rfl | rfl <;> simp [h]
theorem Tells.put {m : KvM} {X : KvX} (h : Tells m X) (c : ChangeR) (hc : c.coll = 0 ∨ c.coll = 1 ∨ c.coll = 2) : Tells (kvLay m c) (X.put c) := by
  refine ⟨h.once.lay c, ?_, ?_, ?_⟩
  · intro e he
    rcases (kvLay_mem c e).1 he with ⟨_, rfl⟩ | ⟨he, _⟩
    · exact hc
    · exact h.coll e he
  · intro k hk
    rw [X.row_put c hc k hk]
    split
    · rw [rowPut_eq]; exact insRow_rising (h.rise k hk) c
    · exact h.rise k hk
  · intro k r hk
    rw [X.row_put c hc k hk, kvLay_mem]
    split
    · rename_i he
      rw [rowPut_eq, insRow_mem (h.rise k hk), h.mem k r hk]
      subst he
      constructor
      · rintro (⟨a, rfl⟩ | ⟨a, b⟩)
        · exact .inl ⟨a, rfl⟩
        · exact .inr ⟨a, fun e => b (congrArg Prod.snd e)⟩
      · rintro (⟨a, e⟩ | ⟨a, b⟩)
        · refine .inl ⟨a, ?_⟩
          have e1 := congrArg (fun x => x.1.2) e
          have e2 := congrArg (fun x => x.2) e
          obtain ⟨rk, rv⟩ := r
          simp only [ChangeR.at] at e1 e2
          rw [e1, e2]
        · exact .inr ⟨a, fun e => b (by rw [ChangeR.at, e])⟩
    · rename_i he
      rw [h.mem k r hk]
      constructor
      · intro a
        exact .inr ⟨a, fun e => he (congrArg Prod.fst e)⟩
      · rintro (⟨_, e⟩ | ⟨a, _⟩)
        · exact absurd (congrArg (fun x => x.1.1) e) he
        · exact a
theorem Tells.puts {m : KvM} {X : KvX} (h : Tells m X) (l : List ChangeR) (hl : ∀ c ∈ l, c.coll = 0 ∨ c.coll = 1 ∨ c.coll = 2) : Tells (kvLays m l) (X.puts l) := by
  induction l generalizing m X with
  | nil => exact h
  | cons c l ih => exact ih (h.put c (hl c (by simp))) (fun d hd => hl d (List.mem_cons_of_mem _ hd))
theorem rising_nodup {l : List PairR} (h : Rising l) : l.Nodup := List.Pairwise.imp (fun {a b} hab e => by rw [e, bytesOrd.irr] at hab; cases hab) h
/-- As many. -/
theorem Tells.len {m : KvM} {X : KvX} (h : Tells m X) : m.length = X.len := by
  have hn : m.Nodup := nodup_of_map h.once
  have key : ∀ c : Int, c = 0 ∨ c = 1 ∨ c = 2 → (m.filter (fun e => decide (e.1.1 = c))).length = (X.row c).length := by
    intro c hc
    have h1 : ((X.row c).map (fun r => (((c, r.key), r.val) : PlaceR × List UInt8))).Perm (m.filter (fun e => decide (e.1.1 = c))) := by
      refine (List.perm_ext_iff_of_nodup ?_ (hn.filter _)).2 ?_
      · refine List.Pairwise.map _ ?_ (rising_nodup (h.rise c hc))
        intro a b hab e
        apply hab
        have e1 := congrArg (fun x : PlaceR × List UInt8 => x.1.2) e
        have e2 := congrArg (fun x : PlaceR × List UInt8 => x.2) e
        obtain ⟨a1, a2⟩ := a
        obtain ⟨b1, b2⟩ := b
        simp only at e1 e2
        rw [e1, e2]
      · intro e
        rw [List.mem_map, List.mem_filter]
        constructor
        · rintro ⟨r, hr, rfl⟩
          exact ⟨(h.mem c r hc).1 hr, by simp⟩
        · rintro ⟨he, hd⟩
          obtain ⟨⟨c', k⟩, v⟩ := e
          have : c' = c := by simpa using hd
          subst this
          exact ⟨⟨k, v⟩, (h.mem c' ⟨k, v⟩ hc).2 he, rfl⟩
    have := h1.length_eq
    rw [List.length_map] at this
    exact this.symm
  have k0 := key 0 (.inl rfl)
  have k1 := key 1 (.inr (.inl rfl))
  have k2 := key 2 (.inr (.inr rfl))
  have hsum : ∀ l : KvM, (∀ e ∈ l, e.1.1 = 0 ∨ e.1.1 = 1 ∨ e.1.1 = 2) → l.length = (l.filter (fun e => decide (e.1.1 = 0))).length + (l.filter (fun e => decide (e.1.1 = 1))).length + (l.filter (fun e => decide (e.1.1 = 2))).length := by
    intro l
    induction l with
    | nil => intro _; rfl
    | cons e l ih =>
      intro hl
      have := ih (fun x hx => hl x (List.mem_cons_of_mem _ hx))
      rcases hl e (by simp) with he | he | he <;> simp [List.filter_cons, he] <;> omega
  rw [hsum m h.coll, k0, k1, k2]
  rfl
/-- What a scan tells: the pairs of a collection from a key on. -/
def scanX (X : KvX) (c : Int) (start : List UInt8) : List PairR := (X.row c).filter (fun r => !Op.bytesLess r.key start)
/-- .. out of a map: its keys in order, each with its value. -/
def scanM (m : KvM) (c : Int) (ks : List (List UInt8)) : List PairR := ks.map (fun k => ⟨k, (kvGet m (c, k)).getD []⟩)
theorem scan_same {m : KvM} {X : KvX} (h : Tells m X) (c : Int) (hc : c = 0 ∨ c = 1 ∨ c = 2) (start : List UInt8) (ks : List (List UInt8))
    (hm : ∀ k, k ∈ ks ↔ (∃ v, ((c, k), v) ∈ m) ∧ Op.bytesLess k start = false) (hr : ks.Pairwise (fun a b => Op.bytesLess a b = true)) : scanM m c ks = scanX X c start := by
  refine rising_eq ?_ ((h.rise c hc).filter _) ?_
  · unfold scanM Rising
    exact List.Pairwise.map _ (fun a b hab => hab) hr
  · intro r
    unfold scanM scanX
    rw [List.mem_map, List.mem_filter, h.mem c r hc]
    constructor
    · rintro ⟨k, hk, rfl⟩
      obtain ⟨⟨v, hv⟩, hk2⟩ := (hm k).1 hk
      rw [(kvGet_some h.once).2 hv]
      exact ⟨hv, by simp [hk2]⟩
    · rintro ⟨h1, h2⟩
      refine ⟨r.key, (hm r.key).2 ⟨⟨r.val, h1⟩, by simpa using h2⟩, ?_⟩
      rw [(kvGet_some h.once).2 h1]
      rfl
end Go.Esc
