/- A store of keys, in plain terms: of no program. -/
import Derived.Test.YtpljcnjkdjblmaaCoA
namespace Go.Esc
/-- A change of a batch. -/
structure ChangeR where
  coll : Int
  key : List UInt8
  val : List UInt8
  del : Bool
/-- Where a value is. -/
abbrev PlaceR := Int × List UInt8
abbrev KvM := List (PlaceR × List UInt8)
def ChangeR.at (c : ChangeR) : PlaceR := (c.coll, c.key)
def kvHas (m : KvM) (p : PlaceR) : Bool := m.any (fun e => decide (e.1 = p))
def kvPut (m : KvM) (p : PlaceR) (v : List UInt8) : KvM := if kvHas m p = true then m.map (fun e => if e.1 = p then (p, v) else e) else m ++ [(p, v)]
def kvDel (m : KvM) (p : PlaceR) : KvM := m.filter (fun e => decide (e.1 ≠ p))
def kvLay (m : KvM) (c : ChangeR) : KvM := if c.del = true then kvDel (kvPut m c.at c.val) c.at else kvPut m c.at c.val
def kvLays (m : KvM) (l : List ChangeR) : KvM := l.foldl kvLay m
def kvGet (m : KvM) (p : PlaceR) : Option (List UInt8) := (m.find? (fun e => decide (e.1 = p))).map (·.2)
/-- Each key stands once. -/
def KvM.once (m : KvM) : Prop := (m.map (·.1)).Nodup

theorem nodup_of_map {α β : Type} {f : α → β} {l : List α} (h : (l.map f).Nodup) : l.Nodup := (List.pairwise_map.1 h).imp (fun hab e => hab (congrArg f e))
theorem kvHas_iff (m : KvM) (p : PlaceR) : kvHas m p = true ↔ ∃ v, (p, v) ∈ m := by
  unfold kvHas
  rw [List.any_eq_true]
  constructor
  · rintro ⟨⟨q, v⟩, h1, h2⟩
    have : q = p := of_decide_eq_true h2
    subst this
    exact ⟨v, h1⟩
  · rintro ⟨v, h⟩
    exact ⟨(p, v), h, by simp⟩
theorem KvM.once.val {m : KvM} (h : m.once) {p : PlaceR} {v u : List UInt8} (h1 : (p, v) ∈ m) (h2 : (p, u) ∈ m) : v = u := by
  induction m with
  | nil => cases h1
  | cons e m ih =>
    have hn : e.1 ∉ m.map (·.1) ∧ (m.map (·.1)).Nodup := List.nodup_cons.1 h
    have hne : ∀ x, (p, x) ∈ m → e.1 ≠ p := fun x hx he => hn.1 (by rw [he]; exact List.mem_map.2 ⟨(p, x), hx, rfl⟩)
    rcases List.mem_cons.1 h1 with a | a <;> rcases List.mem_cons.1 h2 with b | b
    · rw [← a] at b; exact (congrArg Prod.snd b).symm
    · exact absurd (by rw [← a]) (hne u b)
    · exact absurd (by rw [← b]) (hne v a)
    · exact ih hn.2 a b
theorem kvPut_mem {m : KvM} (p : PlaceR) (v : List UInt8) (e : PlaceR × List UInt8) : e ∈ kvPut m p v ↔ e = (p, v) ∨ (e ∈ m ∧ e.1 ≠ p) := by
  unfold kvPut
  split
  · rename_i hh
    obtain ⟨u, hu⟩ := (kvHas_iff m p).1 hh
    rw [List.mem_map]
    constructor
    · rintro ⟨x, hx, rfl⟩
      by_cases hxp : x.1 = p
      · rw [if_pos hxp]; exact .inl rfl
      · rw [if_neg hxp]; exact .inr ⟨hx, hxp⟩
    · rintro (rfl | ⟨h1, h2⟩)
      · exact ⟨(p, u), hu, by simp⟩
      · exact ⟨e, h1, by rw [if_neg h2]⟩
  · rename_i hh
    rw [List.mem_append, List.mem_singleton]
    constructor
    · rintro (h | rfl)
      · refine .inr ⟨h, fun he => hh ((kvHas_iff m p).2 ⟨e.2, by rw [← he]; exact h⟩)⟩
      · exact .inl rfl
    · rintro (rfl | h)
      · exact .inr rfl
      · exact .inl h.1
theorem kvPut_keys (m : KvM) (p : PlaceR) (v : List UInt8) : (kvPut m p v).map (·.1) = if kvHas m p = true then m.map (·.1) else m.map (·.1) ++ [p] := by
  unfold kvPut
  split
  · rw [List.map_map]
    apply List.map_congr_left
    intro e _
    simp only [Function.comp_apply]
    split
    · rename_i h; exact h.symm
    · rfl
  · rw [List.map_append]; rfl
theorem KvM.once.put {m : KvM} (h : m.once) (p : PlaceR) (v : List UInt8) : (kvPut m p v).once := by
  unfold KvM.once
  rw [kvPut_keys]
  split
  · exact h
  · rename_i hh
    rw [List.nodup_append]
    refine ⟨h, by simp, ?_⟩
    intro a ha b hb
    rw [List.mem_singleton] at hb
    subst hb
    rintro rfl
    obtain ⟨e, he, rfl⟩ := List.mem_map.1 ha
    exact hh ((kvHas_iff m _).2 ⟨e.2, he⟩)
theorem kvDel_mem {m : KvM} (p : PlaceR) (e : PlaceR × List UInt8) : e ∈ kvDel m p ↔ e ∈ m ∧ e.1 ≠ p := by
  unfold kvDel
  rw [List.mem_filter]
  simp
theorem KvM.once.del {m : KvM} (h : m.once) (p : PlaceR) : (kvDel m p).once := by
  unfold KvM.once kvDel
  exact (List.Sublist.map _ (List.filter_sublist)).nodup h
theorem kvLay_mem {m : KvM} (c : ChangeR) (e : PlaceR × List UInt8) : e ∈ kvLay m c ↔ (c.del = false ∧ e = (c.at, c.val)) ∨ (e ∈ m ∧ e.1 ≠ c.at) := by
  unfold kvLay
  split
  · rename_i hd
    rw [kvDel_mem, kvPut_mem, hd]
    constructor
    · rintro ⟨rfl | h, h2⟩
      · exact absurd rfl h2
      · exact .inr h
    · rintro (h | h)
      · cases h.1
      · exact ⟨.inr h, h.2⟩
  · rename_i hd
    have hd' : c.del = false := by simpa using hd
    rw [kvPut_mem, hd']
    simp
theorem KvM.once.lay {m : KvM} (h : m.once) (c : ChangeR) : (kvLay m c).once := by
  unfold kvLay
  split
  · exact (h.put _ _).del _
  · exact h.put _ _
theorem KvM.once.lays {m : KvM} (h : m.once) (l : List ChangeR) : (kvLays m l).once := by
  induction l generalizing m with
  | nil => exact h
  | cons c l ih => exact ih (h.lay c)
theorem kvLays_append (m : KvM) (l k : List ChangeR) : kvLays m (l ++ k) = kvLays (kvLays m l) k := List.foldl_append ..
theorem kvPut_len (m : KvM) (p : PlaceR) (v : List UInt8) : (kvPut m p v).length ≤ m.length + 1 := by
  unfold kvPut
  split
  · rw [List.length_map]; omega
  · rw [List.length_append]; simp
theorem kvLay_len (m : KvM) (c : ChangeR) : (kvLay m c).length ≤ m.length + 1 := by
  have h := kvPut_len m c.at c.val
  unfold kvLay
  split
  · exact Nat.le_trans (List.length_filter_le _ _) h
  · exact h
theorem kvLays_len (l : List ChangeR) : ∀ m : KvM, (kvLays m l).length ≤ m.length + l.length := by
  induction l with
  | nil => intro m; exact Nat.le_refl _
  | cons c l ih =>
    intro m
    have h1 := ih (kvLay m c)
    have h2 := kvLay_len m c
    show (kvLays (kvLay m c) l).length ≤ _
    rw [List.length_cons]
    omega
theorem kvGet_some {m : KvM} (h : m.once) {p : PlaceR} {v : List UInt8} : kvGet m p = some v ↔ (p, v) ∈ m := by
  unfold kvGet
  constructor
  · intro hg
    rw [Option.map_eq_some_iff] at hg
    obtain ⟨⟨q, u⟩, h1, h2⟩ := hg
    have := List.find?_some h1
    have hq : q = p := by simpa using this
    subst hq
    simp only at h2
    subst h2
    exact List.mem_of_find?_eq_some h1
  · intro hm
    cases hf : m.find? (fun e => decide (e.1 = p)) with
    | none =>
      rw [List.find?_eq_none] at hf
      exact absurd (hf (p, v) hm) (by simp)
    | some e =>
      have h1 := List.find?_some hf
      have hq : e.1 = p := by simpa using h1
      have hme := List.mem_of_find?_eq_some hf
      obtain ⟨q, u⟩ := e
      simp only at hq
      subst hq
      rw [Option.map_some, h.val hme hm]
theorem kvGet_none {m : KvM} {p : PlaceR} : kvGet m p = none ↔ kvHas m p = false := by
  unfold kvGet kvHas
  rw [Option.map_eq_none_iff, List.find?_eq_none]
  constructor
  · intro h
    rw [Bool.eq_false_iff]
    intro ha
    rw [List.any_eq_true] at ha
    obtain ⟨e, he, hd⟩ := ha
    exact h e he hd
  · intro h e he hd
    rw [Bool.eq_false_iff] at h
    exact h (List.any_eq_true.2 ⟨e, he, hd⟩)
end Go.Esc
