/- The texts Base PlainA OpA OpF Mk Row CoA KvA KvB Sl DkA DkB in one. -/
import Derived.WalkKit
import Derived.WalkSpells
import Derived.WalkLawsBesides
import Derived.Lib.Hide
import Derived.Laws.MakeOwn
import Derived.Laws.IdiomCopy
import Derived.Test.YtpljcnjkdjblmaaRows
import Derived.Deep.DeepCutAuto
import Derived.BigQuiet
/- Words for worlds, slices that are read, slices that a call owns; laws for the walk: of no program. -/
namespace Go.Esc
open Go.RowKit

/-- Nothing that was there has turned, but in the blocks of S. -/
structure Ext (S : Nat → Prop) (w w' : World) : Prop where
  os : w'.os = w.os
  tape : w'.tape = w.tape
  output : w'.output = w.output
  size : w.heap.size ≤ w'.heap.size
  block : ∀ k, k < w.heap.size → ¬ S k → w'.heap[k]? = w.heap[k]?

def no : Nat → Prop := fun _ => False
def just (g : Nat) : Nat → Prop := fun k => k = g
def upfrom (B : Nat) : Nat → Prop := fun k => B ≤ k
def blk (a : Option Addr) : Nat → Prop := fun k => ∃ ad, a = some ad ∧ ad.block = k

variable {S S' : Nat → Prop} {w w' w'' : World}

theorem Ext.refl (S : Nat → Prop) (w : World) : Ext S w w := ⟨rfl, rfl, rfl, Nat.le_refl _, fun _ _ _ => rfl⟩

theorem Ext.trans (h : Ext S w w') (h' : Ext S' w' w'') (hs : ∀ k, k < w.heap.size → S' k → S k) : Ext S w w'' :=
  ⟨h'.os.trans h.os, h'.tape.trans h.tape, h'.output.trans h.output, Nat.le_trans h.size h'.size, fun k hk hn =>
    (h'.block k (Nat.lt_of_lt_of_le hk h.size) (fun hh => hn (hs k hk hh))).trans (h.block k hk hn)⟩

theorem Ext.mono (h : Ext S w w') (hs : ∀ k, k < w.heap.size → S k → S' k) : Ext S' w w' :=
  ⟨h.os, h.tape, h.output, h.size, fun k hk hn => h.block k hk (fun hh => hn (hs k hk hh))⟩

theorem Ext.comp (h : Ext S w w') (h' : Ext S w' w'') : Ext S w w'' := h.trans h' (fun _ _ h => h)

theorem Ext.drew (S : Nat → Prop) (w : World) : Ext S w w.drew := ⟨rfl, rfl, rfl, Nat.le_refl _, fun _ _ _ => rfl⟩

theorem Ext.alloc (S : Nat → Prop) (w : World) (o : Obj) : Ext S w (w.alloc o) :=
  ⟨rfl, rfl, rfl, by simp, fun k hk _ => Below.heap_alloc _ _ _ hk⟩

theorem Ext.setCell (w : World) (a : Addr) (v : Value) (hs : S a.block) : Ext S w (w.setCell a v) :=
  ⟨rfl, rfl, rfl, by simp, fun k _ hn => Below.heap_setCell _ _ _ _ (fun h => hn (h ▸ hs))⟩

theorem Ext.below {B : Nat} (h : Ext S w w') (hB : B ≤ w.heap.size) (hs : ∀ k, k < B → ¬ S k) : Below B w w' :=
  ⟨h.os, h.tape, h.output, h.size, fun k hk => h.block k (Nat.lt_of_lt_of_le hk hB) (hs k hk)⟩

theorem Ext.belowAll (h : Ext no w w') : Below w.heap.size w w' := h.below (Nat.le_refl _) (fun _ _ h => h)

theorem Ext.cell (h : Ext S w w') {p : Addr} (hp : p.block < w.heap.size) (hn : ¬ S p.block) : w'.cell? p = w.cell? p :=
  World.cell?_of_block (w := w) (h.block p.block hp hn)

theorem Ext.frozen (h : Ext S w w') {p : Addr} (hp : p.block < w.heap.size) (hn : ¬ S p.block) : w'.frozen? p = w.frozen? p :=
  World.frozen?_of_block (w := w) (h.block p.block hp hn)

/-- A cell that was there is there still. -/
theorem Ext.keeps (h : Ext S w w') {p : Addr} {v : Value} (hc : w.cell? p = some v) (hn : ¬ S p.block) : w'.cell? p = some v :=
  (h.cell (World.block_lt_of_cell? w p hc) hn).trans hc

theorem add_block (a : Addr) (n : Nat) : (a.add n).block = a.block := by unfold Addr.add; split <;> rfl

/-! ### slices that are read -/

/-- The cells from a on are cs. -/
def Rd (w : World) (a : Option Addr) (cs : List Value) : Prop := ∀ j v, cs[j]? = some v → ∃ ad, a = some ad ∧ w.cell? (ad.add j) = some v

theorem Rd.nil (w : World) (a : Option Addr) : Rd w a [] := fun j v h => by simp at h

theorem Rd.ext {a : Option Addr} {cs : List Value} (h : Rd w a cs) (hx : Ext S w w') (hn : ∀ ad, a = some ad → ¬ S ad.block) : Rd w' a cs := by
  intro j v hj
  obtain ⟨ad, ha, hc⟩ := h j v hj
  exact ⟨ad, ha, hx.keeps hc (by rw [add_block]; exact hn ad ha)⟩

theorem Rd.take {a : Option Addr} {cs : List Value} (h : Rd w a cs) (k : Nat) : Rd w a (cs.take k) := by
  intro j v hj
  rw [List.getElem?_take] at hj
  split at hj
  · exact h j v hj
  · cases hj

theorem Rd.drop {a : Option Addr} {cs : List Value} (h : Rd w a cs) (k : Nat) : Rd w (a.map (·.add k)) (cs.drop k) := by
  intro j v hj
  rw [List.getElem?_drop] at hj
  obtain ⟨ad, ha, hc⟩ := h (k + j) v hj
  exact ⟨ad.add k, by simp [ha], by rw [Addr.add_add]; exact hc⟩

/-- Behind a cut 'x[l:]' of elements of s cells: the address as the walk writes it. -/
theorem Rd.cut {a : Option Addr} {cs : List Value} (h : Rd w a cs) (m l s : Nat) (hm : m = l → cs.length ≤ l * s) :
    Rd w (if m = l then a else a.map (·.add (l * s))) (cs.drop (l * s)) := by
  split
  · rename_i e
    rw [List.drop_eq_nil_of_le (hm e)]
    exact Rd.nil _ _
  · exact h.drop _

theorem Rd.ne {a : Option Addr} {cs : List Value} (h : Rd w a cs) (hl : 0 < cs.length) : ∃ ad, a = some ad ∧ ad.block < w.heap.size := by
  obtain ⟨ad, ha, hc⟩ := h 0 cs[0] (by simp [hl])
  have := World.block_lt_of_cell? w _ hc
  rw [add_block] at this
  exact ⟨ad, ha, this⟩

theorem Rd.cell {ad : Addr} {cs : List Value} (h : Rd w (some ad) cs) (j : Nat) (hj : j < cs.length) : w.cell? (ad.add j) = some cs[j] := by
  obtain ⟨ad', ha, hc⟩ := h j cs[j] (by simp [hj])
  cases ha
  exact hc

/-- The address written out. -/
theorem Rd.shape {a : Option Addr} {cs : List Value} (h : Rd w a cs) (hl : 0 < cs.length) : ∃ b off, a = some ⟨b, off, none⟩ ∧ b < w.heap.size := by
  obtain ⟨ad, ha, hc⟩ := h 0 cs[0] (by simp [hl])
  have hb := World.block_lt_of_cell? w _ hc
  obtain ⟨b, off, sp⟩ := ad
  rw [Addr.add_zero'] at hc hb
  cases sp with
  | none => exact ⟨b, off, ha, hb⟩
  | some s =>
    simp only [World.cell?] at hc
    cases hh : w.heap[b]? with
    | none => simp [hh] at hc
    | some ob => cases ob <;> simp_all
theorem Rd.lookup {b off : Nat} {cs : List Value} (h : Rd w (some ⟨b, off, none⟩) cs) (j : Nat) (hj : j < cs.length) : w.cell? ⟨b, off + j, none⟩ = some cs[j] := by
  have := h.cell j hj
  rwa [Addr.add_lit] at this

theorem Rd.get {ad : Addr} {cs : List Value} (h : Rd w (some ad) cs) {j : Nat} {v : Value} (hj : cs[j]? = some v) : w.cell? (ad.add j) = some v := by
  obtain ⟨ad', ha, hc⟩ := h j v hj
  cases ha
  exact hc

/-! ### numbers and bytes as cells -/

/-- A byte: a name that simp leaves alone. -/
def b8 (n : Nat) : UInt8 := UInt8.ofNat n
def B8 (b : UInt8) : Value := .int .u8 b.toNat
theorem b8_toNat (n : Nat) (h : n < 256) : (b8 n).toNat = n := UInt8.toNat_ofNat_of_lt' (by simpa using h)
theorem B8_b8 (n : Nat) (h : n < 256) : B8 (b8 n) = .int .u8 n := by unfold B8; rw [b8_toNat n h]
def I64 (n : Int) : Value := .int .i64 n
/-- Bytes as cells. -/
def bs (l : List UInt8) : List Value := l.map B8
def is (l : List Int) : List Value := l.map I64

@[simp] theorem bs_length (l : List UInt8) : (bs l).length = l.length := by simp [bs]
@[simp] theorem is_length (l : List Int) : (is l).length = l.length := by simp [is]
theorem bs_append (l m : List UInt8) : bs (l ++ m) = bs l ++ bs m := by simp [bs]
theorem is_append (l m : List Int) : is (l ++ m) = is l ++ is m := by simp [is]
theorem bs_take (l : List UInt8) (k : Nat) : (bs l).take k = bs (l.take k) := by simp [bs, List.map_take]
theorem bs_drop (l : List UInt8) (k : Nat) : (bs l).drop k = bs (l.drop k) := by simp [bs, List.map_drop]
theorem bs_reverse (l : List UInt8) : (bs l).reverse = bs l.reverse := by simp [bs]
theorem bs_int (l : List UInt8) : ∀ u ∈ bs l, ∃ q, u = .int .u8 q := by
  intro u hu
  simp only [bs, List.mem_map] at hu
  obtain ⟨b, _, rfl⟩ := hu
  exact ⟨_, rfl⟩
theorem bs_one (l : List UInt8) : ∀ u ∈ bs l, u.oneCell' = true := by
  intro u hu
  simp only [bs, List.mem_map] at hu
  obtain ⟨b, _, rfl⟩ := hu
  rfl
theorem is_one (l : List Int) : ∀ u ∈ is l, u.oneCell' = true := by
  intro u hu
  simp only [is, List.mem_map] at hu
  obtain ⟨b, _, rfl⟩ := hu
  rfl

theorem lt_size_of_cell {p : Addr} (h : (w.cell? p).isSome = true) : p.block < w.heap.size := by
  obtain ⟨v, hv⟩ := Option.isSome_iff_exists.1 h
  exact World.block_lt_of_cell? w p hv

theorem heap_setCells (b : Nat) : ∀ (vs : List Value) (o : Nat) (w : World) (k : Nat), k ≠ b → (w.setCells b o vs).heap[k]? = w.heap[k]? := by
  intro vs
  induction vs with
  | nil => intro o w k _; rfl
  | cons v vs ih => intro o w k hk; simp only [World.setCells]; rw [ih _ _ _ hk]; exact Below.heap_setCell _ _ _ _ hk

theorem setCells_same (b : Nat) : ∀ (vs : List Value) (o : Nat) (w : World), (w.setCells b o vs).os = w.os ∧ (w.setCells b o vs).tape = w.tape ∧ (w.setCells b o vs).output = w.output ∧ (w.setCells b o vs).heap.size = w.heap.size := by
  intro vs
  induction vs with
  | nil => intro o w; exact ⟨rfl, rfl, rfl, rfl⟩
  | cons v vs ih => intro o w; simp only [World.setCells]; obtain ⟨h1, h2, h3, h4⟩ := ih (o + 1) (w.setCell ⟨b, o, none⟩ v); exact ⟨h1, h2, h3, by rw [h4]; simp⟩

theorem Ext.setCells (b o : Nat) (vs : List Value) (w : World) (hs : S b) : Ext S w (w.setCells b o vs) := by
  obtain ⟨h1, h2, h3, h4⟩ := setCells_same b vs o w
  exact ⟨h1, h2, h3, by omega, fun k _ hn => heap_setCells b vs o w k (fun h => hn (h ▸ hs))⟩

theorem isSome_setCells (b : Nat) : ∀ (vs : List Value) (o : Nat) (w : World) (x : Addr), ((w.setCells b o vs).cell? x).isSome = (w.cell? x).isSome := by
  intro vs
  induction vs with
  | nil => intro o w x; rfl
  | cons v vs ih =>
    intro o w x
    simp only [World.setCells]
    rw [ih]
    by_cases h : (⟨b, o, none⟩ : Addr) = x
    · subst h
      cases hc : w.cell? ⟨b, o, none⟩ with
      | some u => rw [World.cell?_setCell_same _ _ _ hc]; rfl
      | none =>
        cases hc' : (w.setCell ⟨b, o, none⟩ v).cell? ⟨b, o, none⟩ with
        | none => rfl
        | some u =>
          exfalso
          unfold World.cell? World.setCell at *
          simp only [Array.getElem?_modify, if_true] at hc'
          cases hh : w.heap[b]? with
          | none => simp [hh] at hc'
          | some ob =>
            cases ob <;> simp_all
    · rw [World.cell?_setCell_other _ _ _ _ h]

/-! ### slices that the call owns -/

/-- The slice of n elements (k cells each), capacity c, at a: its elements' cells are cs, all its cells may be written; it lies from block B on. -/
structure Own (w : World) (B : Nat) (a : Option Addr) (k n c : Nat) (cs : List Value) : Prop where
  rd : Rd w a cs
  len : cs.length = n * k
  nc : n ≤ c
  cm : c ≤ maxLen
  can : ∀ j, j < c * k → ∃ ad, a = some ad ∧ (w.cell? (ad.add j)).isSome = true ∧ w.frozen? (ad.add j) = false
  base : ∀ ad, a = some ad → B ≤ ad.block ∧ ad.block < w.heap.size ∧ ad.spot = none

theorem Own.nil (w : World) (B k : Nat) : Own w B none k 0 0 [] :=
  ⟨Rd.nil _ _, by simp, Nat.le_refl _, Nat.zero_le _, fun j h => by simp at h, fun ad h => by cases h⟩

theorem Own.ext {B k n c : Nat} {a : Option Addr} {cs : List Value} (h : Own w B a k n c cs) (hx : Ext S w w') (hn : ∀ ad, a = some ad → ¬ S ad.block) : Own w' B a k n c cs :=
  ⟨h.rd.ext hx hn, h.len, h.nc, h.cm, fun j hj => by
    obtain ⟨ad, ha, h1, h2⟩ := h.can j hj
    have hb := h.base ad ha
    have hp : (ad.add j).block < w.heap.size := by rw [add_block]; exact hb.2.1
    have hn' : ¬ S (ad.add j).block := by rw [add_block]; exact hn ad ha
    exact ⟨ad, ha, by rw [hx.cell hp hn']; exact h1, by rw [hx.frozen hp hn']; exact h2⟩,
   fun ad ha => ⟨(h.base ad ha).1, Nat.lt_of_lt_of_le (h.base ad ha).2.1 hx.size, (h.base ad ha).2.2⟩⟩

theorem Own.mono {B B' k n c : Nat} {a : Option Addr} {cs : List Value} (h : Own w B a k n c cs) (hB : B' ≤ B) : Own w B' a k n c cs :=
  ⟨h.rd, h.len, h.nc, h.cm, h.can, fun ad ha => ⟨Nat.le_trans hB (h.base ad ha).1, (h.base ad ha).2⟩⟩

theorem Own.drew {B k n c : Nat} {a : Option Addr} {cs : List Value} (h : Own w B a k n c cs) : Own w.drew B a k n c cs := h.ext (Ext.drew no w) (fun _ _ h => h)
theorem Own.alloc {B k n c : Nat} {a : Option Addr} {cs : List Value} (h : Own w B a k n c cs) (o : Obj) : Own (w.alloc o) B a k n c cs := h.ext (Ext.alloc no w o) (fun _ _ h => h)
theorem Rd.drew {a : Option Addr} {cs : List Value} (h : Rd w a cs) : Rd w.drew a cs := h.ext (Ext.drew no w) (fun _ _ h => h)
theorem Rd.alloc {a : Option Addr} {cs : List Value} (h : Rd w a cs) (o : Obj) : Rd (w.alloc o) a cs := h.ext (Ext.alloc no w o) (fun _ _ h => h)
theorem Own.notBlk {B k n c i : Nat} {a : Option Addr} {cs : List Value} (h : Own w B a k n c cs) (hi : i < B) : ¬ blk a i := by
  rintro ⟨ad, ha, hb⟩
  have := (h.base ad ha).1
  omega
/-- What was written lay in a slice that the call owns. -/
theorem Own.below {B k n c : Nat} {a : Option Addr} {cs : List Value} (h : Own w B a k n c cs) (hx : Ext (blk a) w w') (hB : B ≤ w.heap.size) : Below B w w' := hx.below hB (fun _ hk => h.notBlk hk)
theorem Ext.ofBelow {B : Nat} (h : Below B w w') (hB : w.heap.size ≤ B) : Ext no w w' := ⟨h.os, h.tape, h.output, h.size, fun k hk _ => h.block k (Nat.lt_of_lt_of_le hk hB)⟩

/-- A new block is owned whole. -/
theorem Own.fresh (w : World) (B k n c : Nat) (cs : List Value) (e : TypeId) (fr : Nat × Nat) (cells : Array Value) (hB : B ≤ w.heap.size) (hl : cs.length = n * k) (hnc : n ≤ c) (hcm : c ≤ maxLen)
    (hsz : cells.size = c * k) (hcs : cells.toList.take (n * k) = cs) (hfr : fr.2 ≤ fr.1 ∨ cells.size ≤ fr.1) : Own (w.alloc (.cells cells e fr)) B (some ⟨w.heap.size, 0, none⟩) k n c cs := by
  have hnew : (w.alloc (.cells cells e fr)).heap[w.heap.size]? = some (.cells cells e fr) := heap_alloc_new w _
  have hcell : ∀ j, (w.alloc (.cells cells e fr)).cell? ⟨w.heap.size, j, none⟩ = cells[j]? := fun j => by
    simp only [World.cell?, hnew]; simp
  refine ⟨?_, hl, hnc, hcm, ?_, ?_⟩
  · intro j v hj
    refine ⟨_, rfl, ?_⟩
    rw [Addr.add_lit, hcell, Nat.zero_add]
    rw [← hcs, List.getElem?_take] at hj
    split at hj
    · simpa using hj
    · cases hj
  · intro j hj
    refine ⟨_, rfl, ?_, ?_⟩
    · rw [Addr.add_lit, hcell, Nat.zero_add]; simp [hsz, hj]
    · simp only [Addr.add_lit, World.frozen?, hnew, Nat.zero_add]
      rw [hsz] at hfr
      simp only [Bool.and_eq_false_iff, decide_eq_false_iff_not]
      omega
  · intro ad h
    cases h
    exact ⟨hB, by simp, rfl⟩

theorem Rd.one (w : World) (v : Value) (e : TypeId) (fr : Nat × Nat) : Rd (w.alloc (.cells #[v] e fr)) (some ⟨w.heap.size, 0, none⟩) [v] := by
  intro j u hj
  match j, hj with
  | 0, hj =>
    simp at hj
    subst hj
    refine ⟨_, rfl, ?_⟩
    have hnew : (w.alloc (.cells #[v] e fr)).heap[w.heap.size]? = some (.cells #[v] e fr) := heap_alloc_new w _
    simp only [World.cell?, Addr.add, if_true, hnew]
    simp
  | j + 1, hj => simp at hj

theorem Rd.lit (w : World) (cs : Array Value) (e : TypeId) (fr : Nat × Nat) : Rd (w.alloc (.cells cs e fr)) (some ⟨w.heap.size, 0, none⟩) cs.toList := by
  intro j u hj
  refine ⟨_, rfl, ?_⟩
  have hnew : (w.alloc (.cells cs e fr)).heap[w.heap.size]? = some (.cells cs e fr) := heap_alloc_new w _
  rw [Addr.add_lit, Nat.zero_add, cell_of_row _ _ _ _ _ _ hnew]
  simpa using hj

/-- A store into an owned slice. -/
theorem Own.set {B k n c : Nat} {ad : Addr} {cs : List Value} (h : Own w B (some ad) k n c cs) (j : Nat) (hj : j < n * k) (v : Value) :
    Own (w.setCell (ad.add j) v) B (some ad) k n c (cs.set j v) := by
  have hne : ∀ i, i ≠ j → ad.add j ≠ ad.add i := by
    intro i hi he
    obtain ⟨_, _, hs⟩ := h.base ad rfl
    obtain ⟨b, o, s⟩ := ad
    simp only at hs
    subst hs
    rw [Addr.add_lit, Addr.add_lit] at he
    simp only [Addr.mk.injEq] at he
    omega
  have hsome : ∀ p : Addr, ((w.setCell (ad.add j) v).cell? p).isSome = (w.cell? p).isSome := by
    intro p
    obtain ⟨_, _, hs⟩ := h.base ad rfl
    obtain ⟨b, o, s⟩ := ad
    simp only at hs
    subst hs
    rw [Addr.add_lit]
    exact isSome_setCells b [v] (o + j) w p
  have hfz : ∀ p : Addr, (w.setCell (ad.add j) v).frozen? p = w.frozen? p := by
    intro p
    obtain ⟨_, _, hs⟩ := h.base ad rfl
    obtain ⟨b, o, s⟩ := ad
    simp only at hs
    subst hs
    rw [Addr.add_lit]
    exact World.frozen?_setCells b [v] (o + j) w p
  refine ⟨?_, by simpa using h.len, h.nc, h.cm, ?_, ?_⟩
  · intro i u hi
    refine ⟨ad, rfl, ?_⟩
    have hjl : j < cs.length := by rw [h.len]; exact hj
    by_cases hij : i = j
    · subst hij
      rw [List.getElem?_set_self hjl] at hi
      cases hi
      exact World.cell?_setCell_same _ _ _ (h.rd.cell i hjl)
    · rw [List.getElem?_set_ne (Ne.symm hij)] at hi
      rw [World.cell?_setCell_other _ _ _ _ (hne i hij)]
      exact h.rd.get hi
  · intro i hi
    obtain ⟨ad', ha, h1, h2⟩ := h.can i hi
    exact ⟨ad', ha, by rw [hsome]; exact h1, by rw [hfz]; exact h2⟩
  · intro ad' ha
    obtain ⟨h1, h2, h3⟩ := h.base ad' ha
    exact ⟨h1, by simpa using h2, h3⟩

/-- What the type table says of a slice type t, its elements e: zero value z, k cells, by bytes. -/
structure SlT (P : Program) (t e : TypeId) (z : Value) (k by' : Nat) : Prop where
  und : P.underlying t = some (.slice e)
  info : (P.info? e).map (fun i => (i.zero, i.size, i.bytes)) = some (some z, k, by')
  zk : z.cells.size = k
  k0 : 0 < k

theorem Own.front {B k n c : Nat} {a : Option Addr} {cs : List Value} (h : Own w B a k n c cs) (n' : Nat) (hn : n' ≤ n) : Own w B a k n' c (cs.take (n' * k)) :=
  ⟨h.rd.take _, by rw [List.length_take, h.len, Nat.min_eq_left (Nat.mul_le_mul_right _ hn)], Nat.le_trans hn h.nc, h.cm, h.can, h.base⟩

/-- What appending onto an owned slice (at a, of n elements xs) leaves: a slice at a' with zs (m elements) behind; the old one as it was; nothing else written. -/
structure App (w w' : World) (B k : Nat) (a : Option Addr) (n c : Nat) (xs : List Value) (a' : Option Addr) (c' m : Nat) (zs : List Value) : Prop where
  own : Own w' B a' k (n + m) c' (xs ++ zs)
  old : Own w' B a k n c xs
  ext : Ext (blk a) w w'
  loc : (a' = a ∧ c' = c) ∨ ∀ ad, a' = some ad → w.heap.size ≤ ad.block

theorem App.start {B k n c : Nat} {a : Option Addr} {xs : List Value} (h : Own w B a k n c xs) : App w w B k a n c xs a c 0 [] :=
  ⟨by simpa using h, h, Ext.refl _ _, .inl ⟨rfl, rfl⟩⟩

theorem App.trans {B k n c : Nat} {a : Option Addr} {xs : List Value} {a' : Option Addr} {c' m : Nat} {zs : List Value} {a'' : Option Addr} {c'' q : Nat} {ys : List Value}
    (h : App w w' B k a n c xs a' c' m zs) (g : App w' w'' B k a' (n + m) c' (xs ++ zs) a'' c'' q ys) (hb : ∀ ad, a = some ad → ad.block < w.heap.size) : App w w'' B k a n c xs a'' c'' (m + q) (zs ++ ys) := by
  refine ⟨by rw [← Nat.add_assoc, ← List.append_assoc]; exact g.own, ?_, ?_, ?_⟩
  · rcases h.loc with ⟨rfl, rfl⟩ | hl
    · have := g.old.front n (by omega)
      rwa [← h.old.len, List.take_left' rfl] at this
    · refine h.old.ext g.ext ?_
      rintro ad ha ⟨ad', ha', he⟩
      have := hl ad' ha'
      have := hb ad ha
      omega
  · refine h.ext.trans g.ext ?_
    rintro i hi ⟨ad', ha', he⟩
    rcases h.loc with ⟨rfl, rfl⟩ | hl
    · exact ⟨ad', ha', he⟩
    · have := hl ad' ha'
      omega
  · have hs := h.ext.size
    rcases g.loc with ⟨rfl, rfl⟩ | gl
    · exact h.loc
    · exact .inr fun ad ha => Nat.le_trans hs (gl ad ha)

/-- The same, what was appended said otherwise. -/
theorem App.cast {B k n c : Nat} {a : Option Addr} {xs : List Value} {a' : Option Addr} {c' m m' : Nat} {zs zs' : List Value} (h : App w w' B k a n c xs a' c' m zs) (hm : m = m') (hz : zs = zs') : App w w' B k a n c xs a' c' m' zs' := hm ▸ hz ▸ h

/-- Behind other writes. -/
theorem App.later {B k n c : Nat} {a : Option Addr} {xs : List Value} {a' : Option Addr} {c' m : Nat} {zs : List Value} (h : App w w' B k a n c xs a' c' m zs) (hx : Ext no w' w'') : App w w'' B k a n c xs a' c' m zs :=
  ⟨h.own.ext hx (fun _ _ h => h), h.old.ext hx (fun _ _ h => h), h.ext.trans hx (fun _ _ h => h.elim), h.loc⟩
theorem App.pre {B k n c : Nat} {a : Option Addr} {xs : List Value} {a' : Option Addr} {c' m : Nat} {zs : List Value} (hx : Ext no w w') (h : App w' w'' B k a n c xs a' c' m zs) : App w w'' B k a n c xs a' c' m zs :=
  ⟨h.own, h.old, (hx.mono (fun _ _ h => h.elim)).comp h.ext, h.loc.imp id fun l ad ha => Nat.le_trans hx.size (l ad ha)⟩

section append
variable {P : Program}

theorem firstCells_nothing (x : Option Addr) (m c k : Nat) (hm : m * k = 0) (w : World) : (Builtin.firstCells k m (.slice x m c)).run P w = .ok #[] w := by
  cases x with
  | none => simp [Builtin.firstCells]
  | some ad => simp [Builtin.firstCells, hm, loadCells, loadCellsFrom]

/-- append onto an owned slice, of whatever source: both arms; the old slice stands as it was. -/
theorem run_append_src {t u ty e : TypeId} {z : Value} {k by' : Nat} (T : SlT P t e z k by') {d : TypeDesc} (hu : P.underlying u = some d) (hd : d = .string ∨ ∃ e', d = .slice e')
    {B n c : Nat} {sa : Option Addr} {xs : List Value} (ho : Own w B sa k n c xs)
    {x : Value} {m : Nat} {ys : List Value} (hlx : ∀ w, (Builtin.lenOf x).run P w = .ok m w) (hf : (Builtin.firstCells k m x).run P w = .ok ys.toArray w) (hf' : (Builtin.firstCells k m x).run P w.drew = .ok ys.toArray w.drew)
    (hl : ys.length = m * k) (h1 : ∀ u ∈ ys, u.oneCell' = true) (h63 : n + m ≤ maxLen) (hby : (n + m) * by' ≤ 140737488355328) (hB : B ≤ w.heap.size) :
    ∃ sa' c' w', (Builtin.append_ #[t, u] ty #[.slice sa n c, x]).run P w = .ok (.slice sa' (n + m) c') w' ∧ App w w' B k sa n c xs sa' c' m ys := by
  obtain ⟨i, hi, hz, hk, hb⟩ := info_parts T.info
  have hund := T.und
  have hm63 : n + m ≤ 9223372036854775807 := h63
  have hlen : (xs ++ ys).length = (n + m) * k := by rw [List.length_append, ho.len, hl, Nat.add_mul]
  have hk0 := T.k0
  have fresh : ∀ (cap old : Nat) (R : Nat → Prop), n + m ≤ cap → cap ≤ maxLen →
      Own (w.drew.alloc (.cells (xs.toArray ++ ys.toArray ++ Builtin.zeroCells z.cells (cap - (n + m))) e)) B (some ⟨w.heap.size, 0, none⟩) k (n + m) cap (xs ++ ys) ∧
      Own (w.drew.alloc (.cells (xs.toArray ++ ys.toArray ++ Builtin.zeroCells z.cells (cap - (n + m))) e)) B sa k n c xs ∧
      Ext R w (w.drew.alloc (.cells (xs.toArray ++ ys.toArray ++ Builtin.zeroCells z.cells (cap - (n + m))) e)) := by
    intro cap old R hcap hcm
    have hx : ∀ R : Nat → Prop, Ext R w (w.drew.alloc (.cells (xs.toArray ++ ys.toArray ++ Builtin.zeroCells z.cells (cap - (n + m))) e)) := fun R => (Ext.drew R w).comp (Ext.alloc R w.drew _)
    refine ⟨Own.fresh w.drew B k (n + m) cap (xs ++ ys) e (0, 0) _ hB hlen hcap hcm ?_ ?_ (.inl (Nat.le_refl _)), ho.ext (hx no) (fun _ _ h => h), hx R⟩
    · simp only [Array.size_append, List.size_toArray, size_zeroCells, T.zk, ho.len, hl, ← Nat.add_mul]
      congr 1
      omega
    · simp only [Array.toList_append, List.append_assoc]
      rw [← List.append_assoc, ← hlen]
      exact List.take_left
  by_cases hroom : n + m ≤ c
  · by_cases hm : m = 0
    · subst hm
      have hy : ys = [] := List.eq_nil_of_length_eq_zero (by simpa using hl)
      subst hy
      refine ⟨sa, c, w, ?_, App.start ho⟩
      have hnc := ho.nc
      have hwr : (Builtin.firstCells i.size 0 x).run P w = .ok #[] w := by rw [hk]; exact hf
      cases sa with
      | none => rcases hd with rfl | ⟨e', rfl⟩ <;> simp [Builtin.append_, run_underlying hund, run_underlying hu, sizeOf, typeInfo, hi, hlx, hnc, hwr]
      | some b => rcases hd with rfl | ⟨e', rfl⟩ <;> simp [Builtin.append_, run_underlying hund, run_underlying hu, sizeOf, typeInfo, hi, hlx, hnc, hwr, storeCells]
    · have hpos : n * k < c * k := Nat.mul_lt_mul_of_pos_right (by omega) hk0
      obtain ⟨b, hsa, _, _⟩ := ho.can (n * k) hpos
      obtain ⟨hb1, hb2, hb3⟩ := ho.base b hsa
      obtain ⟨bb, off, spot⟩ := b
      simp only at hb1 hb2 hb3
      subst hb3
      subst hsa
      have hle : n * k + ys.length ≤ c * k := by rw [hl, ← Nat.add_mul]; exact Nat.mul_le_mul_right _ hroom
      have hcan : ∀ j, j < ys.length → (w.cell? ⟨bb, off + n * k + j, none⟩).isSome = true ∧ w.frozen? ⟨bb, off + n * k + j, none⟩ = false := by
        intro j hj
        obtain ⟨ad', ha, c1, c2⟩ := ho.can (n * k + j) (by omega)
        cases ha
        rw [Addr.add_lit, ← Nat.add_assoc] at c1 c2
        exact ⟨c1, c2⟩
      have hst := run_storeCells_cells (P := P) bb (off + n * k) ys 0 w (by simpa using fun j hj => (hcan j hj).1) (by simpa using fun j hj => (hcan j hj).2) h1
      simp only [Nat.add_zero] at hst
      have hwr : (Builtin.firstCells i.size m x).run P w = .ok ys.toArray w := by rw [hk]; exact hf
      have hrun : (Builtin.append_ #[t, u] ty #[.slice (some ⟨bb, off, none⟩) n c, x]).run P w = .ok (.slice (some ⟨bb, off, none⟩) (n + m) c) (w.setCells bb (off + n * k) ys) := by
        rw [hk] at hwr
        rcases hd with rfl | ⟨e', rfl⟩ <;> simp [Builtin.append_, run_underlying hund, run_underlying hu, sizeOf, typeInfo, hi, hlx, hroom, hwr, Addr.add_lit, hk, hst]
      have hx : Ext (blk (some ⟨bb, off, none⟩)) w (w.setCells bb (off + n * k) ys) := Ext.setCells bb _ ys w ⟨_, rfl, rfl⟩
      have hcan' : ∀ j, j < c * k → ∃ ad', some (⟨bb, off, none⟩ : Addr) = some ad' ∧ ((w.setCells bb (off + n * k) ys).cell? (ad'.add j)).isSome = true ∧ (w.setCells bb (off + n * k) ys).frozen? (ad'.add j) = false := by
        intro j hj
        obtain ⟨ad', ha, c1, c2⟩ := ho.can j hj
        exact ⟨ad', ha, by rw [isSome_setCells]; exact c1, by rw [World.frozen?_setCells]; exact c2⟩
      have hbase' : ∀ ad', some (⟨bb, off, none⟩ : Addr) = some ad' → B ≤ ad'.block ∧ ad'.block < (w.setCells bb (off + n * k) ys).heap.size ∧ ad'.spot = none := by
        intro ad' ha
        cases ha
        exact ⟨hb1, by rw [(setCells_same bb ys _ w).2.2.2]; exact hb2, rfl⟩
      have hold : ∀ j v, xs[j]? = some v → (w.setCells bb (off + n * k) ys).cell? ⟨bb, off + j, none⟩ = some v := by
        intro j v hj
        have hjl : j < xs.length := by
          rcases Nat.lt_or_ge j xs.length with h | h
          · exact h
          · rw [List.getElem?_eq_none h] at hj; cases hj
        rw [World.cell?_setCells_out bb ys _ w _ (fun _ _ => .inl (by have := ho.len; simp only; omega))]
        have := ho.rd.get hj
        rwa [Addr.add_lit] at this
      refine ⟨_, _, _, hrun, ⟨?_, hlen, hroom, ho.cm, hcan', hbase'⟩, ⟨?_, ho.len, ho.nc, ho.cm, hcan', hbase'⟩, hx, .inl ⟨rfl, rfl⟩⟩
      · intro j v hj
        refine ⟨_, rfl, ?_⟩
        rw [Addr.add_lit]
        by_cases hjx : j < xs.length
        · rw [List.getElem?_append_left hjx] at hj
          exact hold j v hj
        · rw [List.getElem?_append_right (by omega)] at hj
          have hjy : j - xs.length < ys.length := by
            rcases Nat.lt_or_ge (j - xs.length) ys.length with h | h
            · exact h
            · rw [List.getElem?_eq_none h] at hj; cases hj
          have hin := World.cell?_setCells_in bb ys (off + n * k) w (fun j hj => (hcan j hj).1) (j - xs.length) hjy
          have e1 : off + n * k + (j - xs.length) = off + j := by have := ho.len; omega
          rw [e1] at hin
          rw [hin]
          rw [List.getElem?_eq_getElem hjy] at hj
          exact hj
      · intro j v hj
        refine ⟨_, rfl, ?_⟩
        rw [Addr.add_lit]
        exact hold j v hj
  · have hn : ¬ (n + m ≤ c) := hroom
    have h63' : ¬ (9223372036854775807 < ((n : Int) + (m : Int))) := by omega
    have h48' : ¬ (281474976710656 < Builtin.nextslicecap (n + m) c * i.bytes) := by rw [hb]; have := growslice_fits (need := n + m) (old := c) (by omega) hby; omega
    have hwr : (Builtin.firstCells i.size m x).run P w.drew = .ok ys.toArray w.drew := by rw [hk]; exact hf'
    have hfo : (Builtin.firstCells i.size n (.slice sa n c)).run P w.drew = .ok xs.toArray w.drew := by
      cases sa with
      | none =>
        have hx0 : xs = [] := by
          cases xs with
          | nil => rfl
          | cons v vs => obtain ⟨_, h, _⟩ := ho.rd 0 v rfl; cases h
        subst hx0
        exact run_firstCells_none _ _ _ _ _
      | some b => exact run_firstCells_some (P := P) w.drew i.size n b n c xs (by rw [ho.len, hk]) (fun j v hj => by simpa using ho.rd.get hj)
    have hrun : (Builtin.append_ #[t, u] ty #[.slice sa n c, x]).run P w =
        .ok (.slice (some ⟨w.heap.size, 0, none⟩) (n + m) (grownCap w (n + m) c e)) (w.drew.alloc (.cells (xs.toArray ++ ys.toArray ++ Builtin.zeroCells z.cells (grownCap w (n + m) c e - (n + m))) e)) := by
      rcases hd with rfl | ⟨e', rfl⟩
      all_goals
        simp [Builtin.append_, run_underlying hund, run_underlying hu, sizeOf, typeInfo, zeroValue, hi, hz, hlx, hn, h63', h48', Question.forced, hwr, hfo, newRow, grownCap]
        congr 2
        apply Array.ext'
        simp [List.append_assoc]
    obtain ⟨f1, f2, f3⟩ := fresh (grownCap w (n + m) c e) c (blk sa) (grownCap_ge _ _ _ _) (grownCap_le_maxLen _ _ _ _ h63)
    exact ⟨_, _, _, hrun, f1, f2, f3, .inr fun ad ha => by cases ha; exact Nat.le_refl _⟩

/-- append onto an owned slice, of whatever slice. -/
theorem run_append {t ty e : TypeId} {z : Value} {k by' : Nat} (T : SlT P t e z k by') {B n c : Nat} {sa : Option Addr} {xs : List Value} (ho : Own w B sa k n c xs)
    {xa : Option Addr} {m cx : Nat} {ys : List Value} (hr : Rd w xa ys) (hl : ys.length = m * k) (h1 : ∀ u ∈ ys, u.oneCell' = true) (h63 : n + m ≤ maxLen) (hby : (n + m) * by' ≤ 140737488355328) (hB : B ≤ w.heap.size) :
    ∃ sa' c' w', (Builtin.append_ #[t, t] ty #[.slice sa n c, .slice xa m cx]).run P w = .ok (.slice sa' (n + m) c') w' ∧ App w w' B k sa n c xs sa' c' m ys := by
  have hf : ∀ w : World, Rd w xa ys → (Builtin.firstCells k m (.slice xa m cx)).run P w = .ok ys.toArray w := by
    intro w hr
    cases xa with
    | none =>
      have hy : ys = [] := by
        cases ys with
        | nil => rfl
        | cons v vs => obtain ⟨_, h, _⟩ := hr 0 v rfl; cases h
      subst hy
      exact run_firstCells_none _ _ _ _ _
    | some ad => exact run_firstCells_some (P := P) w k m ad m cx ys hl (fun j v hj => hr.get hj)
  exact run_append_src T T.und (.inr ⟨_, rfl⟩) ho (fun w => by simp [Builtin.lenOf]) (hf w hr) (hf w.drew hr.drew) hl h1 h63 hby hB

/-- append onto an owned slice of bytes, of a string. -/
theorem run_append_string {t u ty e : TypeId} (T : SlT P t e (.int .u8 0) 1 1) (hu : P.underlying u = some .string) {B n c : Nat} {sa : Option Addr} {xs : List Value} (ho : Own w B sa 1 n c xs)
    {s : ByteArray} (h63 : n + s.size ≤ maxLen) (hby : n + s.size ≤ 140737488355328) (hB : B ≤ w.heap.size) :
    ∃ sa' c' w', (Builtin.append_ #[t, u] ty #[.slice sa n c, .string s]).run P w = .ok (.slice sa' (n + s.size) c') w' ∧ App w w' B 1 sa n c xs sa' c' s.size (bs s.data.toList) := by
  have he : s.extract 0 s.size = s := by
    simp
  have hf : ∀ w : World, (Builtin.firstCells 1 s.size (.string s)).run P w = .ok (bs s.data.toList).toArray w := by
    intro w
    simp only [Builtin.firstCells, he, Sem.run_pure]
    congr 1
    apply Array.ext'
    simp only [Array.toList_map, bs]
    rfl
  exact run_append_src T hu (.inl rfl) ho (fun w => by simp [Builtin.lenOf]) (hf w) (hf w.drew) (by rw [bs_length, Array.length_toList, Nat.mul_one]; rfl) (bs_one _) h63 (by omega) hB

/-- What could be read before the call can be read still. -/
theorem Rd.below {a : Option Addr} {cs : List Value} (h : Rd w a cs) (hb : Below w.heap.size w w') : Rd w' a cs := h.ext (Ext.ofBelow hb (Nat.le_refl _)) (fun _ _ h => h)

/-- A slice that a call appends to (its block is one of the call's own: from w0's size on, below M), beside what was there at w0. -/
structure Grows (w0 : World) (M : Nat) (k : Nat) (a : Option Addr) (n c : Nat) (xs : List Value) (w : World) : Prop where
  own : Own w w0.heap.size a k n c xs
  below : Below w0.heap.size w0 w
  size : M ≤ w.heap.size
  lt : ∀ ad, a = some ad → ad.block < M

theorem Grows.no {w0 : World} {M k n c : Nat} {a : Option Addr} {xs : List Value} (h : Grows w0 M k a n c xs w) (hx : Ext no w w') : Grows w0 M k a n c xs w' :=
  ⟨h.own.ext hx (fun _ _ h => h), h.below.trans (hx.below (Nat.le_trans h.below.size (Nat.le_refl _)) (fun _ _ h => h)), Nat.le_trans h.size hx.size, h.lt⟩
theorem Grows.app {w0 : World} {M k n c : Nat} {a : Option Addr} {xs : List Value} {a' : Option Addr} {c' m : Nat} {zs : List Value} (h : Grows w0 M k a n c xs w) (g : App w w' w0.heap.size k a n c xs a' c' m zs) : Grows w0 M k a n c xs w' :=
  ⟨g.old, h.below.trans (h.own.below g.ext h.below.size), Nat.le_trans h.size g.ext.size, h.lt⟩
theorem Grows.le {w0 : World} {M k n c : Nat} {a : Option Addr} {xs : List Value} (h : Grows w0 M k a n c xs w) : w0.heap.size ≤ w.heap.size := h.below.size
/-- What lies from M on is not touched by what is appended. -/
theorem Grows.keep {w0 : World} {M k n c : Nat} {a : Option Addr} {xs : List Value} {a' : Option Addr} {c' m : Nat} {zs : List Value} (h : Grows w0 M k a n c xs w) (g : App w w' w0.heap.size k a n c xs a' c' m zs)
    {B' k' n' c2 : Nat} {b : Option Addr} {cs : List Value} (o : Own w B' b k' n' c2 cs) (hB : M ≤ B') : Own w' B' b k' n' c2 cs :=
  o.ext g.ext (by
    rintro ad ha ⟨ad', ha', he⟩
    have := (o.base ad ha).1
    have := h.lt ad' ha'
    omega)

/-! ### cuts of slices -/

/-- The address of 'x[l:..]'. -/
def cutAt (sa : Option Addr) (c l k : Nat) : Option Addr := if c = l then sa else sa.map (·.add (l * k))

theorem cutAt_zero (sa : Option Addr) (c k : Nat) : cutAt sa c 0 k = sa := by
  unfold cutAt
  split
  · rfl
  · cases sa <;> simp [Addr.add]

theorem cutAt_block {sa : Option Addr} {c l k : Nat} {ad : Addr} (h : cutAt sa c l k = some ad) : ∃ ad0, sa = some ad0 ∧ ad.block = ad0.block := by
  unfold cutAt at h
  split at h
  · exact ⟨ad, h, rfl⟩
  · simp only [Option.map_eq_some_iff] at h
    obtain ⟨x, hx, rfl⟩ := h
    exact ⟨x, hx, add_block _ _⟩

theorem Rd.cutAt {a : Option Addr} {cs : List Value} (h : Rd w a cs) (c l k : Nat) (hc : c = l → cs.length ≤ l * k) : Rd w (cutAt a c l k) (cs.drop (l * k)) := by
  unfold Esc.cutAt
  exact Rd.cut h c l k hc

theorem Own.cutAt {B k n c : Nat} {a : Option Addr} {cs : List Value} (o : Own w B a k n c cs) (l h : Nat) (hl : l ≤ h) (hh : h ≤ n) : Own w B (cutAt a c l k) k (h - l) (c - l) ((cs.take (h * k)).drop (l * k)) := by
  have hnc := o.nc
  refine ⟨(o.rd.take (h * k)).cutAt c l k (fun e => ?_), ?_, by omega, by have := o.cm; omega, ?_, ?_⟩
  · rw [List.length_take]
    have : h ≤ l := by omega
    exact Nat.le_trans (Nat.min_le_left _ _) (Nat.mul_le_mul_right _ this)
  · rw [List.length_drop, List.length_take, o.len, Nat.min_eq_left (Nat.mul_le_mul_right _ hh), Nat.sub_mul]
  · intro j hj
    rw [Nat.sub_mul] at hj
    obtain ⟨ad, ha, h1, h2⟩ := o.can (l * k + j) (by omega)
    have hne : c ≠ l := by rintro rfl; simp at hj
    refine ⟨ad.add (l * k), by unfold Esc.cutAt; rw [if_neg hne, ha]; rfl, ?_, ?_⟩
    · rw [Addr.add_add]; exact h1
    · rw [Addr.add_add]; exact h2
  · intro ad ha
    unfold Esc.cutAt at ha
    split at ha
    · exact o.base ad ha
    · simp only [Option.map_eq_some_iff] at ha
      obtain ⟨x, hx, rfl⟩ := ha
      obtain ⟨b1, b2, b3⟩ := o.base x hx
      refine ⟨by rw [add_block]; exact b1, by rw [add_block]; exact b2, ?_⟩
      unfold Addr.add
      split
      · exact b3
      · rfl

section cuts
variable {P : Program}

theorem elem_of {t e : TypeId} (h : P.underlying t = some (.slice e)) : P.elem t = e := by simp [Program.elem, h]

theorem run_cut_lh {t e : TypeId} {z : Value} {k by' : Nat} (T : SlT P t e z k by') (w : World) (sa : Option Addr) (n c : Nat) (kl kh : IntKind) (l h : Nat) (h1 : l ≤ h) (h2 : h ≤ c) :
    (Instr.sliceAt t (.slice sa n c) (some (.int kl l)) (some (.int kh h)) none).run P w = .ok (.slice (cutAt sa c l k) (h - l) (c - l)) w := by
  obtain ⟨i, hi, hz, hk, hb⟩ := info_parts T.info
  have he := elem_of T.und
  have ht : P.underlying t = some (.slice (P.elem t)) := by rw [he]; exact T.und
  rw [run_sliceAt_slice w t _ _ _ _ ht, run_slice_lh w t sa n c ht kl kh l h (by omega) (by omega) (by omega)]
  simp [he, sizeOf, typeInfo, hi, hk, sliced, cutAt]
theorem run_cut_h {t e : TypeId} {z : Value} {k by' : Nat} (T : SlT P t e z k by') (w : World) (sa : Option Addr) (n c : Nat) (kh : IntKind) (h : Nat) (h2 : h ≤ c) :
    (Instr.sliceAt t (.slice sa n c) none (some (.int kh h)) none).run P w = .ok (.slice sa h c) w := by
  obtain ⟨i, hi, hz, hk, hb⟩ := info_parts T.info
  have he := elem_of T.und
  have ht : P.underlying t = some (.slice (P.elem t)) := by rw [he]; exact T.und
  rw [run_sliceAt_slice w t _ _ _ _ ht, run_slice_h w t sa n c ht kh h (by omega) (by omega)]
  have := cutAt_zero sa c k
  unfold cutAt at this
  simp [he, sizeOf, typeInfo, hi, hk, sliced]
  simpa using this
theorem run_cut_l {t e : TypeId} {z : Value} {k by' : Nat} (T : SlT P t e z k by') (w : World) (sa : Option Addr) (n c : Nat) (kl : IntKind) (l : Nat) (h1 : l ≤ n) :
    (Instr.sliceAt t (.slice sa n c) (some (.int kl l)) none none).run P w = .ok (.slice (cutAt sa c l k) (n - l) (c - l)) w := by
  obtain ⟨i, hi, hz, hk, hb⟩ := info_parts T.info
  have he := elem_of T.und
  have ht : P.underlying t = some (.slice (P.elem t)) := by rw [he]; exact T.und
  rw [run_sliceAt_slice w t _ _ _ _ ht, run_slice_l w t sa n c ht kl l (by omega) (by omega)]
  simp [he, sizeOf, typeInfo, hi, hk, sliced, cutAt]

theorem wpList_cut_lh {ops : Array Oper} {rest : List Oper} {o : Oper} {a : Act} {Q : Exit → Act → World → Prop} {t e : TypeId} {z : Value} {k by' : Nat} (T : SlT P t e z k by') (hgd : o.guard = none) {x lo hi : Operand}
    (hop : o.op = .slice t x (some lo) (some hi) none) {sa : Option Addr} {n c : Nat} (hx : a.eval x = .slice sa n c) {kl kh : IntKind} {l' h' : Int} (hl : a.eval lo = .int kl l') (hh : a.eval hi = .int kh h') (l h : Nat) (el : l' = l) (eh : h' = h)
    (h1 : l ≤ h) (h2 : h ≤ c) (H : wpList P ops Q rest (a.put o.dst (.slice (cutAt sa c l k) (h - l) (c - l))) w) : wpList P ops Q (o :: rest) a w := by
  subst el eh
  refine wpList_plain hgd fun K hK => ?_
  unfold Oper.wp execOp
  simp only [hop, hx, hl, hh, Option.map_some, Option.map_none, Sem.run_bind, run_cut_lh T w sa n c kl kh l h h1 h2, Result.andThen_ok, Sem.run_pure]
  exact hK _ _ H
theorem wpList_cut_h {ops : Array Oper} {rest : List Oper} {o : Oper} {a : Act} {Q : Exit → Act → World → Prop} {t e : TypeId} {z : Value} {k by' : Nat} (T : SlT P t e z k by') (hgd : o.guard = none) {x hi : Operand}
    (hop : o.op = .slice t x none (some hi) none) {sa : Option Addr} {n c : Nat} (hx : a.eval x = .slice sa n c) {kh : IntKind} {h' : Int} (hh : a.eval hi = .int kh h') (h : Nat) (eh : h' = h)
    (h2 : h ≤ c) (H : wpList P ops Q rest (a.put o.dst (.slice sa h c)) w) : wpList P ops Q (o :: rest) a w := by
  subst eh
  refine wpList_plain hgd fun K hK => ?_
  unfold Oper.wp execOp
  simp only [hop, hx, hh, Option.map_some, Option.map_none, Sem.run_bind, run_cut_h T w sa n c kh h h2, Result.andThen_ok, Sem.run_pure]
  exact hK _ _ H
theorem wpList_cut_l {ops : Array Oper} {rest : List Oper} {o : Oper} {a : Act} {Q : Exit → Act → World → Prop} {t e : TypeId} {z : Value} {k by' : Nat} (T : SlT P t e z k by') (hgd : o.guard = none) {x lo : Operand}
    (hop : o.op = .slice t x (some lo) none none) {sa : Option Addr} {n c : Nat} (hx : a.eval x = .slice sa n c) {kl : IntKind} {l' : Int} (hl : a.eval lo = .int kl l') (l : Nat) (el : l' = l)
    (h1 : l ≤ n) (H : wpList P ops Q rest (a.put o.dst (.slice (cutAt sa c l k) (n - l) (c - l))) w) : wpList P ops Q (o :: rest) a w := by
  subst el
  refine wpList_plain hgd fun K hK => ?_
  unfold Oper.wp execOp
  simp only [hop, hx, hl, Option.map_some, Option.map_none, Sem.run_bind, run_cut_l T w sa n c kl l h1, Result.andThen_ok, Sem.run_pure]
  exact hK _ _ H
end cuts

/-! ### between bytes and strings -/

/-- A string of these bytes. -/
def str (l : List UInt8) : ByteArray := ⟨l.toArray⟩
theorem str_list (l : List UInt8) : (str l).data.toList = l := rfl
theorem str_size (l : List UInt8) : (str l).size = l.length := by simp [str, ByteArray.size]
theorem str_of (s : ByteArray) : str s.data.toList = s := rfl
theorem str_inj {l m : List UInt8} (h : str l = str m) : l = m := by rw [← str_list l, h, str_list]
theorem size_list (s : ByteArray) : s.data.toList.length = s.size := by rw [Array.length_toList]; rfl

theorem foldl_push (l : List UInt8) : ∀ acc : ByteArray, (l.map (fun b => (b.toNat : Int))).foldl (fun (r : ByteArray) (n : Int) => r.push (UInt8.ofNat n.toNat)) acc = ⟨(acc.data.toList ++ l).toArray⟩ := by
  induction l with
  | nil => intro acc; simp
  | cons b l ih =>
    intro acc
    rw [List.map_cons, List.foldl_cons, ih]
    simp [ByteArray.push]

theorem run_loadCells_rd {ad : Addr} {cs : List Value} (h : Rd w (some ad) cs) : (loadCells ad cs.length).run P w = .ok cs.toArray w := by
  have := run_firstCells_some (P := P) w 1 cs.length ad 0 0 cs (by simp) (fun j v hj => h.get hj)
  simpa [Builtin.firstCells] using this

theorem run_string_of {src dst e : TypeId} (hs : P.underlying src = some (.slice e)) (he : P.underlying e = some (.int .u8)) (hd : P.underlying dst = some .string) {a : Option Addr} {l : List UInt8} {c : Nat} (h : Rd w a (bs l)) :
    (convert src dst (.slice a l.length c)).run P w = .ok (.string (str l)) w := by
  rw [run_convert_bytes_string w src dst e a l.length c hs he hd]
  cases a with
  | none =>
    have h0 : l = [] := by
      cases l with
      | nil => rfl
      | cons x xs => obtain ⟨_, h, _⟩ := h 0 _ rfl; cases h
    subst h0
    simp [Conv.bytesToString, str]
    rfl
  | some ad =>
    have hl := run_loadCells_rd (P := P) h
    rw [bs_length] at hl
    have hm : bs l = (l.map (fun b => (b.toNat : Int))).map (Value.int .u8) := by simp [bs, B8, Function.comp_def]
    rw [hm] at hl
    rw [run_bytesToString w ad l.length c _ hl, foldl_push]
    rfl

theorem wpList_string_of {ops : Array Oper} {rest : List Oper} {o : Oper} {a : Act} {Q : Exit → Act → World → Prop} {src dst e : TypeId} (hs : P.underlying src = some (.slice e)) (he : P.underlying e = some (.int .u8)) (hd : P.underlying dst = some .string)
    (hgd : o.guard = none) {x : Operand} (hop : o.op = .convert src dst x) {v : Option Addr} {l : List UInt8} {n c : Nat} (hx : a.eval x = .slice v n c) (hn : n = l.length) (hr : Rd w v (bs l))
    (h : wpList P ops Q rest (a.put o.dst (.string (str l))) w) : wpList P ops Q (o :: rest) a w := by
  subst hn
  refine wpList_plain hgd fun K hK => ?_
  unfold Oper.wp execOp
  simp only [hop, hx, Sem.run_bind, run_string_of (P := P) (c := c) hs he hd hr, Result.andThen_ok, Sem.run_pure]
  exact hK _ _ h

theorem own_bytes_of (w : World) (B : Nat) (hB : B ≤ w.heap.size) (s : ByteArray) (hl : s.size ≤ maxLen) (e : TypeId) :
    Own (w.drew.alloc (.cells (bytesRow s (grownCap w s.size 0 e)) e ((bytesRow s (grownCap w s.size 0 e)).size, (bytesRow s (grownCap w s.size 0 e)).size + 1))) B (some ⟨w.heap.size, 0, none⟩) 1 s.size (grownCap w s.size 0 e) (bs s.data.toList) := by
  have hge := grownCap_ge w s.size 0 e
  have hsz : (bytesRow s (grownCap w s.size 0 e)).size = grownCap w s.size 0 e := by
    have : s.data.size = s.size := rfl
    simp [bytesRow, this]; omega
  refine Own.fresh w.drew B 1 s.size _ (bs s.data.toList) e _ _ hB (by rw [bs_length, size_list]; simp) hge (grownCap_le_maxLen _ _ _ _ hl) (by rw [hsz]; omega) ?_ (.inr (by simp))
  have hlen : (bs s.data.toList).length = s.size := by rw [bs_length, size_list]
  rw [bytesRow, Array.toList_append, Nat.mul_one, ← hlen]
  rw [show (s.data.map (fun b => Value.int .u8 b.toNat)).toList = bs s.data.toList from by simp only [Array.toList_map]; rfl]
  exact List.take_left

theorem wpList_bytes_of {ops : Array Oper} {rest : List Oper} {o : Oper} {a : Act} {Q : Exit → Act → World → Prop} {src dst e : TypeId} (hs : P.underlying src = some .string) (hd : P.underlying dst = some (.slice e)) (he : P.underlying e = some (.int .u8))
    (hgd : o.guard = none) {x : Operand} (hop : o.op = .convert src dst x) {s : ByteArray} (hx : a.eval x = .string s) (B : Nat) (hB : B ≤ w.heap.size) (hl : s.size ≤ maxLen)
    (h : ∀ v c w', Own w' B v 1 s.size c (bs s.data.toList) → Ext no w w' → wpList P ops Q rest (a.put o.dst (.slice v s.size c)) w') : wpList P ops Q (o :: rest) a w := by
  refine wpList_plain hgd fun K hK => ?_
  unfold Oper.wp execOp
  simp only [hop, hx, Sem.run_bind, run_bytes_of_string (P := P) w src dst e s hs hd he, Result.andThen_ok, Sem.run_pure]
  exact hK _ _ (h _ _ _ (own_bytes_of w B hB s hl e) ((Ext.drew no w).comp (Ext.alloc no _ _)))

/-- append of n zero elements, as slices.Grow has it, onto nil. -/
theorem run_append_zeros {t u ty e : TypeId} {z : Value} {by' : Nat} {ik : IntKind} (T : SlT P t e z 1 by') (hu : P.underlying u = some (.int ik)) {n : Nat} (w : World) (B : Nat) (hB : B ≤ w.heap.size)
    (h63 : n ≤ maxLen) (hby : n * by' ≤ 140737488355328) (hn : 0 < n) :
    ∃ c w', (Builtin.append_ #[t, u] ty #[.slice none 0 0, .int .i64 n]).run P w = .ok (.slice (some ⟨w.heap.size, 0, none⟩) n c) w' ∧ Own w' B (some ⟨w.heap.size, 0, none⟩) 1 0 c [] ∧ Ext no w w' := by
  obtain ⟨i, hi, hz, hk, hb⟩ := info_parts T.info
  have hund := T.und
  have h0 : n ≠ 0 := by omega
  have hm63 : n ≤ 9223372036854775807 := h63
  have h63' : ¬ (9223372036854775807 < (n : Int)) := by omega
  have hw : IntKind.i64.wrap (n : Int) = n := by rw [IntKind.wrap_i64]; omega
  have h48 : ¬ (281474976710656 < Builtin.nextslicecap n 0 * by') := by rw [nextslicecap_zero hn]; omega
  have h48' : ¬ (281474976710656 < (n : Int) * by') := by
    have := Int.ofNat_le.2 hby
    rw [Int.natCast_mul] at this
    generalize (n : Int) * (by' : Int) = q at *
    omega
  have hnn : ¬ ((n : Int) < 0) := by omega
  have hzs := T.zk
  refine ⟨grownCap w n 0 e, w.drew.alloc (.cells (Builtin.zeroCells z.cells n ++ Builtin.zeroCells z.cells (grownCap w n 0 e - n)) e), ?_, ?_, (Ext.drew no w).comp (Ext.alloc no _ _)⟩
  · simp [Builtin.append_, run_underlying hund, run_underlying hu, sizeOf, typeInfo, zeroValue, hi, hz, hk, hb, asInt, asIntOf, hw, hnn, h48', h0, h63', h48, Question.forced, Builtin.firstCells, newRow, grownCap]
  · refine Own.fresh w.drew B 1 0 _ [] e (0, 0) _ hB (by simp) (Nat.zero_le _) (grownCap_le_maxLen _ _ _ _ h63) ?_ (by simp) (.inl (Nat.le_refl _))
    have := grownCap_ge w n 0 e
    simp only [Array.size_append, size_zeroCells, hzs]
    omega

theorem wpList_append_zeros {ops : Array Oper} {rest : List Oper} {o : Oper} {a : Act} {Q : Exit → Act → World → Prop} {t u e : TypeId} {z : Value} {by' : Nat} {ik : IntKind} (T : SlT P t e z 1 by')
    (hgd : o.guard = none) {s x : Operand} (hop : o.op = .call { callee := .builtin .append, args := #[s, x], argTypes := #[t, u] }) (hu : P.underlying u = some (.int ik))
    {n : Nat} (hs : a.eval s = .slice none 0 0) (hx : a.eval x = .int .i64 n) (B : Nat) (hB : B ≤ w.heap.size) (h63 : n ≤ maxLen) (hby : n * by' ≤ 140737488355328) (hn : 0 < n)
    (h : ∀ c w', Own w' B (some ⟨w.heap.size, 0, none⟩) 1 0 c [] → Ext no w w' → wpList P ops Q rest (a.put o.dst (.slice (some ⟨w.heap.size, 0, none⟩) n c)) w') :
    wpList P ops Q (o :: rest) a w := by
  obtain ⟨c, w', hrun, h2, h3⟩ := run_append_zeros (P := P) (ty := o.type) T hu w B hB h63 hby hn
  refine wpList_plain hgd fun K hK => ?_
  unfold Oper.wp execOp
  simp only [hop, resolve, invoke, builtin, Sem.run_bind, Sem.run_pure, Result.andThen_ok, List.map_toArray, List.map_cons, List.map_nil, hs, hx, hrun]
  exact hK _ _ (h _ _ h2 h3)

/-- The law for the walk. -/
theorem wpList_append {ops : Array Oper} {rest : List Oper} {o : Oper} {a : Act} {Q : Exit → Act → World → Prop} {t e : TypeId} {z : Value} {k by' : Nat} (T : SlT P t e z k by')
    (hgd : o.guard = none) {s x : Operand} (hop : o.op = .call { callee := .builtin .append, args := #[s, x], argTypes := #[t, t] })
    {B n c : Nat} {sa : Option Addr} {xs : List Value} (hs : a.eval s = .slice sa n c) (ho : Own w B sa k n c xs)
    {xa : Option Addr} {m cx : Nat} {ys : List Value} (hx : a.eval x = .slice xa m cx) (hr : Rd w xa ys) (hl : ys.length = m * k) (h1 : ∀ u ∈ ys, u.oneCell' = true)
    (h63 : n + m ≤ maxLen) (hby : (n + m) * by' ≤ 140737488355328) (hB : B ≤ w.heap.size)
    (h : ∀ sa' c' w', App w w' B k sa n c xs sa' c' m ys → wpList P ops Q rest (a.put o.dst (.slice sa' (n + m) c')) w') :
    wpList P ops Q (o :: rest) a w := by
  obtain ⟨sa', c', w', hrun, h2⟩ := run_append (P := P) (ty := o.type) T ho (cx := cx) hr hl h1 h63 hby hB
  refine wpList_plain hgd fun K hK => ?_
  unfold Oper.wp execOp
  simp only [hop, resolve, invoke, builtin, Sem.run_bind, Sem.run_pure, Result.andThen_ok, List.map_toArray, List.map_cons, List.map_nil, hs, hx, hrun]
  exact hK _ _ (h _ _ _ h2)

theorem wpList_append_string {ops : Array Oper} {rest : List Oper} {o : Oper} {a : Act} {Q : Exit → Act → World → Prop} {t u e : TypeId} (T : SlT P t e (.int .u8 0) 1 1) (hu : P.underlying u = some .string)
    (hgd : o.guard = none) {s x : Operand} (hop : o.op = .call { callee := .builtin .append, args := #[s, x], argTypes := #[t, u] })
    {B n c : Nat} {sa : Option Addr} {xs : List Value} (hs : a.eval s = .slice sa n c) (ho : Own w B sa 1 n c xs) {st : ByteArray} (hx : a.eval x = .string st) (h63 : n + st.size ≤ maxLen) (hby : n + st.size ≤ 140737488355328) (hB : B ≤ w.heap.size)
    (h : ∀ sa' c' w', App w w' B 1 sa n c xs sa' c' st.size (bs st.data.toList) → wpList P ops Q rest (a.put o.dst (.slice sa' (n + st.size) c')) w') :
    wpList P ops Q (o :: rest) a w := by
  obtain ⟨sa', c', w', hrun, h2⟩ := run_append_string (P := P) (ty := o.type) T hu ho h63 hby hB
  refine wpList_plain hgd fun K hK => ?_
  unfold Oper.wp execOp
  simp only [hop, resolve, invoke, builtin, Sem.run_bind, Sem.run_pure, Result.andThen_ok, List.map_toArray, List.map_cons, List.map_nil, hs, hx, hrun]
  exact hK _ _ (h _ _ _ h2)

end append
end Go.Esc

/- Numbers as bytes, in plain terms: of no program. -/
namespace Go.Esc

/-- The higher digits of a number, marked, the lowest first. -/
def hiRev (v : Nat) : List UInt8 := if h : v = 0 then [] else b8 (v % 128 + 128) :: hiRev (v / 128)
/-- A number's bytes, the last first. -/
def revRow (u : Nat) : List UInt8 := b8 (u % 128) :: hiRev (u / 128)
def row (u : Nat) : List UInt8 := (revRow u).reverse
/-- A number without a sign. -/
def zig (n : Int) : Nat := if n < 0 then (2 * (-(n + 1)) + 1).toNat else (2 * n).toNat
def encI (n : Int) : List UInt8 := row (zig n)
def encT (s : List UInt8) : List UInt8 := encI s.length ++ s
def encL (l : List Int) : List UInt8 := encI l.length ++ l.flatMap encI

/-- The length and the first k numbers of a list. -/
def encLk (t : List Int) (k : Nat) : List UInt8 := encI t.length ++ (t.take k).flatMap encI
theorem encLk_all (t : List Int) : encLk t t.length = encL t := by unfold encLk encL; rw [List.take_length]
theorem encLk_succ (t : List Int) (k : Nat) (h : k < t.length) : encLk t (k + 1) = encLk t k ++ encI t[k] := by
  unfold encLk
  rw [List.take_succ_eq_append_getElem h, List.flatMap_append, List.append_assoc]
  simp

/-- A number that an int may be. -/
def I64ok (n : Int) : Prop := -9223372036854775808 ≤ n ∧ n ≤ 9223372036854775807

theorem hiRev_zero : hiRev 0 = [] := by rw [hiRev]; rfl
theorem hiRev_pos {v : Nat} (h : 0 < v) : hiRev v = b8 (v % 128 + 128) :: hiRev (v / 128) := by
  rw [hiRev, dif_neg (by omega)]

theorem hiRev_length (k : Nat) : ∀ v : Nat, v < 128 ^ k → (hiRev v).length ≤ k := by
  induction k with
  | zero =>
    intro v h
    have : v = 0 := by simpa using h
    subst this; rw [hiRev_zero]; simp
  | succ k ih =>
    intro v h
    by_cases hv : v = 0
    · subst hv; rw [hiRev_zero]; simp
    · rw [hiRev_pos (by omega), List.length_cons]
      have := ih (v / 128) (by rw [Nat.pow_succ] at h; omega)
      omega

theorem row_length (u : Nat) (h : u < 18446744073709551616) : (row u).length ≤ 10 ∧ 1 ≤ (row u).length := by
  have := hiRev_length 9 (u / 128) (by omega)
  simp [row, revRow]; omega

theorem zig_lt (n : Int) (h1 : -9223372036854775808 ≤ n) (h2 : n ≤ 9223372036854775807) : zig n < 18446744073709551616 := by
  unfold zig; split <;> omega

theorem encI_length (n : Int) (h : I64ok n) : (encI n).length ≤ 10 ∧ 1 ≤ (encI n).length := row_length _ (zig_lt n h.1 h.2)
theorem encLk_length (t : List Int) (h : I64ok t.length) (hok : ∀ n ∈ t, I64ok n) (k : Nat) : (encLk t k).length ≤ 10 + k * 10 := by
  induction k with
  | zero => have := (encI_length _ h).1; simp [encLk]; omega
  | succ k ih =>
    by_cases hk : k < t.length
    · rw [encLk_succ t k hk, List.length_append]
      have := (encI_length t[k] (hok _ (by simp))).1
      omega
    · have : encLk t (k + 1) = encLk t k := by unfold encLk; rw [List.take_of_length_le (by omega), List.take_of_length_le (by omega)]
      rw [this]; omega

theorem or128_fin : ∀ x : Fin 128, bits .or .u8 (x.val : Int) 128 = (x.val : Int) + 128 := by decide +kernel

theorem or128 (x : Int) (h0 : 0 ≤ x) (h1 : x < 128) : bits .or .u8 x 128 = x + 128 := by
  obtain ⟨n, rfl⟩ := Int.eq_ofNat_of_zero_le h0
  exact or128_fin ⟨n, by omega⟩

theorem and127 (x : Int) (h0 : 0 ≤ x) (h1 : x < 256) : bits .and .u8 x 127 = x % 128 := bits_mask .u8 8 (by decide) wraps_u8 7 (by decide) x h0 h1
theorem wraps_u64 (n : Int) (h₀ : 0 ≤ n) (h₁ : n < 2 ^ 64) : IntKind.u64.wrap n = n := by rw [IntKind.wrap_u64]; omega
theorem or1 (x : Int) (h0 : 0 ≤ x) (h1 : x < 18446744073709551616) (h2 : x % 2 = 0) : bits .or .u64 x 1 = x + 1 :=
  bits_join .u64 64 (by decide) wraps_u64 1 x 1 h0 (by simpa using h2) (by simpa using h1) (by decide) (by decide) (by decide)
theorem or7 (x y : Int) (h0 : 0 ≤ x) (h1 : x < 18446744073709551616) (h2 : x % 128 = 0) (h3 : 0 ≤ y) (h4 : y < 128) : bits .or .u64 x y = x + y :=
  bits_join .u64 64 (by decide) wraps_u64 7 x y h0 (by simpa using h2) (by simpa using h1) h3 (by simpa using h4) (by have : y < 128 := h4; simp; omega)

theorem tmod_pos (a n : Int) (h1 : 0 < n) : a % n = if a.tmod n < 0 then a.tmod n + n else a.tmod n := by
  have h := @Int.tmod_eq_emod a n
  have e1 := Int.emod_nonneg a (show n ≠ 0 by omega)
  have e2 := Int.emod_lt_of_pos a h1
  split at h
  · rw [if_neg (by omega)]; omega
  · rename_i hh
    have : a % n ≠ 0 := fun h0 => hh (.inr (Int.dvd_of_emod_eq_zero h0))
    rw [if_pos (by omega)]; omega

theorem xor_ones (x : Nat) (h : x < 18446744073709551616) : bits .xor .u64 IntKind.u64.max (x : Int) = ((18446744073709551615 - x : Nat) : Int) := by
  have h1 : (BitVec.ofInt 64 (x : Int)).toNat = x := by
    rw [BitVec.ofInt_natCast, BitVec.toNat_ofNat]; exact Nat.mod_eq_of_lt (by omega)
  have h2 : BitVec.ofInt 64 (IntKind.u64.max) = BitVec.allOnes 64 := by decide
  show IntKind.u64.wrap ((BitVec.ofInt 64 IntKind.u64.max ^^^ BitVec.ofInt 64 (x : Int)).toNat : Int) = _
  rw [h2, BitVec.allOnes_xor, BitVec.toNat_not, h1, IntKind.wrap_u64]
  omega

/-- The digits of a number from the i-th on, the highest first. -/
def topDigs (u i : Nat) : List UInt8 := (hiRev (u / 2 ^ (7 * i))).reverse
theorem topDigs_step (u i : Nat) (h : 0 < u / 2 ^ (7 * i)) : topDigs u i = topDigs u (i + 1) ++ [b8 (u / 2 ^ (7 * i) % 128 + 128)] := by
  unfold topDigs
  rw [hiRev_pos h, List.reverse_cons]
  congr 3
  rw [Nat.div_div_eq_div_mul, Nat.mul_add, Nat.pow_add]
theorem row_topDigs (u : Nat) : row u = topDigs u 1 ++ [b8 (u % 128)] := by
  unfold row revRow topDigs
  rw [List.reverse_cons]
/-- What stands when j digits are still to be written. -/
def wrote (u j : Nat) : List UInt8 := if j = 0 then row u else topDigs u j
theorem wrote_zero (u : Nat) : wrote u 0 = row u := rfl
theorem wrote_pos (u : Nat) {j : Nat} (h : 0 < j) : wrote u j = topDigs u j := by unfold wrote; rw [if_neg (by omega)]
theorem wrote_one (u : Nat) : wrote u 0 = wrote u 1 ++ [b8 (u % 128)] := by rw [wrote_zero, wrote_pos u (by omega), row_topDigs]
theorem wrote_step (u j : Nat) (hj : 0 < j) (h : 0 < u / 2 ^ (7 * j)) : wrote u j = wrote u (j + 1) ++ [b8 (u / 2 ^ (7 * j) % 128 + 128)] := by
  rw [wrote_pos u hj, wrote_pos u (by omega), topDigs_step u j h]
theorem wrote_len (u j : Nat) (h : u < 18446744073709551616) : (wrote u j).length ≤ 10 := by
  unfold wrote
  split
  · exact (row_length u h).1
  · rename_i hj
    unfold topDigs
    rw [List.length_reverse]
    have h1 : u / 2 ^ (7 * j) ≤ u / 2 ^ (7 * 1) := Nat.div_le_div_left (Nat.pow_le_pow_right (by decide) (by omega)) (by decide)
    have := hiRev_length 9 (u / 2 ^ (7 * j)) (by omega)
    omega
theorem topDigs_zero (u k : Nat) (h : u / 2 ^ (7 * k) = 0) : topDigs u k = [] := by unfold topDigs; rw [h, hiRev_zero]; rfl

/-- Slices of bytes, as a slice of slices holds them. -/
structure Part where
  a : Option Addr
  l : List UInt8
  c : Nat
def Part.v (p : Part) : Value := .slice p.a p.l.length p.c
def flat (L : List Part) : List UInt8 := L.flatMap (·.l)
theorem flat_take_succ (L : List Part) (k : Nat) (h : k < L.length) : flat (L.take (k + 1)) = flat (L.take k) ++ L[k].l := by
  unfold flat
  rw [List.take_succ_eq_append_getElem h, List.flatMap_append]
  simp
theorem flat_take_le (L : List Part) (k : Nat) : (flat (L.take k)).length ≤ (flat L).length := by
  unfold flat
  conv => rhs; rw [← List.take_append_drop k L, List.flatMap_append, List.length_append]
  omega

end Go.Esc

/- Operations as plain data: dots, their order, what is checked. -/
namespace Go.Esc
open Go.RowKit

structure DotR where
  dev : Int
  ep : Int
  seq : Int
structure OpR where
  dot : DotR
  coll : Int
  ver : Int
  kind : Int
  key : List UInt8
  text : List UInt8
  n : Int
  time : Int
  dots : List DotR

def DotR.cells (d : DotR) : List Value := [.int .i64 d.dev, .int .i64 d.ep, .int .i64 d.seq]
def DotR.v (d : DotR) : Value := .agg #[.int .i64 d.dev, .int .i64 d.ep, .int .i64 d.seq]
def DotR.ok (d : DotR) : Prop := I64ok d.dev ∧ I64ok d.ep ∧ I64ok d.seq
def ds (l : List DotR) : List Value := l.flatMap DotR.cells
def OpR.cells (o : OpR) (a : Option Addr) (c : Nat) : List Value := [.int .i64 o.dot.dev, .int .i64 o.dot.ep, .int .i64 o.dot.seq, .int .i64 o.coll, .int .i64 o.ver, .int .i64 o.kind, .string (str o.key), .string (str o.text), .int .i64 o.n, .int .i64 o.time, .slice a o.dots.length c]
def OpR.v (o : OpR) (a : Option Addr) (c : Nat) : Value := .agg #[.int .i64 o.dot.dev, .int .i64 o.dot.ep, .int .i64 o.dot.seq, .int .i64 o.coll, .int .i64 o.ver, .int .i64 o.kind, .string (str o.key), .string (str o.text), .int .i64 o.n, .int .i64 o.time, .slice a o.dots.length c]
structure OpR.ok (o : OpR) : Prop where
  dot : o.dot.ok
  coll : I64ok o.coll
  ver : I64ok o.ver
  kind : I64ok o.kind
  n : I64ok o.n
  time : I64ok o.time
  key : o.key.length ≤ maxLen
  text : o.text.length ≤ maxLen
  dots : ∀ d ∈ o.dots, d.ok

def cmpI (a b : Int) : Int := if a < b then -1 else if b < a then 1 else 0
def DotR.cmp (a b : DotR) : Int := if cmpI a.dev b.dev ≠ 0 then cmpI a.dev b.dev else if cmpI a.ep b.ep ≠ 0 then cmpI a.ep b.ep else cmpI a.seq b.seq
def DotR.lt (a b : DotR) : Bool := if a.dev ≠ b.dev then decide (a.dev < b.dev) else if a.ep ≠ b.ep then decide (a.ep < b.ep) else decide (a.seq < b.seq)
theorem cmpI_zero (a b : Int) : cmpI a b = 0 ↔ a = b := by
  unfold cmpI; split
  · omega
  · split <;> omega
theorem cmpI_neg (a b : Int) : cmpI a b < 0 ↔ a < b := by
  unfold cmpI; split
  · omega
  · split <;> omega
theorem DotR.cmp_lt (a b : DotR) : a.cmp b < 0 ↔ a.lt b = true := by
  unfold DotR.cmp DotR.lt
  have h1 := cmpI_zero a.dev b.dev
  have h2 := cmpI_zero a.ep b.ep
  have g1 := cmpI_neg a.dev b.dev
  have g2 := cmpI_neg a.ep b.ep
  have g3 := cmpI_neg a.seq b.seq
  by_cases e1 : a.dev = b.dev
  · have c1 := h1.2 e1
    by_cases e2 : a.ep = b.ep
    · have c2 := h2.2 e2
      simp [e1, e2]
      rw [e1] at c1; rw [e2] at c2; simp [c1, c2, g3]
    · have c2 : cmpI a.ep b.ep ≠ 0 := fun h => e2 (h2.1 h)
      simp [e1, e2, c2]
      rw [e1] at c1; simp [c1, g2]
  · have c1 : cmpI a.dev b.dev ≠ 0 := fun h => e1 (h1.1 h)
    simp [e1, c1, g1]
def risesB : List DotR → Bool
  | a :: b :: l => a.lt b && risesB (b :: l)
  | _ => true
theorem risesB_iff : ∀ l : List DotR, risesB l = true ↔ ∀ (j : Nat) (a b : DotR), l[j]? = some a → l[j + 1]? = some b → a.lt b = true
  | [] => by simp [risesB]
  | [a] => by simp [risesB]
  | a :: b :: l => by
    rw [risesB, Bool.and_eq_true, risesB_iff (b :: l)]
    constructor
    · rintro ⟨h1, h2⟩ j x y hx hy
      cases j with
      | zero => simp at hx hy; subst hx hy; exact h1
      | succ j => exact h2 j x y (by simpa using hx) (by simpa using hy)
    · intro h
      exact ⟨h 0 a b rfl rfl, fun j x y hx hy => h (j + 1) x y (by simpa using hx) (by simpa using hy)⟩
def textB (b : UInt8) : Bool := decide (32 ≤ b.toNat) && decide (b.toNat ≠ 127)
def textOk (s : List UInt8) : Bool := decide (s.length ≤ 40) && s.all textB
theorem textOk_iff (s : List UInt8) : textOk s = true ↔ s.length ≤ 40 ∧ ∀ (j : Nat) (b : UInt8), s[j]? = some b → 32 ≤ b.toNat ∧ b.toNat ≠ 127 := by
  unfold textOk
  rw [Bool.and_eq_true, decide_eq_true_iff, List.all_eq_true]
  constructor
  · rintro ⟨h1, h2⟩
    exact ⟨h1, fun j b hb => by have := h2 b (List.mem_of_getElem? hb); simpa [textB] using this⟩
  · rintro ⟨h1, h2⟩
    refine ⟨h1, fun b hb => ?_⟩
    obtain ⟨j, hj⟩ := List.getElem?_of_mem hb
    simpa [textB] using h2 j b hj

def dotsErr (l : List DotR) : Nat := if 8 < l.length then 4 else if risesB l then 0 else 10
def headOk (o : OpR) : Prop := ((((((0 ≤ o.dot.dev ∧ o.dot.dev ≤ 5) ∧ (1 ≤ o.dot.ep ∧ o.dot.ep ≤ 1073741824)) ∧ (1 ≤ o.dot.seq ∧ o.dot.seq ≤ 1073741824)) ∧ (0 ≤ o.coll ∧ o.coll ≤ 2)) ∧ (1 ≤ o.ver ∧ o.ver ≤ 3)) ∧ (0 ≤ o.time ∧ o.time ≤ 1099511627776))
instance (o : OpR) : Decidable (headOk o) := by unfold headOk; infer_instance
def kindErr (o : OpR) : Nat :=
  if o.kind ≠ 5 ∧ o.key = [] then 1 else
  if o.kind = 3 then dotsErr o.dots else
  if o.kind = 4 then (if o.n = 0 ∨ ¬ (-1099511627776 ≤ o.n ∧ o.n ≤ 1099511627776) then 11 else 0) else
  if o.kind = 5 then (if 0 ≤ o.n ∧ o.n ≤ 999 then 0 else 11) else 0
def checkOp (o : OpR) : Nat :=
  if ¬ headOk o then 1 else
  if ¬ (1 ≤ o.kind ∧ o.kind ≤ 5) then 3 else
  if ¬ (textOk o.key = true ∧ textOk o.text = true) then 5 else kindErr o

theorem ds_length (l : List DotR) : (ds l).length = l.length * 3 := by
  induction l with
  | nil => rfl
  | cons d l ih => unfold ds at *; rw [List.flatMap_cons, List.length_append, ih]; simp [DotR.cells]; omega
theorem ds_get (l : List DotR) (k : Nat) (d : DotR) (h : l[k]? = some d) (m : Nat) (v : Value) (hm : d.cells[m]? = some v) : (ds l)[k * 3 + m]? = some v := by
  have hm3 : m < 3 := (List.getElem?_eq_some_iff.1 hm).1
  unfold ds
  induction l generalizing k with
  | nil => simp at h
  | cons c l ih =>
    rw [List.flatMap_cons]
    cases k with
    | zero =>
      simp at h
      subst h
      rw [List.getElem?_append_left (by simp [DotR.cells]; omega), Nat.zero_mul, Nat.zero_add]
      exact hm
    | succ k =>
      rw [List.getElem?_append_right (by simp [DotR.cells]; omega), show (k + 1) * 3 + m - c.cells.length = k * 3 + m by simp [DotR.cells]; omega]
      exact ih k (by simpa using h)
theorem ds_cell {w : World} {b o : Nat} {l : List DotR} {k : Nat} {d : DotR} (h : Rd w (some ⟨b, o, none⟩) (ds l)) (hd : l[k]? = some d) : ∀ m v, d.cells[m]? = some v → w.cell? ⟨b, o + k * 3 + m, none⟩ = some v := by
  intro m v hm
  obtain ⟨ad, hs, hc⟩ := h (k * 3 + m) v (ds_get l k d hd m v hm)
  cases hs
  rw [Addr.add_lit] at hc
  rw [Nat.add_assoc]
  exact hc
theorem ds_shape {w : World} {a : Option Addr} {l : List DotR} (h : Rd w a (ds l)) (hl : 0 < l.length) : ∃ b off, a = some ⟨b, off, none⟩ ∧ b < w.heap.size := h.shape (by rw [ds_length]; omega)
theorem ds_append (l m : List DotR) : ds (l ++ m) = ds l ++ ds m := by simp [ds]
end Go.Esc

/- What Good makes of an operation, plainly. -/
namespace Go.Esc
open Go.RowKit

def DotR.eqv (a b : DotR) : Bool := a.dev == b.dev && (a.ep == b.ep && a.seq == b.seq)
theorem DotR.eqv_iff (a b : DotR) : a.eqv b = true ↔ a = b := by
  obtain ⟨a1, a2, a3⟩ := a
  obtain ⟨b1, b2, b3⟩ := b
  simp [DotR.eqv]
def gd (d : DotR) : DotR := ⟨d.dev % 6, 1 + d.ep % 3, 1 + d.seq % 12⟩
/-- A dot put into its place. -/
def insD : List DotR → DotR → List DotR
  | [], d => [d]
  | a :: l, d => if a.lt d then a :: insD l d else if a.eqv d then a :: l else d :: a :: l
def goodDots (l : List DotR) : List DotR := (l.take 8).foldl (fun L x => insD L (gd x)) []

theorem DotR.lt_def (a b : DotR) : a.lt b = true ↔ a.dev < b.dev ∨ (a.dev = b.dev ∧ (a.ep < b.ep ∨ (a.ep = b.ep ∧ a.seq < b.seq))) := by
  unfold DotR.lt
  by_cases h1 : a.dev = b.dev
  · rw [if_neg (by simp [h1])]
    by_cases h2 : a.ep = b.ep
    · rw [if_neg (by simp [h2])]; simp [h1, h2]
    · rw [if_pos h2]; simp [h1, h2]
  · rw [if_pos h1]; simp [h1]
theorem DotR.turn (a b : DotR) (h : a.lt b = false) (he : a.eqv b = false) : b.lt a = true := by
  rw [DotR.lt_def]
  have h1 : ¬ (a.lt b = true) := by rw [h]; simp
  have h2 : ¬ (a = b) := by rw [← DotR.eqv_iff, he]; simp
  rw [DotR.lt_def] at h1
  obtain ⟨a1, a2, a3⟩ := a
  obtain ⟨b1, b2, b3⟩ := b
  simp at h1 h2 ⊢
  omega
theorem insD_len (l : List DotR) (d : DotR) : (insD l d).length ≤ l.length + 1 := by
  induction l with
  | nil => simp [insD]
  | cons a l ih =>
    unfold insD
    split
    · simp; exact ih
    · split <;> simp
theorem insD_rises (l : List DotR) (d : DotR) (h : risesB l = true) : risesB (insD l d) = true ∧ ∀ x : DotR, x.lt d = true → risesB (x :: l) = true → risesB (x :: insD l d) = true := by
  induction l with
  | nil => exact ⟨by simp [insD, risesB], fun x hx _ => by simp [insD, risesB, hx]⟩
  | cons a l ih =>
    have hl : risesB l = true := by
      cases l with
      | nil => rfl
      | cons b l => rw [risesB, Bool.and_eq_true] at h; exact h.2
    obtain ⟨i1, i2⟩ := ih hl
    unfold insD
    by_cases h1 : a.lt d = true
    · rw [if_pos h1]
      have := i2 a h1 h
      exact ⟨this, fun x hx hxa => by rw [risesB, Bool.and_eq_true] at hxa ⊢; exact ⟨hxa.1, this⟩⟩
    · rw [if_neg h1]
      by_cases h2 : a.eqv d = true
      · rw [if_pos h2]
        exact ⟨h, fun x _ hxa => hxa⟩
      · rw [if_neg h2]
        have ht := DotR.turn a d (by simpa using h1) (by simpa using h2)
        have : risesB (d :: a :: l) = true := by rw [risesB, Bool.and_eq_true]; exact ⟨ht, h⟩
        exact ⟨this, fun x hx _ => by rw [risesB, Bool.and_eq_true]; exact ⟨hx, this⟩⟩
/-- Where the dot goes. -/
theorem insD_end (l : List DotR) (d : DotR) (h : ∀ (j : Nat) (a : DotR), l[j]? = some a → a.lt d = true) : insD l d = l ++ [d] := by
  induction l with
  | nil => rfl
  | cons a l ih =>
    unfold insD
    rw [if_pos (h 0 a rfl), ih (fun j b hb => h (j + 1) b (by simpa using hb))]
    rfl
theorem insD_at (l : List DotR) (d : DotR) (k : Nat) (a : DotR) (h : ∀ (j : Nat) (b : DotR), j < k → l[j]? = some b → b.lt d = true) (hk : l[k]? = some a) (ha : a.lt d = false) :
    insD l d = if a.eqv d then l else l.take k ++ d :: l.drop k := by
  induction k generalizing l with
  | zero =>
    cases l with
    | nil => simp at hk
    | cons b l =>
      simp at hk
      subst hk
      unfold insD
      rw [if_neg (by rw [ha]; simp)]
      rfl
  | succ k ih =>
    cases l with
    | nil => simp at hk
    | cons b l =>
      unfold insD
      rw [if_pos (h 0 b (by omega) rfl), ih l (fun j c hj hc => h (j + 1) c (by omega) (by simpa using hc)) (by simpa using hk)]
      split <;> simp
def insN (l : List DotR) (n : Nat) : List DotR := (l.take n).foldl (fun L x => insD L (gd x)) []
theorem insN_succ (l : List DotR) (n : Nat) (x : DotR) (h : l[n]? = some x) : insN l (n + 1) = insD (insN l n) (gd x) := by
  unfold insN
  obtain ⟨hn, hx⟩ := List.getElem?_eq_some_iff.1 h
  rw [List.take_succ_eq_append_getElem hn, List.foldl_append, hx]
  rfl
theorem insN_len (l : List DotR) (n : Nat) : (insN l n).length ≤ n := by
  induction n with
  | zero => simp [insN]
  | succ n ih =>
    by_cases h : n < l.length
    · rw [insN_succ l n l[n] (List.getElem?_eq_getElem h)]
      have := insD_len (insN l n) (gd l[n])
      omega
    · unfold insN at *
      rw [List.take_of_length_le (by omega)] at *
      omega
theorem insN_rises (l : List DotR) (n : Nat) : risesB (insN l n) = true := by
  induction n with
  | zero => rfl
  | succ n ih =>
    by_cases h : n < l.length
    · rw [insN_succ l n l[n] (List.getElem?_eq_getElem h)]
      exact (insD_rises _ _ ih).1
    · unfold insN at *
      rw [List.take_of_length_le (by omega)] at *
      exact ih
theorem gd_ok (d : DotR) : (gd d).ok := by
  unfold gd DotR.ok I64ok
  simp only
  omega
theorem insD_all {p : DotR → Prop} (l : List DotR) (d : DotR) (hl : ∀ x ∈ l, p x) (hd : p d) : ∀ x ∈ insD l d, p x := by
  induction l with
  | nil => intro x hx; simp [insD] at hx; subst hx; exact hd
  | cons a l ih =>
    intro x hx
    unfold insD at hx
    split at hx
    · rcases List.mem_cons.1 hx with rfl | hx
      · exact hl _ (by simp)
      · exact ih (fun y hy => hl y (by simp [hy])) x hx
    · split at hx
      · exact hl x hx
      · rcases List.mem_cons.1 hx with rfl | hx
        · exact hd
        · exact hl x hx
theorem insN_ok (l : List DotR) (n : Nat) : ∀ x ∈ insN l n, x.ok := by
  induction n with
  | zero => simp [insN]
  | succ n ih =>
    by_cases h : n < l.length
    · rw [insN_succ l n l[n] (List.getElem?_eq_getElem h)]
      exact insD_all _ _ ih (gd_ok _)
    · unfold insN at *
      rw [List.take_of_length_le (by omega)] at *
      exact ih

def goodKey (s : List UInt8) : List UInt8 := if s.length % 3 = 0 then [97] else if s.length % 3 = 1 then [98] else [120]
def goodText (s : List UInt8) : List UInt8 := if s.length % 4 = 0 then [] else if s.length % 4 = 1 then [116] else if s.length % 4 = 2 then [85, 32] else [32, 118]
def goodN (k n : Int) : Int := if k = 4 then (if n % 12 - 6 = 0 then 6 else n % 12 - 6) else if k = 5 then n % 30 else n
def goodOp (o : OpR) : OpR where
  dot := ⟨o.dot.dev % 6, 1 + o.dot.ep % 3, 1 + o.dot.seq % 30⟩
  coll := o.coll % 3
  ver := 1 + o.ver % 3
  kind := 1 + o.kind % 5
  key := goodKey o.key
  text := goodText o.text
  n := goodN (1 + o.kind % 5) o.n
  time := o.time % 50
  dots := if 1 + o.kind % 5 = 3 then goodDots o.dots else []
theorem goodKey_ok (s : List UInt8) : textOk (goodKey s) = true ∧ goodKey s ≠ [] ∧ (goodKey s).length = 1 := by
  unfold goodKey
  split
  · decide
  · split <;> decide
theorem goodText_ok (s : List UInt8) : textOk (goodText s) = true ∧ (goodText s).length ≤ 2 := by
  unfold goodText
  split
  · decide
  · split
    · decide
    · split <;> decide
theorem goodOp_ok (o : OpR) (h : o.ok) : (goodOp o).ok := by
  obtain ⟨h1, h2, h3, h4, h5, h6, h7, h8, h9⟩ := h
  have k1 := (goodKey_ok o.key).2.2
  have k2 := (goodText_ok o.text).2
  refine ⟨⟨?_, ?_, ?_⟩, ?_, ?_, ?_, ?_, ?_, ?_, ?_, ?_⟩
  · unfold I64ok goodOp; simp only; omega
  · unfold I64ok goodOp; simp only; omega
  · unfold I64ok goodOp; simp only; omega
  · unfold I64ok goodOp; simp only; omega
  · unfold I64ok goodOp; simp only; omega
  · unfold I64ok goodOp; simp only; omega
  · unfold I64ok goodOp goodN at *; simp only
    split
    · split <;> omega
    · split <;> omega
  · unfold I64ok goodOp; simp only; omega
  · unfold goodOp maxLen; simp only; omega
  · unfold goodOp maxLen; simp only; omega
  · unfold goodOp; simp only
    split
    · exact insN_ok _ _
    · simp
theorem goodOp_len (o : OpR) : (goodOp o).dots.length ≤ 8 := by
  unfold goodOp; simp only
  split
  · exact insN_len o.dots 8
  · simp
theorem goodOp_check (o : OpR) : checkOp (goodOp o) = 0 := by
  obtain ⟨k1, k2, k3⟩ := goodKey_ok o.key
  obtain ⟨t1, t2⟩ := goodText_ok o.text
  have hh : headOk (goodOp o) := by unfold headOk goodOp; simp only; omega
  have hk : (goodOp o).kind = 1 + o.kind % 5 := rfl
  unfold checkOp
  rw [if_neg (fun h => h hh), if_neg (by rw [hk]; omega), if_neg (by intro h; exact h ⟨k1, t1⟩)]
  unfold kindErr
  rw [if_neg (fun h => k2 h.2)]
  by_cases h3 : (goodOp o).kind = 3
  · rw [if_pos h3]
    have : (goodOp o).dots = goodDots o.dots := by unfold goodOp; simp only; rw [if_pos (by rw [← hk]; exact h3)]
    unfold dotsErr
    rw [if_neg (by have := goodOp_len o; omega), this, show goodDots o.dots = insN o.dots 8 from rfl, if_pos (insN_rises o.dots 8)]
  · rw [if_neg h3]
    have hn : (goodOp o).n = goodN (goodOp o).kind o.n := rfl
    by_cases h4 : (goodOp o).kind = 4
    · rw [if_pos h4, hn]
      unfold goodN
      rw [if_pos h4]
      rw [if_neg]
      split <;> omega
    · rw [if_neg h4]
      by_cases h5 : (goodOp o).kind = 5
      · rw [if_pos h5, hn]
        unfold goodN
        rw [if_neg h4, if_pos h5, if_pos (by omega)]
      · rw [if_neg h5]
end Go.Esc

/- Structs in memory; slices that are made; what is copied: of no program. -/
namespace Go.Esc
open Go.RowKit

variable {w w' : World}

theorem decT {p : Prop} [Decidable p] (h : p) : decide p = true := decide_eq_true h
theorem decF {p : Prop} [Decidable p] (h : ¬ p) : decide p = false := decide_eq_false h

/-- The first cells of block g, none of which is frozen. -/
structure Blk (w : World) (g : Nat) (cs : List Value) : Prop where
  cell : ∀ k v, cs[k]? = some v → w.cell? ⟨g, k, none⟩ = some v
  fr : ∀ k, w.frozen? ⟨g, k, none⟩ = false

theorem Blk.lt {g : Nat} {cs : List Value} (h : Blk w g cs) (hn : cs ≠ []) : g < w.heap.size := by
  cases cs with
  | nil => exact absurd rfl hn
  | cons v vs => exact World.block_lt_of_cell? w _ (h.cell 0 v rfl)
theorem Blk.ext {S : Nat → Prop} {g : Nat} {cs : List Value} (h : Blk w g cs) (hn : cs ≠ []) (hx : Ext S w w') (hg : ¬ S g) : Blk w' g cs :=
  ⟨fun k v hk => hx.keeps (h.cell k v hk) hg, fun k => by rw [hx.frozen (p := ⟨g, k, none⟩) (h.lt hn) hg]; exact h.fr k⟩
theorem Blk.drew {g : Nat} {cs : List Value} (h : Blk w g cs) : Blk w.drew g cs := ⟨h.cell, h.fr⟩
theorem Blk.drewN {g : Nat} {cs : List Value} (h : Blk w g cs) (n : Nat) : Blk (w.drewN n) g cs := ⟨h.cell, h.fr⟩
theorem Blk.set {g : Nat} {cs : List Value} (h : Blk w g cs) (k : Nat) (v : Value) (hk : k < cs.length) : Blk (w.setCell ⟨g, k, none⟩ v) g (cs.set k v) := by
  refine ⟨fun i u hi => ?_, fun i => ?_⟩
  · by_cases e : k = i
    · subst e
      rw [List.getElem?_set_self hk] at hi
      cases hi
      exact World.cell?_setCell_same _ _ _ (h.cell k cs[k] (by simp [hk]))
    · rw [List.getElem?_set_ne e] at hi
      rw [World.cell?_setCell_other _ _ _ _ (by intro hh; cases hh; exact e rfl)]
      exact h.cell i u hi
  · have := World.frozen?_setCells g [v] k w ⟨g, i, none⟩
    exact this.trans (h.fr i)
theorem Blk.lit (w : World) (cs : Array Value) (e : TypeId) : Blk (w.alloc (.cells cs e)) w.heap.size cs.toList := by
  have hnew : (w.alloc (.cells cs e)).heap[w.heap.size]? = some (.cells cs e) := heap_alloc_new w _
  refine ⟨fun k v hk => ?_, fun k => ?_⟩
  · rw [cell_of_row _ _ _ _ _ _ hnew]; simpa using hk
  · simp only [World.frozen?, hnew]; simp
theorem Blk.at (w : World) (cs : Array Value) (e : TypeId) (g : Nat) (hg : g = w.heap.size) : Blk (w.alloc (.cells cs e)) g cs.toList := hg ▸ Blk.lit w cs e

theorem Own.setCells {B n c g o0 : Nat} : ∀ (ys : List Value) (off : Nat) (w : World) (cs : List Value), Own w B (some ⟨g, o0, none⟩) 1 n c cs → off + ys.length ≤ n →
    Own (w.setCells g (o0 + off) ys) B (some ⟨g, o0, none⟩) 1 n c (cs.take off ++ ys ++ cs.drop (off + ys.length))
  | [], off, w, cs, h, _ => by simpa [World.setCells] using h
  | v :: ys, off, w, cs, h, hl => by
    rw [List.length_cons] at hl
    have h1 := h.set off (by omega) v
    rw [Addr.add_lit] at h1
    have h2 := Own.setCells ys (off + 1) _ _ h1 (by omega)
    have hlen : off < cs.length := by have := h.len; omega
    simp only [World.setCells]
    have e1 : (cs.set off v).take (off + 1) = cs.take off ++ [v] := by
      rw [List.take_succ_eq_append_getElem (by simpa using hlen), List.getElem_set_self, List.take_set_of_le (Nat.le_refl _)]
    have e2 : (cs.set off v).drop (off + 1 + ys.length) = cs.drop (off + (ys.length + 1)) := by
      rw [List.drop_set_of_lt (by omega)]
      congr 1; omega
    rw [e1, e2] at h2
    rw [List.length_cons, show cs.take off ++ v :: ys = cs.take off ++ [v] ++ ys from by simp, show o0 + off + 1 = o0 + (off + 1) from by omega]
    exact h2

section
variable {P : Program}

theorem run_copy_own {t ty e : TypeId} {z : Value} {by' : Nat} (T : SlT P t e z 1 by') {B n c : Nat} {ad : Addr} {cs : List Value} (ho : Own w B (some ad) 1 n c cs) {dp : Option Addr} {off dLen dCap : Nat}
    {xa : Option Addr} {m cx : Nat} {ys : List Value} (hdp : 0 < m → dp = some (ad.add off)) (hr : Rd w xa ys) (hl : ys.length = m) (h1 : ∀ u ∈ ys, u.oneCell' = true) (hm : m ≤ dLen) (hfit : off + m ≤ n) :
    ∃ w', (Builtin.copy_ #[t, t] ty #[.slice dp dLen dCap, .slice xa m cx]).run P w = .ok (goInt m) w' ∧ Own w' B (some ad) 1 n c (cs.take off ++ ys ++ cs.drop (off + m)) ∧ Ext (blk (some ad)) w w' := by
  have hs : (P.info? e).map (·.size) = some 1 := by
    obtain ⟨i, hi, _, hk, _⟩ := info_parts T.info
    simp [hi, hk]
  by_cases h0 : m = 0
  · subst h0
    obtain rfl : ys = [] := List.eq_nil_of_length_eq_zero hl
    exact ⟨w, run_copy_none w t t ty e dp xa dLen dCap 0 cx T.und hs (by simp), by simpa using ho, Ext.refl _ _⟩
  · obtain ⟨_, _, hsp⟩ := ho.base ad rfl
    obtain ⟨g, o0, sp⟩ := ad
    simp only at hsp
    subst hsp
    have hd := hdp (by omega)
    rw [Addr.add_lit] at hd
    subst hd
    obtain ⟨xad, rfl, _⟩ := hr.ne (by omega)
    have hcan : ∀ j, j < ys.length → (w.cell? ⟨g, o0 + off + j, none⟩).isSome = true ∧ w.frozen? ⟨g, o0 + off + j, none⟩ = false := fun j hj => by
      obtain ⟨_, e1, h3, h4⟩ := ho.can (off + j) (by have := ho.nc; omega)
      cases e1
      rw [Addr.add_lit] at h3 h4
      rw [Nat.add_assoc]
      exact ⟨h3, h4⟩
    have hrun := run_copy_cells (P := P) w t t ty e g (o0 + off) dLen dCap xad m cx ys T.und hs (by rw [hl]; exact (Nat.min_eq_left hm).symm) (fun j v hj => hr.get hj) (fun j hj => (hcan j hj).1) (fun j hj => (hcan j hj).2) h1
    rw [hl] at hrun
    refine ⟨_, hrun, ?_, ?_⟩
    · have := Own.setCells ys off w cs ho (by omega)
      rwa [hl] at this
    · exact Ext.setCells g (o0 + off) ys w ⟨_, rfl, rfl⟩

theorem wpList_copy {ops : Array Oper} {rest : List Oper} {o : Oper} {a : Act} {Q : Exit → Act → World → Prop} {t e : TypeId} {z : Value} {by' : Nat} (T : SlT P t e z 1 by')
    (hgd : o.guard = none) {d s : Operand} (hop : o.op = .call { callee := .builtin .copy, args := #[d, s], argTypes := #[t, t] })
    {B n c : Nat} {ad : Addr} {cs : List Value} (ho : Own w B (some ad) 1 n c cs) {dp : Option Addr} {off dLen dCap : Nat} {xa : Option Addr} {m cx : Nat} {ys : List Value}
    (hd : a.eval d = .slice dp dLen dCap) (hs : a.eval s = .slice xa m cx) (hdp : 0 < m → dp = some (ad.add off)) (hr : Rd w xa ys) (hl : ys.length = m) (h1 : ∀ u ∈ ys, u.oneCell' = true) (hm : m ≤ dLen) (hfit : off + m ≤ n)
    (h : ∀ w', Own w' B (some ad) 1 n c (cs.take off ++ ys ++ cs.drop (off + m)) → Ext (blk (some ad)) w w' → wpList P ops Q rest (a.put o.dst (.int .i64 m)) w') :
    wpList P ops Q (o :: rest) a w := by
  obtain ⟨w', hrun, h2, h3⟩ := run_copy_own (P := P) (ty := o.type) T ho (dCap := dCap) (cx := cx) hdp hr hl h1 hm hfit
  refine wpList_plain hgd fun K hK => ?_
  unfold Oper.wp execOp
  simp only [hop, resolve, invoke, builtin, Sem.run_bind, Sem.run_pure, Result.andThen_ok, List.map_toArray, List.map_cons, List.map_nil, hd, hs, hrun]
  exact hK _ _ (h _ h2 h3)

theorem run_make_z {t e : TypeId} {z : Value} {by' : Nat} (T : SlT P t e z 1 by') (hzc : z.cells = #[z]) {k1 k2 : IntKind} {n : Nat} (w : World) (B : Nat) (hB : B ≤ w.heap.size) (hb : by' * n ≤ 281474976710656) (h63 : n ≤ maxLen) :
    ∃ w', (Instr.makeSlice t (.int k1 n) (.int k2 n)).run P w = .ok (.slice (some ⟨w.heap.size, 0, none⟩) n n) w' ∧ Own w' B (some ⟨w.heap.size, 0, none⟩) 1 n n (List.replicate n z) ∧ Ext no w w' := by
  obtain ⟨i, hi, hz, hk, hbb⟩ := info_parts T.info
  have hm63 : n ≤ 9223372036854775807 := h63
  have hb' : (i.bytes : Int) * (n : Int) ≤ 281474976710656 := by
    have := Int.ofNat_le.2 hb
    rw [Int.natCast_mul] at this
    rw [hbb]
    generalize (by' : Int) * (n : Int) = q at *
    omega
  have hrun := run_make (P := P) w t e i z T.und hi hz k1 k2 n n (by omega) (Int.le_refl _) hb' (by omega)
  rw [hk] at hrun
  simp only [Int.toNat_natCast, Nat.mul_one] at hrun
  refine ⟨_, hrun, ?_, Ext.alloc no w _⟩
  refine Own.fresh w B 1 n n _ e (0, 0) _ hB (by simp) (Nat.le_refl _) h63 (by rw [size_madeCells, Nat.mul_one]) ?_ (.inl (Nat.le_refl _))
  rw [Nat.mul_one, hzc]
  apply List.ext_getElem
  · simp [madeCells]
  · intro j h1 h2
    simp [madeCells, Nat.mod_one]

theorem wpList_make_z {ops : Array Oper} {rest : List Oper} {o : Oper} {a : Act} {Q : Exit → Act → World → Prop} {t e : TypeId} {z : Value} {by' : Nat} (T : SlT P t e z 1 by') (hzc : z.cells = #[z])
    (hgd : o.guard = none) {l c : Operand} (hop : o.op = .makeSlice t l c) {k1 k2 : IntKind} {n1 n2 : Int} (n : Nat) (hl : a.eval l = .int k1 n1) (hc : a.eval c = .int k2 n2) (e1 : n1 = n) (e2 : n2 = n) (B : Nat) (hB : B ≤ w.heap.size) (hb : by' * n ≤ 281474976710656) (h63 : n ≤ maxLen)
    (h : ∀ ad w', Own w' B (some ad) 1 n n (List.replicate n z) → Ext no w w' → wpList P ops Q rest (a.put o.dst (.slice (some ad) n n)) w') :
    wpList P ops Q (o :: rest) a w := by
  subst e1 e2
  obtain ⟨w', hrun, h2, h3⟩ := run_make_z (P := P) (k1 := k1) (k2 := k2) T hzc w B hB hb h63
  refine wpList_plain hgd fun K hK => ?_
  unfold Oper.wp execOp
  simp only [hop, hl, hc, Sem.run_bind, Sem.run_pure, Result.andThen_ok, hrun]
  exact hK _ _ (h _ _ h2 h3)
end
end Go.Esc

/- Rows of records: slices whose elements have k cells each; copying, making, appending such: of no program. -/
namespace Go.Esc
open Go.RowKit

def rows {α : Type} (f : α → List Value) (l : List α) : List Value := l.flatMap f

section
variable {α : Type} {f : α → List Value} {k : Nat} {w w' : World}

theorem rows_nil : rows f [] = [] := rfl
theorem rows_cons (x : α) (l : List α) : rows f (x :: l) = f x ++ rows f l := by simp [rows]
theorem rows_one (x : α) : rows f [x] = f x := by simp [rows]
theorem rows_append (l m : List α) : rows f (l ++ m) = rows f l ++ rows f m := by simp [rows]
theorem rows_length (hk : ∀ x, (f x).length = k) (l : List α) : (rows f l).length = l.length * k := by
  induction l with
  | nil => simp [rows]
  | cons x l ih => rw [rows_cons, List.length_append, ih, hk, List.length_cons, Nat.add_mul, Nat.one_mul, Nat.add_comm]
theorem rows_take (hk : ∀ x, (f x).length = k) (l : List α) (n : Nat) : (rows f l).take (n * k) = rows f (l.take n) := by
  induction l generalizing n with
  | nil => simp [rows]
  | cons x l ih =>
    cases n with
    | zero => simp [rows]
    | succ n =>
      rw [List.take_succ_cons, rows_cons, rows_cons, ← ih n, List.take_append, hk, List.take_of_length_le (by rw [hk, Nat.add_mul]; omega), show (n + 1) * k - k = n * k by rw [Nat.add_mul]; omega]
theorem rows_drop (hk : ∀ x, (f x).length = k) (l : List α) (n : Nat) : (rows f l).drop (n * k) = rows f (l.drop n) := by
  induction l generalizing n with
  | nil => simp [rows]
  | cons x l ih =>
    cases n with
    | zero => simp [rows]
    | succ n =>
      rw [List.drop_succ_cons, rows_cons, ← ih n, List.drop_append, hk, List.drop_of_length_le (by rw [hk, Nat.add_mul]; omega), List.nil_append, show (n + 1) * k - k = n * k by rw [Nat.add_mul]; omega]
theorem rows_get (hk : ∀ x, (f x).length = k) (l : List α) (n : Nat) (x : α) (h : l[n]? = some x) (m : Nat) (v : Value) (hm : (f x)[m]? = some v) : (rows f l)[n * k + m]? = some v := by
  have hm3 : m < k := by have := (List.getElem?_eq_some_iff.1 hm).1; rw [hk] at this; exact this
  induction l generalizing n with
  | nil => simp at h
  | cons c l ih =>
    rw [rows_cons]
    cases n with
    | zero =>
      simp at h
      subst h
      rw [Nat.zero_mul, Nat.zero_add, List.getElem?_append_left (by rw [hk]; exact hm3)]
      exact hm
    | succ n =>
      rw [List.getElem?_append_right (by rw [hk, Nat.add_mul]; omega), show (n + 1) * k + m - (f c).length = n * k + m by rw [hk, Nat.add_mul]; omega]
      exact ih n (by simpa using h)
theorem rows_cell (hk : ∀ x, (f x).length = k) {b o : Nat} {l : List α} {n : Nat} {x : α} (h : Rd w (some ⟨b, o, none⟩) (rows f l)) (hx : l[n]? = some x) : ∀ m v, (f x)[m]? = some v → w.cell? ⟨b, o + n * k + m, none⟩ = some v := by
  intro m v hm
  obtain ⟨ad, hs, hc⟩ := h (n * k + m) v (rows_get hk l n x hx m v hm)
  cases hs
  rw [Addr.add_lit] at hc
  rw [Nat.add_assoc]
  exact hc
theorem rows_shape (hk : ∀ x, (f x).length = k) (hk0 : 0 < k) {a : Option Addr} {l : List α} (h : Rd w a (rows f l)) (hl : 0 < l.length) : ∃ b off, a = some ⟨b, off, none⟩ ∧ b < w.heap.size :=
  h.shape (by rw [rows_length hk]; exact Nat.mul_pos hl hk0)
theorem rows_one' (h1 : ∀ x, ∀ u ∈ f x, u.oneCell' = true) (l : List α) : ∀ u ∈ rows f l, u.oneCell' = true := by
  intro u hu
  obtain ⟨x, _, hx⟩ := List.mem_flatMap.1 hu
  exact h1 x u hx
end

section
variable {P : Program} {w w' : World}

theorem run_copy_cellsK {k : Nat} (w : World) (dT sT ty elem : TypeId) (b o dLen dCap : Nat) (a : Addr) (sLen sCap : Nat) (cs : List Value)
    (hu : P.underlying dT = some (.slice elem)) (hs : (P.info? elem).map (·.size) = some k) (hn : cs.length = Nat.min sLen dLen * k)
    (hsrc : ∀ j v, cs[j]? = some v → w.cell? (a.add j) = some v) (hc : ∀ j, j < cs.length → (w.cell? ⟨b, o + j, none⟩).isSome = true) (hf : ∀ j, j < cs.length → w.frozen? ⟨b, o + j, none⟩ = false) (h1 : ∀ v ∈ cs, v.oneCell' = true) :
    (Builtin.copy_ #[dT, sT] ty #[.slice (some ⟨b, o, none⟩) dLen dCap, .slice (some a) sLen sCap]).run P w = .ok (goInt (Nat.min sLen dLen)) (w.setCells b o cs) := by
  have hl := run_loadCells_list (P := P) w a cs hsrc
  have hst := run_storeCells_cells (P := P) b o cs 0 w (by simpa using hc) (by simpa using hf) h1
  cases hq : P.info? elem with
  | none => simp [hq] at hs
  | some i =>
    have hi : i.size = k := by simpa [hq] using hs
    rw [hn] at hl
    simp [Builtin.copy_, run_underlying hu, Builtin.lenOf, Builtin.firstCells, sizeOf, typeInfo, hq, hi, hl, hst]

theorem Own.setCellsK {B n c k g o0 : Nat} : ∀ (ys : List Value) (off : Nat) (w : World) (cs : List Value), Own w B (some ⟨g, o0, none⟩) k n c cs → off + ys.length ≤ n * k →
    Own (w.setCells g (o0 + off) ys) B (some ⟨g, o0, none⟩) k n c (cs.take off ++ ys ++ cs.drop (off + ys.length))
  | [], off, w, cs, h, _ => by simpa [World.setCells] using h
  | v :: ys, off, w, cs, h, hl => by
    rw [List.length_cons] at hl
    have h1 := h.set off (by omega) v
    rw [Addr.add_lit] at h1
    have h2 := Own.setCellsK ys (off + 1) _ _ h1 (by omega)
    have hlen : off < cs.length := by have := h.len; omega
    simp only [World.setCells]
    have e1 : (cs.set off v).take (off + 1) = cs.take off ++ [v] := by
      rw [List.take_succ_eq_append_getElem (by simpa using hlen), List.getElem_set_self, List.take_set_of_le (Nat.le_refl _)]
    have e2 : (cs.set off v).drop (off + 1 + ys.length) = cs.drop (off + (ys.length + 1)) := by
      rw [List.drop_set_of_lt (by omega)]
      congr 1; omega
    rw [e1, e2] at h2
    rw [List.length_cons, show cs.take off ++ v :: ys = cs.take off ++ [v] ++ ys from by simp, show o0 + off + 1 = o0 + (off + 1) from by omega]
    exact h2

/-- copy into an owned slice, at element off; what is read may lie in the same one. -/
theorem run_copy_ownK {t ty e : TypeId} {z : Value} {k by' : Nat} (T : SlT P t e z k by') {B n c : Nat} {ad : Addr} {cs : List Value} (ho : Own w B (some ad) k n c cs) {dp : Option Addr} {off dLen dCap : Nat}
    {xa : Option Addr} {sl m cx : Nat} {ys : List Value} (hm : Nat.min sl dLen = m) (hdp : 0 < m → dp = some (ad.add (off * k))) (hr : Rd w xa ys) (hl : ys.length = m * k) (h1 : ∀ u ∈ ys, u.oneCell' = true) (hfit : off + m ≤ n) :
    ∃ w', (Builtin.copy_ #[t, t] ty #[.slice dp dLen dCap, .slice xa sl cx]).run P w = .ok (goInt m) w' ∧ Own w' B (some ad) k n c (cs.take (off * k) ++ ys ++ cs.drop ((off + m) * k)) ∧ Ext (blk (some ad)) w w' := by
  have hs : (P.info? e).map (·.size) = some k := by
    obtain ⟨i, hi, _, hk, _⟩ := info_parts T.info
    simp [hi, hk]
  by_cases h0 : m = 0
  · subst h0
    obtain rfl : ys = [] := List.eq_nil_of_length_eq_zero (by simpa using hl)
    refine ⟨w, ?_, by simpa using ho, Ext.refl _ _⟩
    cases hq : P.info? e with
    | none => simp [hq] at hs
    | some i =>
      have hll : ∀ (x : Addr), (loadCells x 0).run P w = .ok #[] w := fun x => by simpa using run_loadCells_list (P := P) w x [] (by simp)
      cases dp <;> cases xa <;> simp [Builtin.copy_, run_underlying T.und, Builtin.lenOf, Builtin.firstCells, sizeOf, typeInfo, hq, hm, storeCells, hll]
  · have hk0 := T.k0
    obtain ⟨_, _, hsp⟩ := ho.base ad rfl
    obtain ⟨g, o0, sp⟩ := ad
    simp only at hsp
    subst hsp
    have hd := hdp (by omega)
    rw [Addr.add_lit] at hd
    subst hd
    obtain ⟨xad, rfl, _⟩ := hr.ne (by rw [hl]; exact Nat.mul_pos (by omega) hk0)
    have hle : off * k + ys.length ≤ n * k := by rw [hl, ← Nat.add_mul]; exact Nat.mul_le_mul_right _ hfit
    have hnc : n * k ≤ c * k := Nat.mul_le_mul_right _ ho.nc
    have hcan : ∀ j, j < ys.length → (w.cell? ⟨g, o0 + off * k + j, none⟩).isSome = true ∧ w.frozen? ⟨g, o0 + off * k + j, none⟩ = false := fun j hj => by
      obtain ⟨_, e1, h3, h4⟩ := ho.can (off * k + j) (by omega)
      cases e1
      rw [Addr.add_lit] at h3 h4
      rw [Nat.add_assoc]
      exact ⟨h3, h4⟩
    have hrun := run_copy_cellsK (P := P) w t t ty e g (o0 + off * k) dLen dCap xad sl cx ys T.und hs (by rw [hl, hm]) (fun j v hj => hr.get hj) (fun j hj => (hcan j hj).1) (fun j hj => (hcan j hj).2) h1
    rw [hm] at hrun
    refine ⟨_, hrun, ?_, ?_⟩
    · have := Own.setCellsK ys (off * k) w cs ho hle
      rwa [hl, ← Nat.add_mul] at this
    · exact Ext.setCells g (o0 + off * k) ys w ⟨_, rfl, rfl⟩

theorem wpList_copyK {ops : Array Oper} {rest : List Oper} {o : Oper} {a : Act} {Q : Exit → Act → World → Prop} {t e : TypeId} {z : Value} {k by' : Nat} (T : SlT P t e z k by')
    (hgd : o.guard = none) {d s : Operand} (hop : o.op = .call { callee := .builtin .copy, args := #[d, s], argTypes := #[t, t] })
    {B n c : Nat} {ad : Addr} {cs : List Value} (ho : Own w B (some ad) k n c cs) {dp : Option Addr} {off dLen dCap : Nat} {xa : Option Addr} {sl m cx : Nat} {ys : List Value}
    (hd : a.eval d = .slice dp dLen dCap) (hs : a.eval s = .slice xa sl cx) (hm : Nat.min sl dLen = m) (hdp : 0 < m → dp = some (ad.add (off * k))) (hr : Rd w xa ys) (hl : ys.length = m * k) (h1 : ∀ u ∈ ys, u.oneCell' = true) (hfit : off + m ≤ n)
    (h : ∀ w', Own w' B (some ad) k n c (cs.take (off * k) ++ ys ++ cs.drop ((off + m) * k)) → Ext (blk (some ad)) w w' → wpList P ops Q rest (a.put o.dst (.int .i64 m)) w') :
    wpList P ops Q (o :: rest) a w := by
  obtain ⟨w', hrun, h2, h3⟩ := run_copy_ownK (P := P) (ty := o.type) T ho (dCap := dCap) (cx := cx) hm hdp hr hl h1 hfit
  refine wpList_plain hgd fun K hK => ?_
  unfold Oper.wp execOp
  simp only [hop, resolve, invoke, builtin, Sem.run_bind, Sem.run_pure, Result.andThen_ok, List.map_toArray, List.map_cons, List.map_nil, hd, hs, hrun]
  exact hK _ _ (h _ h2 h3)

/-- append of m zero elements where there is no room: a new row. -/
theorem run_append_made {t u ty e : TypeId} {z : Value} {k by' : Nat} {ik : IntKind} (T : SlT P t e z k by') (hu : P.underlying u = some (.int ik))
    {B n c : Nat} {sa : Option Addr} {xs : List Value} (ho : Own w B sa k n c xs) {m : Nat} (hpos : 0 < m) (hroom : c < n + m) (h63 : n + m ≤ maxLen) (hby : (n + m) * by' ≤ 140737488355328) (hB : B ≤ w.heap.size) :
    ∃ zs c' w', (Builtin.append_ #[t, u] ty #[.slice sa n c, .int .i64 m]).run P w = .ok (.slice (some ⟨w.heap.size, 0, none⟩) (n + m) c') w' ∧ Own w' B (some ⟨w.heap.size, 0, none⟩) k (n + m) c' (xs ++ zs) ∧ zs.length = m * k ∧ Ext no w w' := by
  obtain ⟨i, hi, hz, hk, hb⟩ := info_parts T.info
  have hund := T.und
  have hm63 : n + m ≤ 9223372036854775807 := h63
  have hk0 := T.k0
  have hw : IntKind.i64.wrap (m : Int) = m := by rw [IntKind.wrap_i64]; omega
  have hnn : ¬ ((m : Int) < 0) := by omega
  have h63' : ¬ (9223372036854775807 < ((n : Int) + (m : Int))) := by omega
  have hn : ¬ (n + m ≤ c) := by omega
  have h48' : ¬ (281474976710656 < Builtin.nextslicecap (n + m) c * by') := by have := growslice_fits (need := n + m) (old := c) (by omega) hby; omega
  have h48 : ¬ (281474976710656 < (m : Int) * by') := by
    have h2 : m * by' ≤ (n + m) * by' := Nat.mul_le_mul_right _ (by omega)
    have := Int.ofNat_le.2 (Nat.le_trans h2 hby)
    rw [Int.natCast_mul] at this
    generalize (m : Int) * (by' : Int) = q at *
    omega
  have hfo : (Builtin.firstCells k n (.slice sa n c)).run P w.drew = .ok xs.toArray w.drew := by
    cases sa with
    | none =>
      have hx0 : xs = [] := by
        cases xs with
        | nil => rfl
        | cons v vs => obtain ⟨_, h, _⟩ := ho.rd 0 v rfl; cases h
      subst hx0
      exact run_firstCells_none _ _ _ _ _
    | some b => exact run_firstCells_some (P := P) w.drew k n b n c xs (by rw [ho.len]) (fun j v hj => by simpa using ho.rd.get hj)
  have hzl : (Builtin.zeroCells z.cells m).toList.length = m * k := by rw [Array.length_toList, size_zeroCells, T.zk]
  refine ⟨(Builtin.zeroCells z.cells m).toList, grownCap w (n + m) c e, w.drew.alloc (.cells (xs.toArray ++ Builtin.zeroCells z.cells m ++ Builtin.zeroCells z.cells (grownCap w (n + m) c e - (n + m))) e), ?_, ?_, hzl, (Ext.drew no w).comp (Ext.alloc no _ _)⟩
  · simp [Builtin.append_, run_underlying hund, run_underlying hu, sizeOf, typeInfo, zeroValue, hi, hz, hk, hb, asInt, asIntOf, hw, hnn, h48, hn, h63', h48', Question.forced, hfo, newRow, grownCap]
    intro h0
    exact absurd h0 (Nat.ne_of_gt (Nat.mul_pos hpos hk0))
  · have hge := grownCap_ge w (n + m) c e
    refine Own.fresh w.drew B k (n + m) _ (xs ++ (Builtin.zeroCells z.cells m).toList) e (0, 0) _ hB (by rw [List.length_append, ho.len, hzl, Nat.add_mul]) hge (grownCap_le_maxLen _ _ _ _ h63) ?_ ?_ (.inl (Nat.le_refl _))
    · simp only [Array.size_append, List.size_toArray, size_zeroCells, T.zk, ho.len, ← Nat.add_mul]
      congr 1; omega
    · simp only [Array.toList_append, List.append_assoc]
      rw [← List.append_assoc]
      have hl2 : (xs ++ (Builtin.zeroCells z.cells m).toList).length = (n + m) * k := by rw [List.length_append, ho.len, hzl, Nat.add_mul]
      rw [← hl2]
      exact List.take_left

theorem wpList_append_made {ops : Array Oper} {rest : List Oper} {o : Oper} {a : Act} {Q : Exit → Act → World → Prop} {t u e : TypeId} {z : Value} {k by' : Nat} {ik : IntKind} (T : SlT P t e z k by')
    (hgd : o.guard = none) {s x : Operand} (hop : o.op = .call { callee := .builtin .append, args := #[s, x], argTypes := #[t, u] }) (hu : P.underlying u = some (.int ik))
    {B n c : Nat} {sa : Option Addr} {xs : List Value} (ho : Own w B sa k n c xs) {m : Nat} {mi : Int} (hs : a.eval s = .slice sa n c) (hx : a.eval x = .int .i64 mi) (hmi : mi = m) (hpos : 0 < m) (hroom : c < n + m) (h63 : n + m ≤ maxLen) (hby : (n + m) * by' ≤ 140737488355328) (hB : B ≤ w.heap.size)
    (h : ∀ zs c' w', Own w' B (some ⟨w.heap.size, 0, none⟩) k (n + m) c' (xs ++ zs) → zs.length = m * k → Ext no w w' → wpList P ops Q rest (a.put o.dst (.slice (some ⟨w.heap.size, 0, none⟩) (n + m) c')) w') :
    wpList P ops Q (o :: rest) a w := by
  subst hmi
  obtain ⟨zs, c', w', hrun, h2, h3, h4⟩ := run_append_made (P := P) (ty := o.type) T hu ho hpos hroom h63 hby hB
  refine wpList_plain hgd fun K hK => ?_
  unfold Oper.wp execOp
  simp only [hop, resolve, invoke, builtin, Sem.run_bind, Sem.run_pure, Result.andThen_ok, List.map_toArray, List.map_cons, List.map_nil, hs, hx, hrun]
  exact hK _ _ (h _ _ _ h2 h3 h4)

/-- The block of an owned slice that holds something. -/
theorem Own.shapeOf {B k n c : Nat} {ad : Addr} {cs : List Value} (h : Own w B (some ad) k n c cs) (hc : 0 < c * k) : ∃ t m, w.shape? ad.block = some (t, m) ∧ m ≠ 0 := by
  obtain ⟨_, e, h1, _⟩ := h.can 0 hc
  cases e
  have hs : ad.add 0 = ad := by simp [Addr.add]
  rw [hs] at h1
  unfold World.cell? at h1
  unfold World.shape?
  cases hq : w.heap[ad.block]? with
  | none => simp [hq] at h1
  | some ob =>
    cases ob with
    | cells c e fr =>
      refine ⟨_, _, rfl, ?_⟩
      simp only [hq] at h1
      split at h1
      · simp at h1
      · intro hz
        rw [Array.getElem?_eq_none (by omega)] at h1
        simp at h1
    | _ => simp [hq] at h1
end
end Go.Esc

/- Lists in order, plainly: where something is, what is laid there. -/
namespace Go.Esc
open Go.RowKit
set_option linter.unusedSectionVars false

structure Order {K : Type} (lt : K → K → Bool) : Prop where
  irr : ∀ a, lt a a = false
  tr : ∀ {a b c}, lt a b = true → lt b c = true → lt a c = true
  tot : ∀ {a b}, lt a b = false → lt b a = false → a = b

theorem Order.asym {K : Type} {lt : K → K → Bool} (h : Order lt) {a b : K} (hab : lt a b = true) : lt b a = false := by
  cases e : lt b a with
  | false => rfl
  | true => have := h.tr hab e; rw [h.irr] at this; cases this
/-- What stands at most where something stands that is less, is less. -/
theorem Order.le_lt {K : Type} {lt : K → K → Bool} (h : Order lt) {a b c : K} (hab : lt b a = false) (hbc : lt b c = true) : lt a c = true := by
  cases e : lt a b with
  | true => exact h.tr e hbc
  | false => rw [h.tot e hab]; exact hbc

def intLt (a b : Int) : Bool := decide (a < b)
theorem intOrd : Order intLt := ⟨fun a => by simp [intLt], fun {a b c} h1 h2 => by simp [intLt] at *; omega, fun {a b} h1 h2 => by simp [intLt] at *; omega⟩
theorem bytesOrd : Order Op.bytesLess := by
  refine ⟨?_, ?_, ?_⟩
  · intro a
    induction a with
    | nil => rfl
    | cons x l ih => simp only [Op.bytesLess, ih, Bool.and_false, Bool.or_false, decide_eq_false_iff_not]; exact fun h => absurd h (by simp)
  · intro a
    induction a with
    | nil =>
      intro b c h1 h2
      cases b with
      | nil => simp [Op.bytesLess] at h1
      | cons y b =>
        cases c with
        | nil => simp [Op.bytesLess] at h2
        | cons z c => rfl
    | cons x a ih =>
      intro b c h1 h2
      cases b with
      | nil => simp [Op.bytesLess] at h1
      | cons y b =>
        cases c with
        | nil => simp [Op.bytesLess] at h2
        | cons z c =>
          simp only [Op.bytesLess, Bool.or_eq_true, Bool.and_eq_true, decide_eq_true_eq, beq_iff_eq] at *
          rcases h1 with h1 | ⟨rfl, h1⟩
          · rcases h2 with h2 | ⟨rfl, h2⟩
            · exact .inl (UInt8.lt_trans h1 h2)
            · exact .inl h1
          · rcases h2 with h2 | ⟨rfl, h2⟩
            · exact .inl h2
            · exact .inr ⟨rfl, ih h1 h2⟩
  · intro a
    induction a with
    | nil =>
      intro b h1 h2
      cases b with
      | nil => rfl
      | cons y b => simp [Op.bytesLess] at h1
    | cons x a ih =>
      intro b h1 h2
      cases b with
      | nil => simp [Op.bytesLess] at h2
      | cons y b =>
        simp only [Op.bytesLess, Bool.or_eq_false_iff, Bool.and_eq_false_iff, decide_eq_false_iff_not, beq_eq_false_iff_ne] at *
        obtain ⟨h1, h3⟩ := h1
        obtain ⟨h2, h4⟩ := h2
        have e : x = y := UInt8.le_antisymm (UInt8.not_lt.1 h2) (UInt8.not_lt.1 h1)
        subst e
        rw [ih (h3.resolve_left (fun h => h rfl)) (h4.resolve_left (fun h => h rfl))]
theorem dotOrd : Order DotR.lt := by
  refine ⟨fun a => ?_, fun {a b c} h1 h2 => ?_, fun {a b} h1 h2 => ?_⟩
  · cases e : a.lt a with
    | false => rfl
    | true => rw [DotR.lt_def] at e; omega
  · rw [DotR.lt_def] at *; omega
  · have g1 : ¬ a.lt b = true := by rw [h1]; simp
    have g2 : ¬ b.lt a = true := by rw [h2]; simp
    rw [DotR.lt_def] at g1 g2
    cases a; cases b
    simp only [DotR.mk.injEq]
    simp only at g1 g2
    omega
/-- One order, then another one. -/
def lexLt {K L : Type} [DecidableEq K] (f : K → K → Bool) (g : L → L → Bool) (a b : K × L) : Bool := f a.1 b.1 || (decide (a.1 = b.1) && g a.2 b.2)
theorem Order.lex {K L : Type} [DecidableEq K] {f : K → K → Bool} {g : L → L → Bool} (hf : Order f) (hg : Order g) : Order (lexLt f g) := by
  refine ⟨fun a => ?_, fun {a b c} h1 h2 => ?_, fun {a b} h1 h2 => ?_⟩
  · simp [lexLt, hf.irr, hg.irr]
  · simp only [lexLt, Bool.or_eq_true, Bool.and_eq_true, decide_eq_true_eq] at *
    rcases h1 with h1 | ⟨e1, h1⟩
    · rcases h2 with h2 | ⟨e2, h2⟩
      · exact .inl (hf.tr h1 h2)
      · exact .inl (e2 ▸ h1)
    · rcases h2 with h2 | ⟨e2, h2⟩
      · exact .inl (e1 ▸ h2)
      · exact .inr ⟨e1.trans e2, hg.tr h1 h2⟩
  · simp only [lexLt, Bool.or_eq_false_iff, Bool.and_eq_false_iff, decide_eq_false_iff_not] at *
    have e := hf.tot h1.1 h2.1
    exact Prod.ext e (hg.tot (h1.2.resolve_left (fun h => h e)) (h2.2.resolve_left (fun h => h e.symm)))

section
variable {α K : Type} [DecidableEq K] (κ : α → K) (lt : K → K → Bool)

def posOf (key : K) (l : List α) : Nat := (l.takeWhile (fun x => lt (κ x) key)).length
def look (key : K) (l : List α) : Option α := l.find? (fun x => decide (κ x = key))
/-- In order (what is alike may stand side by side). -/
def InOrd (l : List α) : Prop := l.Pairwise (fun a b => lt (κ b) (κ a) = false)
def putAt (n : Nat) (x : α) (l : List α) : List α := l.take n ++ [x] ++ l.drop n
/-- Is what stands at the place what is looked for? -/
def isAt (key : K) (l : List α) : Bool := match l[posOf κ lt key l]? with
  | some x => decide (κ x = key)
  | none => false

variable {κ lt}
theorem posOf_le (key : K) (l : List α) : posOf κ lt key l ≤ l.length := (List.takeWhile_sublist _).length_le
theorem posOf_cons (key : K) (x : α) (l : List α) : posOf κ lt key (x :: l) = if lt (κ x) key = true then posOf κ lt key l + 1 else 0 := by
  unfold posOf
  rw [List.takeWhile_cons]
  split <;> simp
theorem InOrd.cons {x : α} {l : List α} (h : InOrd κ lt (x :: l)) : InOrd κ lt l ∧ ∀ y ∈ l, lt (κ y) (κ x) = false := by
  unfold InOrd at *
  rw [List.pairwise_cons] at h
  exact ⟨h.2, h.1⟩
/-- What the binary search stands on. -/
theorem less_iff (ho : Order lt) (key : K) (l : List α) (h : InOrd κ lt l) (j : Nat) (x : α) (hj : l[j]? = some x) : lt (κ x) key = true ↔ j < posOf κ lt key l := by
  induction l generalizing j with
  | nil => simp at hj
  | cons y l ih =>
    obtain ⟨h1, h2⟩ := h.cons
    rw [posOf_cons]
    by_cases hy : lt (κ y) key = true
    · rw [if_pos hy]
      cases j with
      | zero => simp at hj; subst hj; simp [hy]
      | succ j => rw [ih h1 j (by simpa using hj)]; omega
    · rw [if_neg hy]
      cases j with
      | zero => simp at hj; subst hj; simp [hy]
      | succ j =>
        have hx := h2 x (List.mem_of_getElem? (by simpa using hj : l[j]? = some x))
        constructor
        · intro hxk; exact absurd (ho.le_lt hx hxk) hy
        · intro hlt; omega
theorem look_at (ho : Order lt) (key : K) (l : List α) (h : InOrd κ lt l) : look κ key l = if isAt κ lt key l = true then l[posOf κ lt key l]? else none := by
  induction l with
  | nil => simp [look, isAt, posOf]
  | cons y l ih =>
    obtain ⟨h1, h2⟩ := h.cons
    have hl : look κ key (y :: l) = if κ y = key then some y else look κ key l := by
      unfold look; rw [List.find?_cons]; split <;> simp_all
    rw [hl]
    by_cases hy : lt (κ y) key = true
    · have hne : ¬ κ y = key := fun e => by rw [e, ho.irr] at hy; cases hy
      rw [if_neg hne, ih h1]
      have e1 : isAt κ lt key (y :: l) = isAt κ lt key l := by unfold isAt; rw [posOf_cons, if_pos hy, List.getElem?_cons_succ]
      rw [e1, posOf_cons, if_pos hy, List.getElem?_cons_succ]
    · have e1 : posOf κ lt key (y :: l) = 0 := by rw [posOf_cons, if_neg hy]
      have e2 : isAt κ lt key (y :: l) = decide (κ y = key) := by unfold isAt; rw [e1]; rfl
      rw [e2, e1]
      by_cases he : κ y = key
      · simp [he]
      · rw [if_neg he]
        simp only [he, decide_false, Bool.false_eq_true, if_false]
        unfold look
        rw [List.find?_eq_none]
        intro x hx
        simp only [decide_eq_true_eq]
        intro e
        have := h2 x hx
        rw [e] at this
        exact he (ho.tot (by simpa using hy) this)
theorem isAt_iff (ho : Order lt) (key : K) (l : List α) (h : InOrd κ lt l) : isAt κ lt key l = true ↔ ∃ x, look κ key l = some x := by
  rw [look_at ho key l h]
  constructor
  · intro hi
    rw [if_pos hi]
    unfold isAt at hi
    cases hq : l[posOf κ lt key l]? with
    | none => rw [hq] at hi; simp at hi
    | some x => exact ⟨x, rfl⟩
  · rintro ⟨x, hx⟩
    split at hx
    · assumption
    · cases hx
theorem InOrd.putAt {x : α} {l : List α} (ho : Order lt) (h : InOrd κ lt l) : InOrd κ lt (putAt (posOf κ lt (κ x) l) x l) := by
  induction l with
  | nil => simp [Esc.putAt, InOrd, posOf]
  | cons y l ih =>
    obtain ⟨h1, h2⟩ := h.cons
    rw [posOf_cons]
    by_cases hy : lt (κ y) (κ x) = true
    · rw [if_pos hy]
      have e : Esc.putAt (posOf κ lt (κ x) l + 1) x (y :: l) = y :: Esc.putAt (posOf κ lt (κ x) l) x l := by simp [Esc.putAt]
      rw [e]
      refine List.pairwise_cons.2 ⟨fun z hz => ?_, ih h1⟩
      unfold Esc.putAt at hz
      simp only [List.mem_append, List.mem_singleton] at hz
      rcases hz with (hz | rfl) | hz
      · exact h2 z (List.mem_of_mem_take hz)
      · exact ho.asym hy
      · exact h2 z (List.mem_of_mem_drop hz)
    · rw [if_neg hy]
      have e : Esc.putAt 0 x (y :: l) = x :: y :: l := by simp [Esc.putAt]
      rw [e]
      refine List.pairwise_cons.2 ⟨fun z hz => ?_, h⟩
      rcases List.mem_cons.1 hz with rfl | hz
      · simpa using hy
      · cases e2 : lt (κ z) (κ x) with
        | false => rfl
        | true => exact absurd (ho.le_lt (h2 z hz) e2) hy
theorem InOrd.set {x : α} {l : List α} (h : InOrd κ lt l) (n : Nat) (y : α) (hn : l[n]? = some y) (he : κ x = κ y) : InOrd κ lt (l.set n x) := by
  unfold InOrd at *
  rw [List.pairwise_iff_getElem] at *
  intro i j hi hj hij
  have hi' : i < l.length := by simpa using hi
  have hj' : j < l.length := by simpa using hj
  have hk : ∀ m (hm : m < l.length), κ ((l.set n x)[m]'(by simpa using hm)) = κ l[m] := by
    intro m hm
    rw [List.getElem_set]
    split
    · rename_i e
      subst e
      rw [List.getElem?_eq_getElem hm] at hn
      cases hn
      exact he
    · rfl
  rw [hk i hi', hk j hj']
  exact h i j hi' hj' hij
theorem look_putAt (ho : Order lt) {x : α} {l : List α} (h : InOrd κ lt l) (key : K) : look κ key (putAt (posOf κ lt (κ x) l) x l) = if key = κ x then some x else look κ key l := by
  induction l with
  | nil => simp [putAt, look, posOf]; split <;> simp_all [eq_comm]
  | cons y l ih =>
    obtain ⟨h1, h2⟩ := h.cons
    have hl : ∀ (y : α) (l : List α), look κ key (y :: l) = if κ y = key then some y else look κ key l := by
      intro y l; unfold look; rw [List.find?_cons]; split <;> simp_all
    rw [posOf_cons]
    by_cases hy : lt (κ y) (κ x) = true
    · rw [if_pos hy]
      have e : putAt (posOf κ lt (κ x) l + 1) x (y :: l) = y :: putAt (posOf κ lt (κ x) l) x l := by simp [putAt]
      rw [e, hl, ih h1, hl]
      have hne : κ y ≠ κ x := fun e => by rw [e, ho.irr] at hy; cases hy
      by_cases e1 : κ y = key
      · rw [if_pos e1, if_pos e1, if_neg (fun e2 => hne (e1.trans e2))]
      · rw [if_neg e1, if_neg e1]
    · rw [if_neg hy]
      have e : putAt 0 x (y :: l) = x :: y :: l := by simp [putAt]
      rw [e, hl]
      by_cases e1 : key = κ x
      · rw [if_pos e1, if_pos e1.symm]
      · rw [if_neg e1, if_neg (fun e2 => e1 e2.symm)]
theorem look_set {x : α} {l : List α} (ho : Order lt) (h : InOrd κ lt l) (key : K) (hi : isAt κ lt (κ x) l = true) : look κ key (l.set (posOf κ lt (κ x) l) x) = if key = κ x then some x else look κ key l := by
  induction l with
  | nil => simp [isAt, posOf] at hi
  | cons y l ih =>
    obtain ⟨h1, h2⟩ := h.cons
    have hl : ∀ (y : α) (l : List α), look κ key (y :: l) = if κ y = key then some y else look κ key l := by
      intro y l; unfold look; rw [List.find?_cons]; split <;> simp_all
    by_cases hy : lt (κ y) (κ x) = true
    · have e1 : isAt κ lt (κ x) (y :: l) = isAt κ lt (κ x) l := by unfold isAt; rw [posOf_cons, if_pos hy, List.getElem?_cons_succ]
      rw [posOf_cons, if_pos hy, List.set_cons_succ, hl, ih h1 (e1 ▸ hi), hl]
      have hne : κ y ≠ κ x := fun e => by rw [e, ho.irr] at hy; cases hy
      by_cases e1 : κ y = key
      · rw [if_pos e1, if_pos e1, if_neg (fun e2 => hne (e1.trans e2))]
      · rw [if_neg e1, if_neg e1]
    · have e0 : posOf κ lt (κ x) (y :: l) = 0 := by rw [posOf_cons, if_neg hy]
      have e1 : κ y = κ x := by unfold isAt at hi; rw [e0] at hi; simpa using hi
      rw [e0, List.set_cons_zero, hl, hl]
      by_cases e2 : key = κ x
      · rw [if_pos e2, if_pos e2.symm]
      · rw [if_neg e2, if_neg (fun e => e2 e.symm), if_neg (fun e => e2 (e1 ▸ e.symm))]
theorem putAt_length (n : Nat) (x : α) (l : List α) : (putAt n x l).length = l.length + 1 := by
  unfold putAt
  have : l.length = (l.take n).length + (l.drop n).length := by rw [← List.length_append, List.take_append_drop]
  simp only [List.length_append, List.length_singleton]
  omega
theorem putAt_mem {n : Nat} {x y : α} {l : List α} (h : y ∈ putAt n x l) : y = x ∨ y ∈ l := by
  unfold putAt at h
  simp only [List.mem_append, List.mem_singleton] at h
  rcases h with (h | h) | h
  · exact .inr (List.mem_of_mem_take h)
  · exact .inl h
  · exact .inr (List.mem_of_mem_drop h)
theorem isAt_some {key : K} {l : List α} (h : isAt κ lt key l = true) : ∃ x, l[posOf κ lt key l]? = some x ∧ κ x = key := by
  unfold isAt at h
  cases hq : l[posOf κ lt key l]? with
  | none => rw [hq] at h; simp at h
  | some x => rw [hq] at h; exact ⟨x, rfl, by simpa using h⟩
end
end Go.Esc

/- A store of keys, in plain terms: of no program. -/
namespace Go.Esc
/-- A change of a batch. -/
structure ChangeR where
  coll : Int
  key : List UInt8
  val : List UInt8
  del : Bool
/-- Where a value is. -/
abbrev PlaceR := Int × List UInt8
abbrev KvM := List (PlaceR × List UInt8)
def ChangeR.at (c : ChangeR) : PlaceR := (c.coll, c.key)
def kvHas (m : KvM) (p : PlaceR) : Bool := m.any (fun e => decide (e.1 = p))
def kvPut (m : KvM) (p : PlaceR) (v : List UInt8) : KvM := if kvHas m p = true then m.map (fun e => if e.1 = p then (p, v) else e) else m ++ [(p, v)]
def kvDel (m : KvM) (p : PlaceR) : KvM := m.filter (fun e => decide (e.1 ≠ p))
def kvLay (m : KvM) (c : ChangeR) : KvM := if c.del = true then kvDel (kvPut m c.at c.val) c.at else kvPut m c.at c.val
def kvLays (m : KvM) (l : List ChangeR) : KvM := l.foldl kvLay m
def kvGet (m : KvM) (p : PlaceR) : Option (List UInt8) := (m.find? (fun e => decide (e.1 = p))).map (·.2)
/-- Each key stands once. -/
def KvM.once (m : KvM) : Prop := (m.map (·.1)).Nodup

theorem nodup_of_map {α β : Type} {f : α → β} {l : List α} (h : (l.map f).Nodup) : l.Nodup := (List.pairwise_map.1 h).imp (fun hab e => hab (congrArg f e))
theorem kvHas_iff (m : KvM) (p : PlaceR) : kvHas m p = true ↔ ∃ v, (p, v) ∈ m := by
  unfold kvHas
  rw [List.any_eq_true]
  constructor
  · rintro ⟨⟨q, v⟩, h1, h2⟩
    have : q = p := of_decide_eq_true h2
    subst this
    exact ⟨v, h1⟩
  · rintro ⟨v, h⟩
    exact ⟨(p, v), h, by simp⟩
theorem KvM.once.val {m : KvM} (h : m.once) {p : PlaceR} {v u : List UInt8} (h1 : (p, v) ∈ m) (h2 : (p, u) ∈ m) : v = u := by
  induction m with
  | nil => cases h1
  | cons e m ih =>
    have hn : e.1 ∉ m.map (·.1) ∧ (m.map (·.1)).Nodup := List.nodup_cons.1 h
    have hne : ∀ x, (p, x) ∈ m → e.1 ≠ p := fun x hx he => hn.1 (by rw [he]; exact List.mem_map.2 ⟨(p, x), hx, rfl⟩)
    rcases List.mem_cons.1 h1 with a | a <;> rcases List.mem_cons.1 h2 with b | b
    · rw [← a] at b; exact (congrArg Prod.snd b).symm
    · exact absurd (by rw [← a]) (hne u b)
    · exact absurd (by rw [← b]) (hne v a)
    · exact ih hn.2 a b
theorem kvPut_mem {m : KvM} (p : PlaceR) (v : List UInt8) (e : PlaceR × List UInt8) : e ∈ kvPut m p v ↔ e = (p, v) ∨ (e ∈ m ∧ e.1 ≠ p) := by
  unfold kvPut
  split
  · rename_i hh
    obtain ⟨u, hu⟩ := (kvHas_iff m p).1 hh
    rw [List.mem_map]
    constructor
    · rintro ⟨x, hx, rfl⟩
      by_cases hxp : x.1 = p
      · rw [if_pos hxp]; exact .inl rfl
      · rw [if_neg hxp]; exact .inr ⟨hx, hxp⟩
    · rintro (rfl | ⟨h1, h2⟩)
      · exact ⟨(p, u), hu, by simp⟩
      · exact ⟨e, h1, by rw [if_neg h2]⟩
  · rename_i hh
    rw [List.mem_append, List.mem_singleton]
    constructor
    · rintro (h | rfl)
      · refine .inr ⟨h, fun he => hh ((kvHas_iff m p).2 ⟨e.2, by rw [← he]; exact h⟩)⟩
      · exact .inl rfl
    · rintro (rfl | h)
      · exact .inr rfl
      · exact .inl h.1
theorem kvPut_keys (m : KvM) (p : PlaceR) (v : List UInt8) : (kvPut m p v).map (·.1) = if kvHas m p = true then m.map (·.1) else m.map (·.1) ++ [p] := by
  unfold kvPut
  split
  · rw [List.map_map]
    apply List.map_congr_left
    intro e _
    simp only [Function.comp_apply]
    split
    · rename_i h; exact h.symm
    · rfl
  · rw [List.map_append]; rfl
theorem KvM.once.put {m : KvM} (h : m.once) (p : PlaceR) (v : List UInt8) : (kvPut m p v).once := by
  unfold KvM.once
  rw [kvPut_keys]
  split
  · exact h
  · rename_i hh
    rw [List.nodup_append]
    refine ⟨h, by simp, ?_⟩
    intro a ha b hb
    rw [List.mem_singleton] at hb
    subst hb
    rintro rfl
    obtain ⟨e, he, rfl⟩ := List.mem_map.1 ha
    exact hh ((kvHas_iff m _).2 ⟨e.2, he⟩)
theorem kvDel_mem {m : KvM} (p : PlaceR) (e : PlaceR × List UInt8) : e ∈ kvDel m p ↔ e ∈ m ∧ e.1 ≠ p := by
  unfold kvDel
  rw [List.mem_filter]
  simp
theorem KvM.once.del {m : KvM} (h : m.once) (p : PlaceR) : (kvDel m p).once := by
  unfold KvM.once kvDel
  exact (List.Sublist.map _ (List.filter_sublist)).nodup h
theorem kvLay_mem {m : KvM} (c : ChangeR) (e : PlaceR × List UInt8) : e ∈ kvLay m c ↔ (c.del = false ∧ e = (c.at, c.val)) ∨ (e ∈ m ∧ e.1 ≠ c.at) := by
  unfold kvLay
  split
  · rename_i hd
    rw [kvDel_mem, kvPut_mem, hd]
    constructor
    · rintro ⟨rfl | h, h2⟩
      · exact absurd rfl h2
      · exact .inr h
    · rintro (h | h)
      · cases h.1
      · exact ⟨.inr h, h.2⟩
  · rename_i hd
    have hd' : c.del = false := by simpa using hd
    rw [kvPut_mem, hd']
    simp
theorem KvM.once.lay {m : KvM} (h : m.once) (c : ChangeR) : (kvLay m c).once := by
  unfold kvLay
  split
  · exact (h.put _ _).del _
  · exact h.put _ _
theorem KvM.once.lays {m : KvM} (h : m.once) (l : List ChangeR) : (kvLays m l).once := by
  induction l generalizing m with
  | nil => exact h
  | cons c l ih => exact ih (h.lay c)
theorem kvLays_append (m : KvM) (l k : List ChangeR) : kvLays m (l ++ k) = kvLays (kvLays m l) k := List.foldl_append ..
theorem kvPut_len (m : KvM) (p : PlaceR) (v : List UInt8) : (kvPut m p v).length ≤ m.length + 1 := by
  unfold kvPut
  split
  · rw [List.length_map]; omega
  · rw [List.length_append]; simp
theorem kvLay_len (m : KvM) (c : ChangeR) : (kvLay m c).length ≤ m.length + 1 := by
  have h := kvPut_len m c.at c.val
  unfold kvLay
  split
  · exact Nat.le_trans (List.length_filter_le _ _) h
  · exact h
theorem kvLays_len (l : List ChangeR) : ∀ m : KvM, (kvLays m l).length ≤ m.length + l.length := by
  induction l with
  | nil => intro m; exact Nat.le_refl _
  | cons c l ih =>
    intro m
    have h1 := ih (kvLay m c)
    have h2 := kvLay_len m c
    show (kvLays (kvLay m c) l).length ≤ _
    rw [List.length_cons]
    omega
theorem kvGet_some {m : KvM} (h : m.once) {p : PlaceR} {v : List UInt8} : kvGet m p = some v ↔ (p, v) ∈ m := by
  unfold kvGet
  constructor
  · intro hg
    rw [Option.map_eq_some_iff] at hg
    obtain ⟨⟨q, u⟩, h1, h2⟩ := hg
    have := List.find?_some h1
    have hq : q = p := by simpa using this
    subst hq
    simp only at h2
    subst h2
    exact List.mem_of_find?_eq_some h1
  · intro hm
    cases hf : m.find? (fun e => decide (e.1 = p)) with
    | none =>
      rw [List.find?_eq_none] at hf
      exact absurd (hf (p, v) hm) (by simp)
    | some e =>
      have h1 := List.find?_some hf
      have hq : e.1 = p := by simpa using h1
      have hme := List.mem_of_find?_eq_some hf
      obtain ⟨q, u⟩ := e
      simp only at hq
      subst hq
      rw [Option.map_some, h.val hme hm]
theorem kvGet_none {m : KvM} {p : PlaceR} : kvGet m p = none ↔ kvHas m p = false := by
  unfold kvGet kvHas
  rw [Option.map_eq_none_iff, List.find?_eq_none]
  constructor
  · intro h
    rw [Bool.eq_false_iff]
    intro ha
    rw [List.any_eq_true] at ha
    obtain ⟨e, he, hd⟩ := ha
    exact h e he hd
  · intro h e he hd
    rw [Bool.eq_false_iff] at h
    exact h (List.any_eq_true.2 ⟨e, he, hd⟩)
end Go.Esc

/- The reference's store, and what a map has to do with it. -/
namespace Go.Esc
set_option linter.unusedVariables false
set_option linter.unusedSimpArgs false
structure PairR where
  key : List UInt8
  val : List UInt8
instance : DecidableEq PairR := fun a b => by
  cases a with | mk a1 a2 => cases b with | mk b1 b2 =>
    exact if h : a1 = b1 ∧ a2 = b2 then isTrue (by obtain ⟨rfl, rfl⟩ := h; rfl) else isFalse (fun e => by cases e; exact h ⟨rfl, rfl⟩)
def newRow (c : ChangeR) : List PairR := if c.del = true then [] else [⟨c.key, c.val⟩]
/-- Where a change stands, and from where on what stood stays. -/
def rowP (l : List PairR) (c : ChangeR) : Nat := posOf PairR.key Op.bytesLess c.key l
def rowQ (l : List PairR) (c : ChangeR) : Nat := match l[rowP l c]? with
  | some r => if r.key = c.key then rowP l c + 1 else rowP l c
  | none => rowP l c
def rowPut (l : List PairR) (c : ChangeR) : List PairR := l.take (rowP l c) ++ newRow c ++ l.drop (rowQ l c)
def insRow (c : ChangeR) : List PairR → List PairR
  | [] => newRow c
  | x :: l => if Op.bytesLess x.key c.key = true then x :: insRow c l else newRow c ++ (if x.key = c.key then l else x :: l)
theorem rowPut_eq (c : ChangeR) (l : List PairR) : rowPut l c = insRow c l := by
  induction l with
  | nil => unfold rowPut rowP rowQ rowP insRow; simp [posOf]
  | cons x l ih =>
    unfold insRow
    split
    · rename_i h
      rw [← ih]
      have hp : rowP (x :: l) c = rowP l c + 1 := by unfold rowP; rw [posOf_cons, if_pos h]
      have hq : rowQ (x :: l) c = rowQ l c + 1 := by
        unfold rowQ
        rw [hp, List.getElem?_cons_succ]
        split
        · split <;> rfl
        · rfl
      unfold rowPut
      rw [hp, hq, List.take_succ_cons, List.drop_succ_cons]
      rfl
    · rename_i h
      have hp : rowP (x :: l) c = 0 := by unfold rowP; rw [posOf_cons, if_neg h]
      have hq : rowQ (x :: l) c = if x.key = c.key then 1 else 0 := by
        unfold rowQ
        rw [hp, List.getElem?_cons_zero]
      unfold rowPut
      rw [hp, hq]
      split <;> simp
/-- In order, each key once. -/
def Rising (l : List PairR) : Prop := l.Pairwise (fun a b => Op.bytesLess a.key b.key = true)
theorem newRow_mem (c : ChangeR) (r : PairR) : r ∈ newRow c ↔ c.del = false ∧ r = ⟨c.key, c.val⟩ := by
  unfold newRow
  split
  · rename_i h; rw [h]; simp
  · rename_i h; rw [List.mem_singleton]; simp [Bool.eq_false_iff.2 h]
theorem insRow_mem {l : List PairR} (h : Rising l) (c : ChangeR) (r : PairR) : r ∈ insRow c l ↔ (c.del = false ∧ r = ⟨c.key, c.val⟩) ∨ (r ∈ l ∧ r.key ≠ c.key) := by
  induction l with
  | nil => unfold insRow; rw [newRow_mem]; simp
  | cons x l ih =>
    have h1 := List.pairwise_cons.1 h
    unfold insRow
    split
    · rename_i hx
      have hne : x.key ≠ c.key := fun e => by rw [e, bytesOrd.irr] at hx; cases hx
      rw [List.mem_cons, ih h1.2, List.mem_cons]
      constructor
      · rintro (rfl | a | b)
        · exact .inr ⟨.inl rfl, hne⟩
        · exact .inl a
        · exact .inr ⟨.inr b.1, b.2⟩
      · rintro (a | ⟨rfl | b, b2⟩)
        · exact .inr (.inl a)
        · exact .inl rfl
        · exact .inr (.inr ⟨b, b2⟩)
    · rename_i hx
      rw [List.mem_append, newRow_mem]
      have hx' : Op.bytesLess x.key c.key = false := by simpa using hx
      split
      · rename_i he
        constructor
        · rintro (a | b)
          · exact .inl a
          · refine .inr ⟨List.mem_cons_of_mem _ b, fun e => ?_⟩
            have := h1.1 r b
            rw [he, ← e, bytesOrd.irr] at this
            cases this
        · rintro (a | ⟨b, b2⟩)
          · exact .inl a
          · rcases List.mem_cons.1 b with rfl | b
            · exact absurd he b2
            · exact .inr b
      · rename_i he
        have hlt : Op.bytesLess c.key x.key = true := by
          cases hc : Op.bytesLess c.key x.key with
          | true => rfl
          | false => exact absurd (bytesOrd.tot hx' hc) he
        constructor
        · rintro (a | b)
          · exact .inl a
          · refine .inr ⟨b, fun e => ?_⟩
            rcases List.mem_cons.1 b with rfl | b
            · exact he e
            · have := bytesOrd.tr hlt (h1.1 r b)
              rw [e, bytesOrd.irr] at this
              cases this
        · rintro (a | b)
          · exact .inl a
          · exact .inr b.1
theorem newRow_rising (c : ChangeR) : Rising (newRow c) := by
  unfold newRow Rising
  split
  · exact List.Pairwise.nil
  · exact List.pairwise_singleton _ _
theorem insRow_rising {l : List PairR} (h : Rising l) (c : ChangeR) : Rising (insRow c l) := by
  induction l with
  | nil => exact newRow_rising c
  | cons x l ih =>
    have h1 := List.pairwise_cons.1 h
    unfold insRow
    split
    · rename_i hx
      refine List.pairwise_cons.2 ⟨?_, ih h1.2⟩
      intro r hr
      rcases (insRow_mem h1.2 c r).1 hr with ⟨_, rfl⟩ | ⟨hr, _⟩
      · exact hx
      · exact h1.1 r hr
    · rename_i hx
      have hx' : Op.bytesLess x.key c.key = false := by simpa using hx
      refine List.pairwise_append.2 ⟨newRow_rising c, ?_, ?_⟩
      · split
        · exact h1.2
        · exact h
      · intro a ha b hb
        obtain ⟨_, rfl⟩ := (newRow_mem c a).1 ha
        split at hb
        · rename_i he
          have := h1.1 b hb
          rw [he] at this
          exact this
        · rename_i he
          have hlt : Op.bytesLess c.key x.key = true := by
            cases hc : Op.bytesLess c.key x.key with
            | true => rfl
            | false => exact absurd (bytesOrd.tot hx' hc) he
          rcases List.mem_cons.1 hb with rfl | hb
          · exact hlt
          · exact bytesOrd.tr hlt (h1.1 b hb)
/-- Two rows in order that hold the same are the same. -/
theorem rising_eq {l m : List PairR} (hl : Rising l) (hm : Rising m) (h : ∀ r, r ∈ l ↔ r ∈ m) : l = m := by
  induction l generalizing m with
  | nil =>
    cases m with
    | nil => rfl
    | cons y m => exact absurd ((h y).2 (by simp)) (by simp)
  | cons x l ih =>
    cases m with
    | nil => exact absurd ((h x).1 (by simp)) (by simp)
    | cons y m =>
      have h1 := List.pairwise_cons.1 hl
      have h2 := List.pairwise_cons.1 hm
      have irr : ∀ a : PairR, ¬ Op.bytesLess a.key a.key = true := fun a e => by rw [bytesOrd.irr] at e; cases e
      have hxy : x = y := by
        rcases List.mem_cons.1 ((h x).1 (by simp)) with e | hx
        · exact e
        · rcases List.mem_cons.1 ((h y).2 (by simp)) with e | hy
          · exact e.symm
          · exact absurd (bytesOrd.tr (h1.1 y hy) (h2.1 x hx)) (irr x)
      subst hxy
      congr 1
      refine ih h1.2 h2.2 (fun r => ⟨fun hr => ?_, fun hr => ?_⟩)
      · rcases List.mem_cons.1 ((h r).1 (List.mem_cons_of_mem _ hr)) with rfl | e
        · exact absurd (h1.1 r hr) (irr r)
        · exact e
      · rcases List.mem_cons.1 ((h r).2 (List.mem_cons_of_mem _ hr)) with rfl | e
        · exact absurd (h2.1 r hr) (irr r)
        · exact e

/-- The reference's three rows. -/
structure KvX where
  r0 : List PairR
  r1 : List PairR
  r2 : List PairR
def KvX.nil : KvX := ⟨[], [], []⟩
def KvX.row (X : KvX) (c : Int) : List PairR := if c = 0 then X.r0 else if c = 1 then X.r1 else X.r2
def KvX.put (X : KvX) (c : ChangeR) : KvX := if c.coll = 0 then { X with r0 := rowPut X.r0 c } else if c.coll = 1 then { X with r1 := rowPut X.r1 c } else { X with r2 := rowPut X.r2 c }
def KvX.puts (X : KvX) (l : List ChangeR) : KvX := l.foldl KvX.put X
def KvX.len (X : KvX) : Nat := X.r0.length + X.r1.length + X.r2.length
/-- A map has what the three rows have. -/
structure Tells (m : KvM) (X : KvX) : Prop where
  once : m.once
  coll : ∀ e ∈ m, e.1.1 = 0 ∨ e.1.1 = 1 ∨ e.1.1 = 2
  rise : ∀ c : Int, c = 0 ∨ c = 1 ∨ c = 2 → Rising (X.row c)
  mem : ∀ (c : Int) (r : PairR), c = 0 ∨ c = 1 ∨ c = 2 → (r ∈ X.row c ↔ ((c, r.key), r.val) ∈ m)
theorem Tells.nil : Tells [] KvX.nil := by
  have hrow : ∀ c, KvX.nil.row c = [] := fun c => by unfold KvX.row KvX.nil; simp
  refine ⟨List.nodup_nil, (fun e h => by cases h), (fun c _ => by rw [hrow]; exact List.Pairwise.nil), (fun c r _ => by rw [hrow]; simp)⟩
theorem KvX.row_put (X : KvX) (c : ChangeR) (hc : c.coll = 0 ∨ c.coll = 1 ∨ c.coll = 2) (k : Int) (hk : k = 0 ∨ k = 1 ∨ k = 2) : (X.put c).row k = if k = c.coll then rowPut (X.row k) c else X.row k := by
  unfold KvX.put KvX.row
  rcases hc with h | h | h <;> rcases hk with rfl | rfl | rfl <;> simp [h]
theorem Tells.put {m : KvM} {X : KvX} (h : Tells m X) (c : ChangeR) (hc : c.coll = 0 ∨ c.coll = 1 ∨ c.coll = 2) : Tells (kvLay m c) (X.put c) := by
  refine ⟨h.once.lay c, ?_, ?_, ?_⟩
  · intro e he
    rcases (kvLay_mem c e).1 he with ⟨_, rfl⟩ | ⟨he, _⟩
    · exact hc
    · exact h.coll e he
  · intro k hk
    rw [X.row_put c hc k hk]
    split
    · rw [rowPut_eq]; exact insRow_rising (h.rise k hk) c
    · exact h.rise k hk
  · intro k r hk
    rw [X.row_put c hc k hk, kvLay_mem]
    split
    · rename_i he
      rw [rowPut_eq, insRow_mem (h.rise k hk), h.mem k r hk]
      subst he
      constructor
      · rintro (⟨a, rfl⟩ | ⟨a, b⟩)
        · exact .inl ⟨a, rfl⟩
        · exact .inr ⟨a, fun e => b (congrArg Prod.snd e)⟩
      · rintro (⟨a, e⟩ | ⟨a, b⟩)
        · refine .inl ⟨a, ?_⟩
          have e1 := congrArg (fun x => x.1.2) e
          have e2 := congrArg (fun x => x.2) e
          obtain ⟨rk, rv⟩ := r
          simp only [ChangeR.at] at e1 e2
          rw [e1, e2]
        · exact .inr ⟨a, fun e => b (by rw [ChangeR.at, e])⟩
    · rename_i he
      rw [h.mem k r hk]
      constructor
      · intro a
        exact .inr ⟨a, fun e => he (congrArg Prod.fst e)⟩
      · rintro (⟨_, e⟩ | ⟨a, _⟩)
        · exact absurd (congrArg (fun x => x.1.1) e) he
        · exact a
theorem Tells.puts {m : KvM} {X : KvX} (h : Tells m X) (l : List ChangeR) (hl : ∀ c ∈ l, c.coll = 0 ∨ c.coll = 1 ∨ c.coll = 2) : Tells (kvLays m l) (X.puts l) := by
  induction l generalizing m X with
  | nil => exact h
  | cons c l ih => exact ih (h.put c (hl c (by simp))) (fun d hd => hl d (List.mem_cons_of_mem _ hd))
theorem rising_nodup {l : List PairR} (h : Rising l) : l.Nodup := List.Pairwise.imp (fun {a b} hab e => by rw [e, bytesOrd.irr] at hab; cases hab) h
/-- As many. -/
theorem Tells.len {m : KvM} {X : KvX} (h : Tells m X) : m.length = X.len := by
  have hn : m.Nodup := nodup_of_map h.once
  have key : ∀ c : Int, c = 0 ∨ c = 1 ∨ c = 2 → (m.filter (fun e => decide (e.1.1 = c))).length = (X.row c).length := by
    intro c hc
    have h1 : ((X.row c).map (fun r => (((c, r.key), r.val) : PlaceR × List UInt8))).Perm (m.filter (fun e => decide (e.1.1 = c))) := by
      refine (List.perm_ext_iff_of_nodup ?_ (hn.filter _)).2 ?_
      · refine List.Pairwise.map _ ?_ (rising_nodup (h.rise c hc))
        intro a b hab e
        apply hab
        have e1 := congrArg (fun x : PlaceR × List UInt8 => x.1.2) e
        have e2 := congrArg (fun x : PlaceR × List UInt8 => x.2) e
        obtain ⟨a1, a2⟩ := a
        obtain ⟨b1, b2⟩ := b
        simp only at e1 e2
        rw [e1, e2]
      · intro e
        rw [List.mem_map, List.mem_filter]
        constructor
        · rintro ⟨r, hr, rfl⟩
          exact ⟨(h.mem c r hc).1 hr, by simp⟩
        · rintro ⟨he, hd⟩
          obtain ⟨⟨c', k⟩, v⟩ := e
          have : c' = c := by simpa using hd
          subst this
          exact ⟨⟨k, v⟩, (h.mem c' ⟨k, v⟩ hc).2 he, rfl⟩
    have := h1.length_eq
    rw [List.length_map] at this
    exact this.symm
  have k0 := key 0 (.inl rfl)
  have k1 := key 1 (.inr (.inl rfl))
  have k2 := key 2 (.inr (.inr rfl))
  have hsum : ∀ l : KvM, (∀ e ∈ l, e.1.1 = 0 ∨ e.1.1 = 1 ∨ e.1.1 = 2) → l.length = (l.filter (fun e => decide (e.1.1 = 0))).length + (l.filter (fun e => decide (e.1.1 = 1))).length + (l.filter (fun e => decide (e.1.1 = 2))).length := by
    intro l
    induction l with
    | nil => intro _; rfl
    | cons e l ih =>
      intro hl
      have := ih (fun x hx => hl x (List.mem_cons_of_mem _ hx))
      rcases hl e (by simp) with he | he | he <;> simp [List.filter_cons, he] <;> omega
  rw [hsum m h.coll, k0, k1, k2]
  rfl
/-- What a scan tells: the pairs of a collection from a key on. -/
def scanX (X : KvX) (c : Int) (start : List UInt8) : List PairR := (X.row c).filter (fun r => !Op.bytesLess r.key start)
/-- .. out of a map: its keys in order, each with its value. -/
def scanM (m : KvM) (c : Int) (ks : List (List UInt8)) : List PairR := ks.map (fun k => ⟨k, (kvGet m (c, k)).getD []⟩)
theorem scan_same {m : KvM} {X : KvX} (h : Tells m X) (c : Int) (hc : c = 0 ∨ c = 1 ∨ c = 2) (start : List UInt8) (ks : List (List UInt8))
    (hm : ∀ k, k ∈ ks ↔ (∃ v, ((c, k), v) ∈ m) ∧ Op.bytesLess k start = false) (hr : ks.Pairwise (fun a b => Op.bytesLess a b = true)) : scanM m c ks = scanX X c start := by
  refine rising_eq ?_ ((h.rise c hc).filter _) ?_
  · unfold scanM Rising
    exact List.Pairwise.map _ (fun a b hab => hab) hr
  · intro r
    unfold scanM scanX
    rw [List.mem_map, List.mem_filter, h.mem c r hc]
    constructor
    · rintro ⟨k, hk, rfl⟩
      obtain ⟨⟨v, hv⟩, hk2⟩ := (hm k).1 hk
      rw [(kvGet_some h.once).2 hv]
      exact ⟨hv, by simp [hk2]⟩
    · rintro ⟨h1, h2⟩
      refine ⟨r.key, (hm r.key).2 ⟨⟨r.val, h1⟩, by simpa using h2⟩, ?_⟩
      rw [(kvGet_some h.once).2 h1]
      rfl
end Go.Esc

/- Walks of the package slices, for bytes: Grow, Concat, Clone. -/
namespace Go.Proofs.Ytpljcnjkdjblmaa
open Go.RowKit Go.Esc

theorem TBytes : SlT Try.prog 37 5 (.int .u8 0) 1 1 := ⟨Try.underlying37, by kernel_rfl, rfl, by decide⟩

set_option maxHeartbeats 400000 in
theorem grow_nil (n : Nat) (w : World) (hn : n ≤ 70368744177664) :
    Calls Try.prog 79 #[.slice none 0 0, .int .i64 n] w fun e w' => ∃ a c, e = .returned (.slice a 0 c) ∧ Own w' w.heap.size a 1 0 c [] ∧ Ext no w w' := by
  by_cases h0 : n = 0
  · subst h0
    go_enter Try.func79, Try.ntmps79
    go_wp2_with fail
    go_ret
    exact ⟨none, 0, rfl, Own.nil _ _ _, Ext.refl _ _⟩
  · have hpos : 0 < n := by omega
    clear h0
    go_enter Try.func79, Try.ntmps79
    go_wp2_with (at_builtin; refine wpList_append_zeros TBytes rfl rfl Try.underlying3 rfl rfl w.heap.size (Nat.le_refl _) ?c1 ?c2 hpos ?_)
    case c1 => unfold maxLen; omega
    case c2 => omega
    intro c w1 hown hext
    go_wp2_with fail
    go_ret
    exact ⟨_, c, rfl, hown, hext⟩

set_option maxHeartbeats 400000 in
theorem concat_any (w : World) (oa : Option Addr) (oc : Nat) (L : List Part) (hL : L.length ≤ 1000) (hrd : Rd w oa (L.map Part.v)) (hp : ∀ p ∈ L, Rd w p.a (bs p.l)) (htot : (flat L).length ≤ 1099511627776) :
    Calls Try.prog 72 #[.slice oa L.length oc] w fun e w' => ∃ a c, e = .returned (.slice a (flat L).length c) ∧ Own w' w.heap.size a 1 (flat L).length c (bs (flat L)) ∧ Ext no w w' := by
  go_enter Try.func72, Try.ntmps72
  go_wp2_with fail
  go_loop [3, 5, 11] (fun size _ i => ∃ k : Nat, k ≤ L.length ∧ i = .int .i64 k ∧ size = .int .i64 (flat (L.take k)).length) (fun _ _ i => L.length - (intOf i).toNat)
  case atStart => exact ⟨0, Nat.zero_le _, rfl, rfl⟩
  case round =>
    obtain ⟨k, hk, rfl, rfl⟩ := hrel
    by_cases hlt : k < L.length
    · obtain ⟨ad, rfl, _⟩ := hrd.ne (by simp; omega)
      have hc := hrd.cell k (by simpa using hlt)
      rw [List.getElem_map, Part.v] at hc
      have ht := flat_take_le L k
      have ht1 := flat_take_le L (k + 1)
      have hs := congrArg List.length (flat_take_succ L k hlt)
      rw [List.length_append] at hs
      have hs0 : ((flat (L.take k)).length : Int) + (L[k].l.length : Int) ≤ 1099511627776 := by omega
      have Hs := Lib.hid hs
      clear hs
      go_wp2_with fail
      go_round
      case rel => exact ⟨k + 1, by omega, by go_num, by rw [Hs.out]; go_num⟩
      case measure => simp [intOf]; omega
    · obtain rfl : k = L.length := by omega
      rw [List.take_length]
      go_wp2_with (go_at_call 79; refine (grow_nil _ _ (by omega)).mono ?_; rintro e w1 ⟨a, c, rfl, hown, hext⟩)
      go_loopw [6, 8, 27] (fun v _ i wr => ∃ (k : Nat) (a : Option Addr) (c : Nat), k ≤ L.length ∧ i = .int .i64 k ∧ v = .slice a (flat (L.take k)).length c ∧ Own wr w.heap.size a 1 (flat (L.take k)).length c (bs (flat (L.take k))) ∧ Ext no w wr)
        (fun _ _ i _ => L.length - (intOf i).toNat)
      case atStart => exact ⟨0, _, _, Nat.zero_le _, rfl, rfl, hown, hext⟩
      case round =>
        clear hown hext
        obtain ⟨k, a, c, hk, rfl, rfl, hown, hext⟩ := hrel
        by_cases hlt : k < L.length
        · obtain ⟨ad, rfl, _⟩ := hrd.ne (by simp; omega)
          have hc := hext.keeps (hrd.cell k (by simpa using hlt)) (fun h => h)
          rw [List.getElem_map, Part.v] at hc
          have hpk := (hp L[k] (by simp)).ext hext (fun _ _ h => h)
          have ht := flat_take_le L k
          have ht1 := flat_take_le L (k + 1)
          have hs := congrArg List.length (flat_take_succ L k hlt)
          rw [List.length_append] at hs
          have hsz := hext.size
          have hle : (flat (L.take k)).length + L[k].l.length ≤ 1099511627776 := by omega
          have Hs := Lib.hid hs
          clear hs
          go_wp2_with (at_builtin; refine wpList_append TBytes rfl rfl rfl hown rfl hpk (by simp) (bs_one _) ?c1 ?c2 (by omega) ?_)
          case c1 => unfold maxLen; omega
          case c2 => omega
          intro a' c' w1 happ
          have hown1 := happ.own
          have hext1 := happ.ext
          clear happ
          go_wp2_with fail
          go_roundw
          case rel =>
            refine ⟨k + 1, a', c', by omega, by go_num, by rw [Hs.out], ?_, ?_⟩
            · rw [Hs.out, flat_take_succ L k hlt, bs_append]; exact hown1
            · exact Ext.ofBelow ((hext.belowAll).trans (hown.below hext1 hext.size)) (Nat.le_refl _)
          case measure => simp [intOf]; omega
        · obtain rfl : k = L.length := by omega
          rw [List.take_length] at hown ⊢
          go_wp2_with fail
          go_ret
          exact ⟨a, c, rfl, hown, hext⟩

theorem eqNil (w : World) (a : Option Addr) (n c : Nat) : (binOp .eql 37 (.slice a n c) (.slice none 0 0)).run Try.prog w = .ok (.bool a.isNone) w :=
  Lib.run_eql_slice_nil w _ _ a n c 0 0 Try.underlying37

set_option maxHeartbeats 400000 in
theorem clone_any (w : World) (a : Option Addr) (c : Nat) (l : List UInt8) (hrd : Rd w a (bs l)) (hl : l.length ≤ 70368744177664) :
    Calls Try.prog 60 #[.slice a l.length c] w fun e w' => ∃ a' c', e = .returned (.slice a' l.length c') ∧ Own w' w.heap.size a' 1 l.length c' (bs l) ∧ Ext no w w' := by
  have hq0 := eqNil w none 0 c
  have hq := eqNil w a l.length c
  cases a with
  | none =>
    have h0 : l = [] := by
      cases l with
      | nil => rfl
      | cons x xs => obtain ⟨_, h, _⟩ := hrd 0 _ rfl; cases h
    subst h0
    go_enter Try.func60, Try.ntmps60
    go_wp2_with fail
    go_ret
    exact ⟨none, 0, rfl, Own.nil _ _ _, Ext.refl _ _⟩
  | some ad =>
    have hz : Own (w.alloc (.cells #[] 5)) w.heap.size (some ⟨w.heap.size, 0, none⟩) 1 0 0 [] := Own.fresh w _ _ _ _ _ _ _ _ (Nat.le_refl _) (by simp) (Nat.le_refl _) (Nat.zero_le _) (by simp) (by simp) (.inl (Nat.le_refl _))
    go_enter Try.func60, Try.ntmps60
    go_wp2_with (at_builtin; refine wpList_append TBytes rfl rfl rfl hz rfl (hrd.alloc _) (by simp) (bs_one _) ?c1 ?c2 (by simp) ?_)
    case c1 => unfold maxLen; omega
    case c2 => omega
    intro a' c' w1 happ
    have hown := happ.own
    have hext := happ.ext
    rw [Nat.zero_add, List.nil_append] at hown
    go_wp2_with fail
    go_ret
    exact ⟨a', c', rfl, hown, Ext.ofBelow (((Below.refl _ _).alloc (Nat.le_refl _) _).trans (hz.below hext (by simp))) (Nat.le_refl _)⟩


theorem _root_.Go.Esc.Rd.cutB {w : World} {a : Option Addr} {l : List UInt8} (h : Rd w a (bs l)) (c k : Nat) (hc : l.length ≤ c) : Rd w (cutAt a c k 1) (bs (l.drop k)) := by
  have := h.cut c k 1 (fun e => by rw [bs_length]; omega)
  rw [show (bs l).drop (k * 1) = bs (l.drop k) from by rw [Nat.mul_one, bs_drop]] at this
  exact this
theorem _root_.Go.Esc.Ext.drewN (S : Nat → Prop) (w : World) (n : Nat) : Ext S w (w.drewN n) := ⟨rfl, rfl, rfl, Nat.le_refl _, fun _ _ _ => rfl⟩
theorem _root_.Go.Esc.Rd.drewN {w : World} {a : Option Addr} {cs : List Value} (h : Rd w a cs) (n : Nat) : Rd (w.drewN n) a cs := h.ext (Ext.drewN no w n) (fun _ _ h => h)
end Go.Proofs.Ytpljcnjkdjblmaa

/- A disk, in plain terms: of no program. -/
namespace Go.Esc

/-- A disk: how many operations are left till the power goes, whether that number was odd, how many were done, whether the power is gone; the log, how much of it is synced; the snapshot; the room. -/
structure DS where
  left : Nat
  odd : Nat
  done : Nat
  dead : Bool
  log : List UInt8
  synced : Nat
  snap : List UInt8
  room : Nat

def DS.new (room : Nat) : DS := ⟨0, 0, 0, false, [], 0, [], room⟩
/-- An operation is spent (the power is not gone). -/
def DS.spend (s : DS) : DS := if s.left = 1 then { s with left := 0, dead := true } else { s with left := s.left - 1, done := s.done + 1 }
def DS.append (s : DS) (b : List UInt8) : DS × Nat :=
  if s.dead = true then (s, 18) else if s.room < s.log.length + s.snap.length + b.length then (s, 17) else ({ s.spend with log := s.log ++ b }, if s.left = 1 then 18 else 0)
def DS.sync (s : DS) : DS × Nat :=
  if s.dead = true then (s, 18) else if s.left = 1 then (s.spend, 18) else ({ s.spend with synced := s.log.length }, 0)
def DS.cut (s : DS) (n : Int) : DS × Nat :=
  if s.dead = true then (s, 18) else if n < 0 ∨ (s.log.length : Int) < n then (s, 1)
  else (if s.left ≠ 1 ∨ s.odd = 0 then { s.spend with log := s.log.take n.toNat, synced := n.toNat } else s.spend, if s.left = 1 then 18 else 0)
def DS.swap (s : DS) (b : List UInt8) : DS × Nat :=
  if s.dead = true then (s, 18) else if s.room < b.length then (s, 17)
  else (if s.left ≠ 1 ∨ s.odd = 0 then { s.spend with snap := b, log := [], synced := 0 } else s.spend, if s.left = 1 then 18 else 0)
def DS.stop (s : DS) (n : Int) : DS := { s with left := n.toNat, odd := n.toNat % 2 }
/-- How many bytes stay at a crash that were not synced. -/
def DS.keeps (s : DS) (pick : Int) : Nat := (pick % ((s.log.length - s.synced + 1 : Nat) : Int)).toNat
def DS.crash (s : DS) (pick : Int) : DS := { s with left := 0, odd := 0, dead := false, log := s.log.take (s.synced + s.keeps pick), synced := s.synced + s.keeps pick }

/-- What holds of every disk. -/
structure DS.ok (s : DS) : Prop where
  sync : s.synced ≤ s.log.length
  fits : s.log.length + s.snap.length ≤ s.room
  room : s.room ≤ 16777216
  left : s.left ≤ 9223372036854775807
  odd : s.odd ≤ 1
  done : s.done ≤ 4611686018427387904

theorem DS.keeps_le (s : DS) (pick : Int) : s.keeps pick ≤ s.log.length - s.synced := by
  unfold DS.keeps
  have h1 := Int.emod_nonneg pick (show ((s.log.length - s.synced + 1 : Nat) : Int) ≠ 0 by omega)
  have h2 := Int.emod_lt_of_pos pick (show (0 : Int) < ((s.log.length - s.synced + 1 : Nat) : Int) by omega)
  omega
end Go.Esc

/- Walks of the package disk: what a disk is in memory; own, spend. -/
namespace Go.Esc
open Go.RowKit
variable {w w' : World}

theorem Ext.at (w : World) (g k : Nat) (v : Value) : Ext (just g) w (w.setCell ⟨g, k, none⟩ v) := Ext.setCell _ _ _ rfl

/-- Bytes that a struct in block g refers to; they lie in no block of N. -/
def Sl (w : World) (g : Nat) (N : Nat → Prop) (a : Option Addr) (c : Nat) (l : List UInt8) : Prop :=
  Rd w a (bs l) ∧ l.length ≤ c ∧ c ≤ maxLen ∧ (l ≠ [] → ∀ ad, a = some ad → ad.block ≠ g ∧ ¬ N ad.block)
theorem Sl.nil (w : World) (g : Nat) (N : Nat → Prop) : Sl w g N none 0 [] := ⟨Rd.nil _ _, by simp, Nat.zero_le _, fun h => absurd rfl h⟩
theorem Sl.ext {S N : Nat → Prop} {g : Nat} {a : Option Addr} {c : Nat} {l : List UInt8} (h : Sl w g N a c l) (hx : Ext S w w') (hs : ∀ k, k < w.heap.size → S k → k = g ∨ N k) : Sl w' g N a c l := by
  obtain ⟨h1, h2, h3, h4⟩ := h
  refine ⟨?_, h2, h3, h4⟩
  by_cases he : l = []
  · rw [he]; exact Rd.nil _ _
  · obtain ⟨ad, ha, hlt⟩ := h1.ne (by rw [bs_length]; exact List.length_pos_iff.2 he)
    refine h1.ext hx (fun ad' ha' hS => ?_)
    rw [ha] at ha'
    cases ha'
    obtain ⟨h5, h6⟩ := h4 he ad ha
    rcases hs _ hlt hS with h | h
    · exact h5 h
    · exact h6 h
theorem Sl.own {N : Nat → Prop} {g B : Nat} {a : Option Addr} {n c : Nat} {l : List UInt8} (h : Own w B a 1 n c (bs l)) (hg : g < B) (hN : ∀ k, N k → k < B) : Sl w g N a c l := by
  refine ⟨h.rd, ?_, h.cm, fun _ ad ha => ?_⟩
  · have h1 := h.len; have h2 := h.nc; rw [bs_length] at h1; omega
  · have := (h.base ad ha).1
    exact ⟨by omega, fun hk => by have := hN _ hk; omega⟩
theorem Sl.take {N : Nat → Prop} {g : Nat} {a : Option Addr} {c : Nat} {l : List UInt8} (h : Sl w g N a c l) (k : Nat) : Sl w g N a c (l.take k) := by
  obtain ⟨h1, h2, h3, h4⟩ := h
  refine ⟨by rw [← bs_take]; exact h1.take k, by rw [List.length_take]; omega, h3, fun he => h4 (fun hh => he (by rw [hh]; simp))⟩
theorem Sl.fewer {N N' : Nat → Prop} {g : Nat} {a : Option Addr} {c : Nat} {l : List UInt8} (h : Sl w g N a c l) (hN : ∀ k, k < w.heap.size → N' k → N k) : Sl w g N' a c l := by
  obtain ⟨h1, h2, h3, h4⟩ := h
  refine ⟨h1, h2, h3, fun he ad ha => ⟨(h4 he ad ha).1, fun hk => ?_⟩⟩
  obtain ⟨ad', ha', hlt⟩ := h1.ne (by rw [bs_length]; exact List.length_pos_iff.2 he)
  rw [ha] at ha'
  cases ha'
  exact (h4 he ad ha).2 (hN _ hlt hk)

def dcells (s : DS) (la : Option Addr) (lc : Nat) (sa : Option Addr) (sc : Nat) : List Value :=
  [.int .i64 s.left, .int .i64 s.odd, .int .i64 s.done, .bool s.dead, .slice la s.log.length lc, .int .i64 s.synced, .slice sa s.snap.length sc, .int .i64 s.room]
/-- A disk in block g. -/
def Dk (w : World) (g : Nat) (s : DS) (N : Nat → Prop) : Prop := ∃ la lc sa sc, Blk w g (dcells s la lc sa sc) ∧ Sl w g N la lc s.log ∧ Sl w g N sa sc s.snap
theorem Dk.lt {g : Nat} {s : DS} {N : Nat → Prop} (h : Dk w g s N) : g < w.heap.size := by
  obtain ⟨_, _, _, _, h1, _⟩ := h
  exact h1.lt (by simp [dcells])
theorem Dk.ext {S N : Nat → Prop} {g : Nat} {s : DS} (h : Dk w g s N) (hx : Ext S w w') (hg : ¬ S g) (hs : ∀ k, k < w.heap.size → S k → N k) : Dk w' g s N := by
  obtain ⟨la, lc, sa, sc, h1, h2, h3⟩ := h
  exact ⟨la, lc, sa, sc, h1.ext (by simp [dcells]) hx hg, h2.ext hx (fun k hk h => .inr (hs k hk h)), h3.ext hx (fun k hk h => .inr (hs k hk h))⟩
theorem Dk.no {N : Nat → Prop} {g : Nat} {s : DS} (h : Dk w g s N) (hx : Ext no w w') : Dk w' g s N := h.ext hx (fun h => h) (fun _ _ h => h.elim)
theorem Dk.fewer {N N' : Nat → Prop} {g : Nat} {s : DS} (h : Dk w g s N) (hN : ∀ k, k < w.heap.size → N' k → N k) : Dk w g s N' := by
  obtain ⟨la, lc, sa, sc, h1, h2, h3⟩ := h
  exact ⟨la, lc, sa, sc, h1, h2.fewer hN, h3.fewer hN⟩
end Go.Esc
namespace Go.Proofs.Ytpljcnjkdjblmaa
open Go.RowKit Go.Esc

set_option maxHeartbeats 400000 in
theorem own_any (w : World) (a : Option Addr) (c : Nat) (l : List UInt8) (hrd : Rd w a (bs l)) (hl : l.length ≤ 70368744177664) :
    Calls Try.prog 40 #[.slice a l.length c] w fun e w' => ∃ a' c', e = .returned (.slice a' l.length c') ∧ Own w' w.heap.size a' 1 l.length c' (bs l) ∧ Ext no w w' := by
  go_enter Try.func40, Try.ntmps40
  go_wp2_with (with_reducible refine wpList_make_z TBytes rfl rfl rfl l.length rfl rfl rfl rfl w.heap.size (Nat.le_refl _) (by omega) (by unfold maxLen; omega) ?_)
  intro ad w1 hown hx1
  go_wp2_with (with_reducible refine wpList_copy TBytes rfl rfl hown (off := 0) rfl rfl (fun _ => by rw [Addr.add_zero']) (hrd.ext hx1 (fun _ _ h => h)) (by simp) (bs_one _) (Nat.le_refl _) (by omega) ?_)
  intro w2 hown2 hx2
  go_wp2_with fail
  go_ret
  exact ⟨some ad, l.length, rfl, hown2, Ext.ofBelow (hx1.belowAll.trans (hown.below hx2 hx1.size)) (Nat.le_refl _)⟩

/-- What an operation that is spent leaves in the first four cells. -/
def SpendEnd (w : World) (g left odd done : Nat) (r : List Value) (e : Ending) (w' : World) : Prop := e = .returned (.bool (decide (left ≠ 1))) ∧
  Blk w' g (.int .i64 (left - 1 : Nat) :: .int .i64 odd :: .int .i64 (if left = 1 then done else done + 1 : Nat) :: .bool (decide (left = 1)) :: r) ∧ Ext (just g) w w'

set_option maxHeartbeats 400000 in
theorem spend_any (w : World) (g : Nat) (left odd done : Nat) (r : List Value) (hB : Blk w g (.int .i64 left :: .int .i64 odd :: .int .i64 done :: .bool false :: r)) (hl : left ≤ 9223372036854775807) (hd : done ≤ 4611686018427387904) :
    Calls Try.prog 61 #[.pointer (some ⟨g, 0, none⟩)] w (SpendEnd w g left odd done r) := by
  have c0 := hB.cell 0 _ rfl
  have c2 := hB.cell 2 _ rfl
  have c3 := hB.cell 3 _ rfl
  have f0 := hB.fr 0
  have f2 := hB.fr 2
  have f3 := hB.fr 3
  by_cases h0 : left = 0
  · subst h0
    go_enter Try.func61, Try.ntmps61
    go_wp2_with fail
    go_ret
    refine ⟨rfl, ?_, Ext.setCell _ _ _ rfl⟩
    have := hB.set 2 (.int .i64 (done + 1 : Nat)) (by simp)
    simpa using this
  by_cases h1 : left = 1
  · subst h1
    go_enter Try.func61, Try.ntmps61
    go_wp2_with fail
    go_ret
    refine ⟨rfl, ?_, (Ext.at _ _ _ _).comp (Ext.at _ _ _ _)⟩
    have := (hB.set 0 (.int .i64 0) (by simp)).set 3 (.bool true) (by simp)
    simpa using this
  have hl2 : 2 ≤ left := by omega
  have hb : ((left : Int) - 1 == 0) = false := by rw [beq_eq_false_iff_ne]; omega
  have Hn := Lib.hid (show ((left : Int) - 1) = ((left - 1 : Nat) : Int) by omega)
  go_enter Try.func61, Try.ntmps61
  go_wp2_with fail
  go_ret
  refine ⟨?_, ?_, ((Ext.at _ _ _ _).comp (Ext.at _ _ _ _)).comp (Ext.at _ _ _ _)⟩
  · rw [decide_eq_true h1]; rfl
  · have := ((hB.set 0 (.int .i64 ((left : Int) - 1)) (by simp)).set 3 (.bool false) (by simp)).set 2 (.int .i64 ((done : Int) + 1)) (by simp)
    rw [decide_eq_false h1, if_neg h1, ← Hn.out]
    simpa using this

theorem spend_dk (w : World) (g : Nat) (s : DS) (la sa : Option Addr) (lc sc : Nat) (hB : Blk w g (dcells s la lc sa sc)) (hd : s.dead = false) (hl : s.left ≤ 9223372036854775807) (hn : s.done ≤ 4611686018427387904) :
    Calls Try.prog 61 #[.pointer (some ⟨g, 0, none⟩)] w fun e w' => e = .returned (.bool (decide (s.left ≠ 1))) ∧ Blk w' g (dcells s.spend la lc sa sc) ∧ Ext (just g) w w' := by
  unfold dcells at hB
  rw [hd] at hB
  refine (spend_any w g s.left s.odd s.done _ hB hl hn).mono ?_
  rintro e w' ⟨h1, h2, h3⟩
  refine ⟨h1, ?_, h3⟩
  unfold DS.spend dcells
  by_cases h : s.left = 1
  · simpa [h] using h2
  · simpa [h, hd] using h2
end Go.Proofs.Ytpljcnjkdjblmaa
