/- Words for worlds, slices that are read, slices that a call owns; laws for the walk: of no program. -/
import Derived.WalkKit
import Derived.WalkSpells
import Derived.WalkLawsBesides
import Derived.Lib.Hide
namespace Go.Esc
open Go.RowKit

/-- Nothing that was there has turned, but in the blocks of S. -/
structure Ext (S : Nat → Prop) (w w' : World) : Prop where
  os : w'.os = w.os
  tape : w'.tape = w.tape
  output : w'.output = w.output
  size : w.heap.size ≤ w'.heap.size
  block : ∀ k, k < w.heap.size → ¬ S k → w'.heap[k]? = w.heap[k]?

def no : Nat → Prop := fun _ => False
def just (g : Nat) : Nat → Prop := fun k => k = g
def upfrom (B : Nat) : Nat → Prop := fun k => B ≤ k
def blk (a : Option Addr) : Nat → Prop := fun k => ∃ ad, a = some ad ∧ ad.block = k

variable {S S' : Nat → Prop} {w w' w'' : World}

theorem Ext.refl (S : Nat → Prop) (w : World) : Ext S w w := ⟨rfl, rfl, rfl, Nat.le_refl _, fun _ _ _ => rfl⟩

theorem Ext.trans (h : Ext S w w') (h' : Ext S' w' w'') (hs : ∀ k, k < w.heap.size → S' k → S k) : Ext S w w'' :=
  ⟨h'.os.trans h.os, h'.tape.trans h.tape, h'.output.trans h.output, Nat.le_trans h.size h'.size, fun k hk hn =>
    (h'.block k (Nat.lt_of_lt_of_le hk h.size) (fun hh => hn (hs k hk hh))).trans (h.block k hk hn)⟩

theorem Ext.mono (h : Ext S w w') (hs : ∀ k, k < w.heap.size → S k → S' k) : Ext S' w w' :=
  ⟨h.os, h.tape, h.output, h.size, fun k hk hn => h.block k hk (fun hh => hn (hs k hk hh))⟩

theorem Ext.comp (h : Ext S w w') (h' : Ext S w' w'') : Ext S w w'' := h.trans h' (fun _ _ h => h)

theorem Ext.drew (S : Nat → Prop) (w : World) : Ext S w w.drew := ⟨rfl, rfl, rfl, Nat.le_refl _, fun _ _ _ => rfl⟩

theorem Ext.alloc (S : Nat → Prop) (w : World) (o : Obj) : Ext S w (w.alloc o) :=
  ⟨rfl, rfl, rfl, by simp, fun k hk _ => Below.heap_alloc _ _ _ hk⟩

theorem Ext.setCell (w : World) (a : Addr) (v : Value) (hs : S a.block) : Ext S w (w.setCell a v) :=
  ⟨rfl, rfl, rfl, by simp, fun k _ hn => Below.heap_setCell _ _ _ _ (fun h => hn (h ▸ hs))⟩

theorem Ext.below {B : Nat} (h : Ext S w w') (hB : B ≤ w.heap.size) (hs : ∀ k, k < B → ¬ S k) : Below B w w' :=
  ⟨h.os, h.tape, h.output, h.size, fun k hk => h.block k (Nat.lt_of_lt_of_le hk hB) (hs k hk)⟩

theorem Ext.belowAll (h : Ext no w w') : Below w.heap.size w w' := h.below (Nat.le_refl _) (fun _ _ h => h)

theorem Ext.cell (h : Ext S w w') {p : Addr} (hp : p.block < w.heap.size) (hn : ¬ S p.block) : w'.cell? p = w.cell? p :=
  World.cell?_of_block (w := w) (h.block p.block hp hn)

theorem Ext.frozen (h : Ext S w w') {p : Addr} (hp : p.block < w.heap.size) (hn : ¬ S p.block) : w'.frozen? p = w.frozen? p :=
  World.frozen?_of_block (w := w) (h.block p.block hp hn)

/-- A cell that was there is there still. -/
theorem Ext.keeps (h : Ext S w w') {p : Addr} {v : Value} (hc : w.cell? p = some v) (hn : ¬ S p.block) : w'.cell? p = some v :=
  (h.cell (World.block_lt_of_cell? w p hc) hn).trans hc

theorem add_block (a : Addr) (n : Nat) : (a.add n).block = a.block := by unfold Addr.add; split <;> rfl

/-! ### slices that are read -/

/-- The cells from a on are cs. -/
def Rd (w : World) (a : Option Addr) (cs : List Value) : Prop := ∀ j v, cs[j]? = some v → ∃ ad, a = some ad ∧ w.cell? (ad.add j) = some v

theorem Rd.nil (w : World) (a : Option Addr) : Rd w a [] := fun j v h => by simp at h

theorem Rd.ext {a : Option Addr} {cs : List Value} (h : Rd w a cs) (hx : Ext S w w') (hn : ∀ ad, a = some ad → ¬ S ad.block) : Rd w' a cs := by
  intro j v hj
  obtain ⟨ad, ha, hc⟩ := h j v hj
  exact ⟨ad, ha, hx.keeps hc (by rw [add_block]; exact hn ad ha)⟩

theorem Rd.take {a : Option Addr} {cs : List Value} (h : Rd w a cs) (k : Nat) : Rd w a (cs.take k) := by
  intro j v hj
  rw [List.getElem?_take] at hj
  split at hj
  · exact h j v hj
  · cases hj

theorem Rd.drop {a : Option Addr} {cs : List Value} (h : Rd w a cs) (k : Nat) : Rd w (a.map (·.add k)) (cs.drop k) := by
  intro j v hj
  rw [List.getElem?_drop] at hj
  obtain ⟨ad, ha, hc⟩ := h (k + j) v hj
  exact ⟨ad.add k, by simp [ha], by rw [Addr.add_add]; exact hc⟩

/-- Behind a cut 'x[l:]' of elements of s cells: the address as the walk writes it. -/
theorem Rd.cut {a : Option Addr} {cs : List Value} (h : Rd w a cs) (m l s : Nat) (hm : m = l → cs.length ≤ l * s) :
    Rd w (if m = l then a else a.map (·.add (l * s))) (cs.drop (l * s)) := by
  split
  · rename_i e
    rw [List.drop_eq_nil_of_le (hm e)]
    exact Rd.nil _ _
  · exact h.drop _

theorem Rd.ne {a : Option Addr} {cs : List Value} (h : Rd w a cs) (hl : 0 < cs.length) : ∃ ad, a = some ad ∧ ad.block < w.heap.size := by
  obtain ⟨ad, ha, hc⟩ := h 0 cs[0] (by simp [hl])
  have := World.block_lt_of_cell? w _ hc
  rw [add_block] at this
  exact ⟨ad, ha, this⟩

theorem Rd.cell {ad : Addr} {cs : List Value} (h : Rd w (some ad) cs) (j : Nat) (hj : j < cs.length) : w.cell? (ad.add j) = some cs[j] := by
  obtain ⟨ad', ha, hc⟩ := h j cs[j] (by simp [hj])
  cases ha
  exact hc

/-- The address written out. -/
theorem Rd.shape {a : Option Addr} {cs : List Value} (h : Rd w a cs) (hl : 0 < cs.length) : ∃ b off, a = some ⟨b, off, none⟩ ∧ b < w.heap.size := by
  obtain ⟨ad, ha, hc⟩ := h 0 cs[0] (by simp [hl])
  have hb := World.block_lt_of_cell? w _ hc
  obtain ⟨b, off, sp⟩ := ad
  rw [Addr.add_zero'] at hc hb
  cases sp with
  | none => exact ⟨b, off, ha, hb⟩
  | some s =>
    simp only [World.cell?] at hc
    cases hh : w.heap[b]? with
    | none => simp [hh] at hc
    | some ob => cases ob <;> simp_all
theorem Rd.lookup {b off : Nat} {cs : List Value} (h : Rd w (some ⟨b, off, none⟩) cs) (j : Nat) (hj : j < cs.length) : w.cell? ⟨b, off + j, none⟩ = some cs[j] := by
  have := h.cell j hj
  rwa [Addr.add_lit] at this

theorem Rd.get {ad : Addr} {cs : List Value} (h : Rd w (some ad) cs) {j : Nat} {v : Value} (hj : cs[j]? = some v) : w.cell? (ad.add j) = some v := by
  obtain ⟨ad', ha, hc⟩ := h j v hj
  cases ha
  exact hc

/-! ### numbers and bytes as cells -/

/-- A byte: a name that simp leaves alone. -/
def b8 (n : Nat) : UInt8 := UInt8.ofNat n
def B8 (b : UInt8) : Value := .int .u8 b.toNat
theorem b8_toNat (n : Nat) (h : n < 256) : (b8 n).toNat = n := UInt8.toNat_ofNat_of_lt' (by simpa using h)
theorem B8_b8 (n : Nat) (h : n < 256) : B8 (b8 n) = .int .u8 n := by unfold B8; rw [b8_toNat n h]
def I64 (n : Int) : Value := .int .i64 n
/-- Bytes as cells. -/
def bs (l : List UInt8) : List Value := l.map B8
def is (l : List Int) : List Value := l.map I64

@[simp] theorem bs_length (l : List UInt8) : (bs l).length = l.length := by simp [bs]
@[simp] theorem is_length (l : List Int) : (is l).length = l.length := by simp [is]
theorem bs_append (l m : List UInt8) : bs (l ++ m) = bs l ++ bs m := by simp [bs]
theorem is_append (l m : List Int) : is (l ++ m) = is l ++ is m := by simp [is]
theorem bs_take (l : List UInt8) (k : Nat) : (bs l).take k = bs (l.take k) := by simp [bs, List.map_take]
theorem bs_drop (l : List UInt8) (k : Nat) : (bs l).drop k = bs (l.drop k) := by simp [bs, List.map_drop]
theorem bs_reverse (l : List UInt8) : (bs l).reverse = bs l.reverse := by simp [bs]
theorem bs_int (l : List UInt8) : ∀ u ∈ bs l, ∃ q, u = .int .u8 q := by
  intro u hu
  simp only [bs, List.mem_map] at hu
  obtain ⟨b, _, rfl⟩ := hu
  exact ⟨_, rfl⟩
theorem bs_one (l : List UInt8) : ∀ u ∈ bs l, u.oneCell' = true := by
  intro u hu
  simp only [bs, List.mem_map] at hu
  obtain ⟨b, _, rfl⟩ := hu
  rfl
theorem is_one (l : List Int) : ∀ u ∈ is l, u.oneCell' = true := by
  intro u hu
  simp only [is, List.mem_map] at hu
  obtain ⟨b, _, rfl⟩ := hu
  rfl

theorem lt_size_of_cell {p : Addr} (h : (w.cell? p).isSome = true) : p.block < w.heap.size := by
  obtain ⟨v, hv⟩ := Option.isSome_iff_exists.1 h
  exact World.block_lt_of_cell? w p hv

theorem heap_setCells (b : Nat) : ∀ (vs : List Value) (o : Nat) (w : World) (k : Nat), k ≠ b → (w.setCells b o vs).heap[k]? = w.heap[k]? := by
  intro vs
  induction vs with
  | nil => intro o w k _; rfl
  | cons v vs ih => intro o w k hk; simp only [World.setCells]; rw [ih _ _ _ hk]; exact Below.heap_setCell _ _ _ _ hk

theorem setCells_same (b : Nat) : ∀ (vs : List Value) (o : Nat) (w : World), (w.setCells b o vs).os = w.os ∧ (w.setCells b o vs).tape = w.tape ∧ (w.setCells b o vs).output = w.output ∧ (w.setCells b o vs).heap.size = w.heap.size := by
  intro vs
  induction vs with
  | nil => intro o w; exact ⟨rfl, rfl, rfl, rfl⟩
  | cons v vs ih => intro o w; simp only [World.setCells]; obtain ⟨h1, h2, h3, h4⟩ := ih (o + 1) (w.setCell ⟨b, o, none⟩ v); exact ⟨h1, h2, h3, by rw [h4]; simp⟩

theorem Ext.setCells (b o : Nat) (vs : List Value) (w : World) (hs : S b) : Ext S w (w.setCells b o vs) := by
  obtain ⟨h1, h2, h3, h4⟩ := setCells_same b vs o w
  exact ⟨h1, h2, h3, by omega, fun k _ hn => heap_setCells b vs o w k (fun h => hn (h ▸ hs))⟩

theorem isSome_setCells (b : Nat) : ∀ (vs : List Value) (o : Nat) (w : World) (x : Addr), ((w.setCells b o vs).cell? x).isSome = (w.cell? x).isSome := by
  intro vs
  induction vs with
  | nil => intro o w x; rfl
  | cons v vs ih =>
    intro o w x
    simp only [World.setCells]
    rw [ih]
    by_cases h : (⟨b, o, none⟩ : Addr) = x
    · subst h
      cases hc : w.cell? ⟨b, o, none⟩ with
      | some u => rw [World.cell?_setCell_same _ _ _ hc]; rfl
      | none =>
        cases hc' : (w.setCell ⟨b, o, none⟩ v).cell? ⟨b, o, none⟩ with
        | none => rfl
        | some u =>
          exfalso
          unfold World.cell? World.setCell at *
          simp only [Array.getElem?_modify, if_true] at hc'
          cases hh : w.heap[b]? with
          | none => simp [hh] at hc'
          | some ob =>
            cases ob <;> simp_all
    · rw [World.cell?_setCell_other _ _ _ _ h]

/-! ### slices that the call owns -/

/-- The slice of n elements (k cells each), capacity c, at a: its elements' cells are cs, all its cells may be written; it lies from block B on. -/
structure Own (w : World) (B : Nat) (a : Option Addr) (k n c : Nat) (cs : List Value) : Prop where
  rd : Rd w a cs
  len : cs.length = n * k
  nc : n ≤ c
  cm : c ≤ maxLen
  can : ∀ j, j < c * k → ∃ ad, a = some ad ∧ (w.cell? (ad.add j)).isSome = true ∧ w.frozen? (ad.add j) = false
  base : ∀ ad, a = some ad → B ≤ ad.block ∧ ad.block < w.heap.size ∧ ad.spot = none

theorem Own.nil (w : World) (B k : Nat) : Own w B none k 0 0 [] :=
  ⟨Rd.nil _ _, by simp, Nat.le_refl _, Nat.zero_le _, fun j h => by simp at h, fun ad h => by cases h⟩

theorem Own.ext {B k n c : Nat} {a : Option Addr} {cs : List Value} (h : Own w B a k n c cs) (hx : Ext S w w') (hn : ∀ ad, a = some ad → ¬ S ad.block) : Own w' B a k n c cs :=
  ⟨h.rd.ext hx hn, h.len, h.nc, h.cm, fun j hj => by
    obtain ⟨ad, ha, h1, h2⟩ := h.can j hj
    have hb := h.base ad ha
    have hp : (ad.add j).block < w.heap.size := by rw [add_block]; exact hb.2.1
    have hn' : ¬ S (ad.add j).block := by rw [add_block]; exact hn ad ha
    exact ⟨ad, ha, by rw [hx.cell hp hn']; exact h1, by rw [hx.frozen hp hn']; exact h2⟩,
   fun ad ha => ⟨(h.base ad ha).1, Nat.lt_of_lt_of_le (h.base ad ha).2.1 hx.size, (h.base ad ha).2.2⟩⟩

theorem Own.mono {B B' k n c : Nat} {a : Option Addr} {cs : List Value} (h : Own w B a k n c cs) (hB : B' ≤ B) : Own w B' a k n c cs :=
  ⟨h.rd, h.len, h.nc, h.cm, h.can, fun ad ha => ⟨Nat.le_trans hB (h.base ad ha).1, (h.base ad ha).2⟩⟩

theorem Own.drew {B k n c : Nat} {a : Option Addr} {cs : List Value} (h : Own w B a k n c cs) : Own w.drew B a k n c cs := h.ext (Ext.drew no w) (fun _ _ h => h)
theorem Own.alloc {B k n c : Nat} {a : Option Addr} {cs : List Value} (h : Own w B a k n c cs) (o : Obj) : Own (w.alloc o) B a k n c cs := h.ext (Ext.alloc no w o) (fun _ _ h => h)
theorem Rd.drew {a : Option Addr} {cs : List Value} (h : Rd w a cs) : Rd w.drew a cs := h.ext (Ext.drew no w) (fun _ _ h => h)
theorem Rd.alloc {a : Option Addr} {cs : List Value} (h : Rd w a cs) (o : Obj) : Rd (w.alloc o) a cs := h.ext (Ext.alloc no w o) (fun _ _ h => h)
theorem Own.notBlk {B k n c i : Nat} {a : Option Addr} {cs : List Value} (h : Own w B a k n c cs) (hi : i < B) : ¬ blk a i := by
  rintro ⟨ad, ha, hb⟩
  have := (h.base ad ha).1
  omega
/-- What was written lay in a slice that the call owns. -/
theorem Own.below {B k n c : Nat} {a : Option Addr} {cs : List Value} (h : Own w B a k n c cs) (hx : Ext (blk a) w w') (hB : B ≤ w.heap.size) : Below B w w' := hx.below hB (fun _ hk => h.notBlk hk)
theorem Ext.ofBelow {B : Nat} (h : Below B w w') (hB : w.heap.size ≤ B) : Ext no w w' := ⟨h.os, h.tape, h.output, h.size, fun k hk _ => h.block k (Nat.lt_of_lt_of_le hk hB)⟩

/-- A new block is owned whole. -/
theorem Own.fresh (w : World) (B k n c : Nat) (cs : List Value) (e : TypeId) (fr : Nat × Nat) (cells : Array Value) (hB : B ≤ w.heap.size) (hl : cs.length = n * k) (hnc : n ≤ c) (hcm : c ≤ maxLen)
    (hsz : cells.size = c * k) (hcs : cells.toList.take (n * k) = cs) (hfr : fr.2 ≤ fr.1 ∨ cells.size ≤ fr.1) : Own (w.alloc (.cells cells e fr)) B (some ⟨w.heap.size, 0, none⟩) k n c cs := by
  have hnew : (w.alloc (.cells cells e fr)).heap[w.heap.size]? = some (.cells cells e fr) := heap_alloc_new w _
  have hcell : ∀ j, (w.alloc (.cells cells e fr)).cell? ⟨w.heap.size, j, none⟩ = cells[j]? := fun j => by
    simp only [World.cell?, hnew]; simp
  refine ⟨?_, hl, hnc, hcm, ?_, ?_⟩
  · intro j v hj
    refine ⟨_, rfl, ?_⟩
    rw [Addr.add_lit, hcell, Nat.zero_add]
    rw [← hcs, List.getElem?_take] at hj
    split at hj
    · simpa using hj
    · cases hj
  · intro j hj
    refine ⟨_, rfl, ?_, ?_⟩
    · rw [Addr.add_lit, hcell, Nat.zero_add]; simp [hsz, hj]
    · simp only [Addr.add_lit, World.frozen?, hnew, Nat.zero_add]
      rw [hsz] at hfr
      simp only [Bool.and_eq_false_iff, decide_eq_false_iff_not]
      omega
  · intro ad h
    cases h
    exact ⟨hB, by simp, rfl⟩

theorem Rd.one (w : World) (v : Value) (e : TypeId) (fr : Nat × Nat) : Rd (w.alloc (.cells #[v] e fr)) (some ⟨w.heap.size, 0, none⟩) [v] := by
  intro j u hj
  match j, hj with
  | 0, hj =>
    simp at hj
    subst hj
    refine ⟨_, rfl, ?_⟩
    have hnew : (w.alloc (.cells #[v] e fr)).heap[w.heap.size]? = some (.cells #[v] e fr) := heap_alloc_new w _
    simp only [World.cell?, Addr.add, if_true, hnew]
    simp
  | j + 1, hj => simp at hj

theorem Rd.lit (w : World) (cs : Array Value) (e : TypeId) (fr : Nat × Nat) : Rd (w.alloc (.cells cs e fr)) (some ⟨w.heap.size, 0, none⟩) cs.toList := by
  intro j u hj
  refine ⟨_, rfl, ?_⟩
  have hnew : (w.alloc (.cells cs e fr)).heap[w.heap.size]? = some (.cells cs e fr) := heap_alloc_new w _
  rw [Addr.add_lit, Nat.zero_add, cell_of_row _ _ _ _ _ _ hnew]
  simpa using hj

/-- A store into an owned slice. -/
theorem Own.set {B k n c : Nat} {ad : Addr} {cs : List Value} (h : Own w B (some ad) k n c cs) (j : Nat) (hj : j < n * k) (v : Value) :
    Own (w.setCell (ad.add j) v) B (some ad) k n c (cs.set j v) := by
  have hne : ∀ i, i ≠ j → ad.add j ≠ ad.add i := by
    intro i hi he
    obtain ⟨_, _, hs⟩ := h.base ad rfl
    obtain ⟨b, o, s⟩ := ad
    simp only at hs
    subst hs
    rw [Addr.add_lit, Addr.add_lit] at he
    simp only [Addr.mk.injEq] at he
    omega
  have hsome : ∀ p : Addr, ((w.setCell (ad.add j) v).cell? p).isSome = (w.cell? p).isSome := by
    intro p
    obtain ⟨_, _, hs⟩ := h.base ad rfl
    obtain ⟨b, o, s⟩ := ad
    simp only at hs
    subst hs
    rw [Addr.add_lit]
    exact isSome_setCells b [v] (o + j) w p
  have hfz : ∀ p : Addr, (w.setCell (ad.add j) v).frozen? p = w.frozen? p := by
    intro p
    obtain ⟨_, _, hs⟩ := h.base ad rfl
    obtain ⟨b, o, s⟩ := ad
    simp only at hs
    subst hs
    rw [Addr.add_lit]
    exact World.frozen?_setCells b [v] (o + j) w p
  refine ⟨?_, by simpa using h.len, h.nc, h.cm, ?_, ?_⟩
  · intro i u hi
    refine ⟨ad, rfl, ?_⟩
    have hjl : j < cs.length := by rw [h.len]; exact hj
    by_cases hij : i = j
    · subst hij
      rw [List.getElem?_set_self hjl] at hi
      cases hi
      exact World.cell?_setCell_same _ _ _ (h.rd.cell i hjl)
    · rw [List.getElem?_set_ne (Ne.symm hij)] at hi
      rw [World.cell?_setCell_other _ _ _ _ (hne i hij)]
      exact h.rd.get hi
  · intro i hi
    obtain ⟨ad', ha, h1, h2⟩ := h.can i hi
    exact ⟨ad', ha, by rw [hsome]; exact h1, by rw [hfz]; exact h2⟩
  · intro ad' ha
    obtain ⟨h1, h2, h3⟩ := h.base ad' ha
    exact ⟨h1, by simpa using h2, h3⟩

/-- What the type table says of a slice type t, its elements e: zero value z, k cells, by bytes. -/
structure SlT (P : Program) (t e : TypeId) (z : Value) (k by' : Nat) : Prop where
  und : P.underlying t = some (.slice e)
  info : (P.info? e).map (fun i => (i.zero, i.size, i.bytes)) = some (some z, k, by')
  zk : z.cells.size = k
  k0 : 0 < k

theorem Own.front {B k n c : Nat} {a : Option Addr} {cs : List Value} (h : Own w B a k n c cs) (n' : Nat) (hn : n' ≤ n) : Own w B a k n' c (cs.take (n' * k)) :=
  ⟨h.rd.take _, by rw [List.length_take, h.len, Nat.min_eq_left (Nat.mul_le_mul_right _ hn)], Nat.le_trans hn h.nc, h.cm, h.can, h.base⟩

/-- What appending onto an owned slice (at a, of n elements xs) leaves: a slice at a' with zs (m elements) behind; the old one as it was; nothing else written. -/
structure App (w w' : World) (B k : Nat) (a : Option Addr) (n c : Nat) (xs : List Value) (a' : Option Addr) (c' m : Nat) (zs : List Value) : Prop where
  own : Own w' B a' k (n + m) c' (xs ++ zs)
  old : Own w' B a k n c xs
  ext : Ext (blk a) w w'
  loc : (a' = a ∧ c' = c) ∨ ∀ ad, a' = some ad → w.heap.size ≤ ad.block

theorem App.start {B k n c : Nat} {a : Option Addr} {xs : List Value} (h : Own w B a k n c xs) : App w w B k a n c xs a c 0 [] :=
  ⟨by simpa using h, h, Ext.refl _ _, .inl ⟨rfl, rfl⟩⟩

theorem App.trans {B k n c : Nat} {a : Option Addr} {xs : List Value} {a' : Option Addr} {c' m : Nat} {zs : List Value} {a'' : Option Addr} {c'' q : Nat} {ys : List Value}
    (h : App w w' B k a n c xs a' c' m zs) (g : App w' w'' B k a' (n + m) c' (xs ++ zs) a'' c'' q ys) (hb : ∀ ad, a = some ad → ad.block < w.heap.size) : App w w'' B k a n c xs a'' c'' (m + q) (zs ++ ys) := by
  refine ⟨by rw [← Nat.add_assoc, ← List.append_assoc]; exact g.own, ?_, ?_, ?_⟩
  · rcases h.loc with ⟨rfl, rfl⟩ | hl
    · have := g.old.front n (by omega)
      rwa [← h.old.len, List.take_left' rfl] at this
    · refine h.old.ext g.ext ?_
      rintro ad ha ⟨ad', ha', he⟩
      have := hl ad' ha'
      have := hb ad ha
      omega
  · refine h.ext.trans g.ext ?_
    rintro i hi ⟨ad', ha', he⟩
    rcases h.loc with ⟨rfl, rfl⟩ | hl
    · exact ⟨ad', ha', he⟩
    · have := hl ad' ha'
      omega
  · have hs := h.ext.size
    rcases g.loc with ⟨rfl, rfl⟩ | gl
    · exact h.loc
    · exact .inr fun ad ha => Nat.le_trans hs (gl ad ha)

/-- The same, what was appended said otherwise. -/
theorem App.cast {B k n c : Nat} {a : Option Addr} {xs : List Value} {a' : Option Addr} {c' m m' : Nat} {zs zs' : List Value} (h : App w w' B k a n c xs a' c' m zs) (hm : m = m') (hz : zs = zs') : App w w' B k a n c xs a' c' m' zs' := hm ▸ hz ▸ h

/-- Behind other writes. -/
theorem App.later {B k n c : Nat} {a : Option Addr} {xs : List Value} {a' : Option Addr} {c' m : Nat} {zs : List Value} (h : App w w' B k a n c xs a' c' m zs) (hx : Ext no w' w'') : App w w'' B k a n c xs a' c' m zs :=
  ⟨h.own.ext hx (fun _ _ h => h), h.old.ext hx (fun _ _ h => h), h.ext.trans hx (fun _ _ h => h.elim), h.loc⟩
theorem App.pre {B k n c : Nat} {a : Option Addr} {xs : List Value} {a' : Option Addr} {c' m : Nat} {zs : List Value} (hx : Ext no w w') (h : App w' w'' B k a n c xs a' c' m zs) : App w w'' B k a n c xs a' c' m zs :=
  ⟨h.own, h.old, (hx.mono (fun _ _ h => h.elim)).comp h.ext, h.loc.imp id fun l ad ha => Nat.le_trans hx.size (l ad ha)⟩

section append
variable {P : Program}

theorem firstCells_nothing (x : Option Addr) (m c k : Nat) (hm : m * k = 0) (w : World) : (Builtin.firstCells k m (.slice x m c)).run P w = .ok #[] w := by
  cases x with
  | none => simp [Builtin.firstCells]
  | some ad => simp [Builtin.firstCells, hm, loadCells, loadCellsFrom]

/-- append onto an owned slice, of whatever source: both arms; the old slice stands as it was. -/
theorem run_append_src {t u ty e : TypeId} {z : Value} {k by' : Nat} (T : SlT P t e z k by') {d : TypeDesc} (hu : P.underlying u = some d) (hd : d = .string ∨ ∃ e', d = .slice e')
    {B n c : Nat} {sa : Option Addr} {xs : List Value} (ho : Own w B sa k n c xs)
    {x : Value} {m : Nat} {ys : List Value} (hlx : ∀ w, (Builtin.lenOf x).run P w = .ok m w) (hf : (Builtin.firstCells k m x).run P w = .ok ys.toArray w) (hf' : (Builtin.firstCells k m x).run P w.drew = .ok ys.toArray w.drew)
    (hl : ys.length = m * k) (h1 : ∀ u ∈ ys, u.oneCell' = true) (h63 : n + m ≤ maxLen) (hby : (n + m) * by' ≤ 140737488355328) (hB : B ≤ w.heap.size) :
    ∃ sa' c' w', (Builtin.append_ #[t, u] ty #[.slice sa n c, x]).run P w = .ok (.slice sa' (n + m) c') w' ∧ App w w' B k sa n c xs sa' c' m ys := by
  obtain ⟨i, hi, hz, hk, hb⟩ := info_parts T.info
  have hund := T.und
  have hm63 : n + m ≤ 9223372036854775807 := h63
  have hlen : (xs ++ ys).length = (n + m) * k := by rw [List.length_append, ho.len, hl, Nat.add_mul]
  have hk0 := T.k0
  have fresh : ∀ (cap old : Nat) (R : Nat → Prop), n + m ≤ cap → cap ≤ maxLen →
      Own (w.drew.alloc (.cells (xs.toArray ++ ys.toArray ++ Builtin.zeroCells z.cells (cap - (n + m))) e)) B (some ⟨w.heap.size, 0, none⟩) k (n + m) cap (xs ++ ys) ∧
      Own (w.drew.alloc (.cells (xs.toArray ++ ys.toArray ++ Builtin.zeroCells z.cells (cap - (n + m))) e)) B sa k n c xs ∧
      Ext R w (w.drew.alloc (.cells (xs.toArray ++ ys.toArray ++ Builtin.zeroCells z.cells (cap - (n + m))) e)) := by
    intro cap old R hcap hcm
    have hx : ∀ R : Nat → Prop, Ext R w (w.drew.alloc (.cells (xs.toArray ++ ys.toArray ++ Builtin.zeroCells z.cells (cap - (n + m))) e)) := fun R => (Ext.drew R w).comp (Ext.alloc R w.drew _)
    refine ⟨Own.fresh w.drew B k (n + m) cap (xs ++ ys) e (0, 0) _ hB hlen hcap hcm ?_ ?_ (.inl (Nat.le_refl _)), ho.ext (hx no) (fun _ _ h => h), hx R⟩
    · simp only [Array.size_append, List.size_toArray, size_zeroCells, T.zk, ho.len, hl, ← Nat.add_mul]
      congr 1
      omega
    · simp only [Array.toList_append, List.append_assoc]
      rw [← List.append_assoc, ← hlen]
      exact List.take_left
  by_cases hroom : n + m ≤ c
  · by_cases hm : m = 0
    · subst hm
      have hy : ys = [] := List.eq_nil_of_length_eq_zero (by simpa using hl)
      subst hy
      refine ⟨sa, c, w, ?_, App.start ho⟩
      have hnc := ho.nc
      have hwr : (Builtin.firstCells i.size 0 x).run P w = .ok #[] w := by rw [hk]; exact hf
      cases sa with
      | none => rcases hd with rfl | ⟨e', rfl⟩ <;> simp [Builtin.append_, run_underlying hund, run_underlying hu, sizeOf, typeInfo, hi, hlx, hnc, hwr]
      | some b => rcases hd with rfl | ⟨e', rfl⟩ <;> simp [Builtin.append_, run_underlying hund, run_underlying hu, sizeOf, typeInfo, hi, hlx, hnc, hwr, storeCells]
    · have hpos : n * k < c * k := Nat.mul_lt_mul_of_pos_right (by omega) hk0
      obtain ⟨b, hsa, _, _⟩ := ho.can (n * k) hpos
      obtain ⟨hb1, hb2, hb3⟩ := ho.base b hsa
      obtain ⟨bb, off, spot⟩ := b
      simp only at hb1 hb2 hb3
      subst hb3
      subst hsa
      have hle : n * k + ys.length ≤ c * k := by rw [hl, ← Nat.add_mul]; exact Nat.mul_le_mul_right _ hroom
      have hcan : ∀ j, j < ys.length → (w.cell? ⟨bb, off + n * k + j, none⟩).isSome = true ∧ w.frozen? ⟨bb, off + n * k + j, none⟩ = false := by
        intro j hj
        obtain ⟨ad', ha, c1, c2⟩ := ho.can (n * k + j) (by omega)
        cases ha
        rw [Addr.add_lit, ← Nat.add_assoc] at c1 c2
        exact ⟨c1, c2⟩
      have hst := run_storeCells_cells (P := P) bb (off + n * k) ys 0 w (by simpa using fun j hj => (hcan j hj).1) (by simpa using fun j hj => (hcan j hj).2) h1
      simp only [Nat.add_zero] at hst
      have hwr : (Builtin.firstCells i.size m x).run P w = .ok ys.toArray w := by rw [hk]; exact hf
      have hrun : (Builtin.append_ #[t, u] ty #[.slice (some ⟨bb, off, none⟩) n c, x]).run P w = .ok (.slice (some ⟨bb, off, none⟩) (n + m) c) (w.setCells bb (off + n * k) ys) := by
        rw [hk] at hwr
        rcases hd with rfl | ⟨e', rfl⟩ <;> simp [Builtin.append_, run_underlying hund, run_underlying hu, sizeOf, typeInfo, hi, hlx, hroom, hwr, Addr.add_lit, hk, hst]
      have hx : Ext (blk (some ⟨bb, off, none⟩)) w (w.setCells bb (off + n * k) ys) := Ext.setCells bb _ ys w ⟨_, rfl, rfl⟩
      have hcan' : ∀ j, j < c * k → ∃ ad', some (⟨bb, off, none⟩ : Addr) = some ad' ∧ ((w.setCells bb (off + n * k) ys).cell? (ad'.add j)).isSome = true ∧ (w.setCells bb (off + n * k) ys).frozen? (ad'.add j) = false := by
        intro j hj
        obtain ⟨ad', ha, c1, c2⟩ := ho.can j hj
        exact ⟨ad', ha, by rw [isSome_setCells]; exact c1, by rw [World.frozen?_setCells]; exact c2⟩
      have hbase' : ∀ ad', some (⟨bb, off, none⟩ : Addr) = some ad' → B ≤ ad'.block ∧ ad'.block < (w.setCells bb (off + n * k) ys).heap.size ∧ ad'.spot = none := by
        intro ad' ha
        cases ha
        exact ⟨hb1, by rw [(setCells_same bb ys _ w).2.2.2]; exact hb2, rfl⟩
      have hold : ∀ j v, xs[j]? = some v → (w.setCells bb (off + n * k) ys).cell? ⟨bb, off + j, none⟩ = some v := by
        intro j v hj
        have hjl : j < xs.length := by
          rcases Nat.lt_or_ge j xs.length with h | h
          · exact h
          · rw [List.getElem?_eq_none h] at hj; cases hj
        rw [World.cell?_setCells_out bb ys _ w _ (fun _ _ => .inl (by have := ho.len; simp only; omega))]
        have := ho.rd.get hj
        rwa [Addr.add_lit] at this
      refine ⟨_, _, _, hrun, ⟨?_, hlen, hroom, ho.cm, hcan', hbase'⟩, ⟨?_, ho.len, ho.nc, ho.cm, hcan', hbase'⟩, hx, .inl ⟨rfl, rfl⟩⟩
      · intro j v hj
        refine ⟨_, rfl, ?_⟩
        rw [Addr.add_lit]
        by_cases hjx : j < xs.length
        · rw [List.getElem?_append_left hjx] at hj
          exact hold j v hj
        · rw [List.getElem?_append_right (by omega)] at hj
          have hjy : j - xs.length < ys.length := by
            rcases Nat.lt_or_ge (j - xs.length) ys.length with h | h
            · exact h
            · rw [List.getElem?_eq_none h] at hj; cases hj
          have hin := World.cell?_setCells_in bb ys (off + n * k) w (fun j hj => (hcan j hj).1) (j - xs.length) hjy
          have e1 : off + n * k + (j - xs.length) = off + j := by have := ho.len; omega
          rw [e1] at hin
          rw [hin]
          rw [List.getElem?_eq_getElem hjy] at hj
          exact hj
      · intro j v hj
        refine ⟨_, rfl, ?_⟩
        rw [Addr.add_lit]
        exact hold j v hj
  · have hn : ¬ (n + m ≤ c) := hroom
    have h63' : ¬ (9223372036854775807 < ((n : Int) + (m : Int))) := by omega
    have h48' : ¬ (281474976710656 < Builtin.nextslicecap (n + m) c * i.bytes) := by rw [hb]; have := growslice_fits (need := n + m) (old := c) (by omega) hby; omega
    have hwr : (Builtin.firstCells i.size m x).run P w.drew = .ok ys.toArray w.drew := by rw [hk]; exact hf'
    have hfo : (Builtin.firstCells i.size n (.slice sa n c)).run P w.drew = .ok xs.toArray w.drew := by
      cases sa with
      | none =>
        have hx0 : xs = [] := by
          cases xs with
          | nil => rfl
          | cons v vs => obtain ⟨_, h, _⟩ := ho.rd 0 v rfl; cases h
        subst hx0
        exact run_firstCells_none _ _ _ _ _
      | some b => exact run_firstCells_some (P := P) w.drew i.size n b n c xs (by rw [ho.len, hk]) (fun j v hj => by simpa using ho.rd.get hj)
    have hrun : (Builtin.append_ #[t, u] ty #[.slice sa n c, x]).run P w =
        .ok (.slice (some ⟨w.heap.size, 0, none⟩) (n + m) (grownCap w (n + m) c e)) (w.drew.alloc (.cells (xs.toArray ++ ys.toArray ++ Builtin.zeroCells z.cells (grownCap w (n + m) c e - (n + m))) e)) := by
      rcases hd with rfl | ⟨e', rfl⟩
      all_goals
        simp [Builtin.append_, run_underlying hund, run_underlying hu, sizeOf, typeInfo, zeroValue, hi, hz, hlx, hn, h63', h48', Question.forced, hwr, hfo, newRow, grownCap]
        congr 2
        apply Array.ext'
        simp [List.append_assoc]
    obtain ⟨f1, f2, f3⟩ := fresh (grownCap w (n + m) c e) c (blk sa) (grownCap_ge _ _ _ _) (grownCap_le_maxLen _ _ _ _ h63)
    exact ⟨_, _, _, hrun, f1, f2, f3, .inr fun ad ha => by cases ha; exact Nat.le_refl _⟩

/-- append onto an owned slice, of whatever slice. -/
theorem run_append {t ty e : TypeId} {z : Value} {k by' : Nat} (T : SlT P t e z k by') {B n c : Nat} {sa : Option Addr} {xs : List Value} (ho : Own w B sa k n c xs)
    {xa : Option Addr} {m cx : Nat} {ys : List Value} (hr : Rd w xa ys) (hl : ys.length = m * k) (h1 : ∀ u ∈ ys, u.oneCell' = true) (h63 : n + m ≤ maxLen) (hby : (n + m) * by' ≤ 140737488355328) (hB : B ≤ w.heap.size) :
    ∃ sa' c' w', (Builtin.append_ #[t, t] ty #[.slice sa n c, .slice xa m cx]).run P w = .ok (.slice sa' (n + m) c') w' ∧ App w w' B k sa n c xs sa' c' m ys := by
  have hf : ∀ w : World, Rd w xa ys → (Builtin.firstCells k m (.slice xa m cx)).run P w = .ok ys.toArray w := by
    intro w hr
    cases xa with
    | none =>
      have hy : ys = [] := by
        cases ys with
        | nil => rfl
        | cons v vs => obtain ⟨_, h, _⟩ := hr 0 v rfl; cases h
      subst hy
      exact run_firstCells_none _ _ _ _ _
    | some ad => exact run_firstCells_some (P := P) w k m ad m cx ys hl (fun j v hj => hr.get hj)
  exact run_append_src T T.und (.inr ⟨_, rfl⟩) ho (fun w => by simp [Builtin.lenOf]) (hf w hr) (hf w.drew hr.drew) hl h1 h63 hby hB

/-- append onto an owned slice of bytes, of a string. -/
theorem run_append_string {t u ty e : TypeId} (T : SlT P t e (.int .u8 0) 1 1) (hu : P.underlying u = some .string) {B n c : Nat} {sa : Option Addr} {xs : List Value} (ho : Own w B sa 1 n c xs)
    {s : ByteArray} (h63 : n + s.size ≤ maxLen) (hby : n + s.size ≤ 140737488355328) (hB : B ≤ w.heap.size) :
    ∃ sa' c' w', (Builtin.append_ #[t, u] ty #[.slice sa n c, .string s]).run P w = .ok (.slice sa' (n + s.size) c') w' ∧ App w w' B 1 sa n c xs sa' c' s.size (bs s.data.toList) := by
  have he : s.extract 0 s.size = s := by
    simp
  have hf : ∀ w : World, (Builtin.firstCells 1 s.size (.string s)).run P w = .ok (bs s.data.toList).toArray w := by
    intro w
    simp only [Builtin.firstCells, he, Sem.run_pure]
    congr 1
    apply Array.ext'
    simp only [Array.toList_map, bs]
    rfl
  exact run_append_src T hu (.inl rfl) ho (fun w => by simp [Builtin.lenOf]) (hf w) (hf w.drew) (by rw [bs_length, Array.length_toList, Nat.mul_one]; rfl) (bs_one _) h63 (by omega) hB

/-- What could be read before the call can be read still. -/
theorem Rd.below {a : Option Addr} {cs : List Value} (h : Rd w a cs) (hb : Below w.heap.size w w') : Rd w' a cs := h.ext (Ext.ofBelow hb (Nat.le_refl _)) (fun _ _ h => h)

/-- A slice that a call appends to (its block is one of the call's own: from w0's size on, below M), beside what was there at w0. -/
structure Grows (w0 : World) (M : Nat) (k : Nat) (a : Option Addr) (n c : Nat) (xs : List Value) (w : World) : Prop where
  own : Own w w0.heap.size a k n c xs
  below : Below w0.heap.size w0 w
  size : M ≤ w.heap.size
  lt : ∀ ad, a = some ad → ad.block < M

theorem Grows.no {w0 : World} {M k n c : Nat} {a : Option Addr} {xs : List Value} (h : Grows w0 M k a n c xs w) (hx : Ext no w w') : Grows w0 M k a n c xs w' :=
  ⟨h.own.ext hx (fun _ _ h => h), h.below.trans (hx.below (Nat.le_trans h.below.size (Nat.le_refl _)) (fun _ _ h => h)), Nat.le_trans h.size hx.size, h.lt⟩
theorem Grows.app {w0 : World} {M k n c : Nat} {a : Option Addr} {xs : List Value} {a' : Option Addr} {c' m : Nat} {zs : List Value} (h : Grows w0 M k a n c xs w) (g : App w w' w0.heap.size k a n c xs a' c' m zs) : Grows w0 M k a n c xs w' :=
  ⟨g.old, h.below.trans (h.own.below g.ext h.below.size), Nat.le_trans h.size g.ext.size, h.lt⟩
theorem Grows.le {w0 : World} {M k n c : Nat} {a : Option Addr} {xs : List Value} (h : Grows w0 M k a n c xs w) : w0.heap.size ≤ w.heap.size := h.below.size
/-- What lies from M on is not touched by what is appended. -/
theorem Grows.keep {w0 : World} {M k n c : Nat} {a : Option Addr} {xs : List Value} {a' : Option Addr} {c' m : Nat} {zs : List Value} (h : Grows w0 M k a n c xs w) (g : App w w' w0.heap.size k a n c xs a' c' m zs)
    {B' k' n' c2 : Nat} {b : Option Addr} {cs : List Value} (o : Own w B' b k' n' c2 cs) (hB : M ≤ B') : Own w' B' b k' n' c2 cs :=
  o.ext g.ext (by
    rintro ad ha ⟨ad', ha', he⟩
    have := (o.base ad ha).1
    have := h.lt ad' ha'
    omega)

/-! ### cuts of slices -/

/-- The address of 'x[l:..]'. -/
def cutAt (sa : Option Addr) (c l k : Nat) : Option Addr := if c = l then sa else sa.map (·.add (l * k))

theorem cutAt_zero (sa : Option Addr) (c k : Nat) : cutAt sa c 0 k = sa := by
  unfold cutAt
  split
  · rfl
  · cases sa <;> simp [Addr.add]

theorem cutAt_block {sa : Option Addr} {c l k : Nat} {ad : Addr} (h : cutAt sa c l k = some ad) : ∃ ad0, sa = some ad0 ∧ ad.block = ad0.block := by
  unfold cutAt at h
  split at h
  · exact ⟨ad, h, rfl⟩
  · simp only [Option.map_eq_some_iff] at h
    obtain ⟨x, hx, rfl⟩ := h
    exact ⟨x, hx, add_block _ _⟩

theorem Rd.cutAt {a : Option Addr} {cs : List Value} (h : Rd w a cs) (c l k : Nat) (hc : c = l → cs.length ≤ l * k) : Rd w (cutAt a c l k) (cs.drop (l * k)) := by
  unfold Esc.cutAt
  exact Rd.cut h c l k hc

theorem Own.cutAt {B k n c : Nat} {a : Option Addr} {cs : List Value} (o : Own w B a k n c cs) (l h : Nat) (hl : l ≤ h) (hh : h ≤ n) : Own w B (cutAt a c l k) k (h - l) (c - l) ((cs.take (h * k)).drop (l * k)) := by
  have hnc := o.nc
  refine ⟨(o.rd.take (h * k)).cutAt c l k (fun e => ?_), ?_, by omega, by have := o.cm; omega, ?_, ?_⟩
  · rw [List.length_take]
    have : h ≤ l := by omega
    exact Nat.le_trans (Nat.min_le_left _ _) (Nat.mul_le_mul_right _ this)
  · rw [List.length_drop, List.length_take, o.len, Nat.min_eq_left (Nat.mul_le_mul_right _ hh), Nat.sub_mul]
  · intro j hj
    rw [Nat.sub_mul] at hj
    obtain ⟨ad, ha, h1, h2⟩ := o.can (l * k + j) (by omega)
    have hne : c ≠ l := by rintro rfl; simp at hj
    refine ⟨ad.add (l * k), by unfold Esc.cutAt; rw [if_neg hne, ha]; rfl, ?_, ?_⟩
    · rw [Addr.add_add]; exact h1
    · rw [Addr.add_add]; exact h2
  · intro ad ha
    unfold Esc.cutAt at ha
    split at ha
    · exact o.base ad ha
    · simp only [Option.map_eq_some_iff] at ha
      obtain ⟨x, hx, rfl⟩ := ha
      obtain ⟨b1, b2, b3⟩ := o.base x hx
      refine ⟨by rw [add_block]; exact b1, by rw [add_block]; exact b2, ?_⟩
      unfold Addr.add
      split
      · exact b3
      · rfl

section cuts
variable {P : Program}

theorem elem_of {t e : TypeId} (h : P.underlying t = some (.slice e)) : P.elem t = e := by simp [Program.elem, h]

theorem run_cut_lh {t e : TypeId} {z : Value} {k by' : Nat} (T : SlT P t e z k by') (w : World) (sa : Option Addr) (n c : Nat) (kl kh : IntKind) (l h : Nat) (h1 : l ≤ h) (h2 : h ≤ c) :
    (Instr.sliceAt t (.slice sa n c) (some (.int kl l)) (some (.int kh h)) none).run P w = .ok (.slice (cutAt sa c l k) (h - l) (c - l)) w := by
  obtain ⟨i, hi, hz, hk, hb⟩ := info_parts T.info
  have he := elem_of T.und
  have ht : P.underlying t = some (.slice (P.elem t)) := by rw [he]; exact T.und
  rw [run_sliceAt_slice w t _ _ _ _ ht, run_slice_lh w t sa n c ht kl kh l h (by omega) (by omega) (by omega)]
  simp [he, sizeOf, typeInfo, hi, hk, sliced, cutAt]
theorem run_cut_h {t e : TypeId} {z : Value} {k by' : Nat} (T : SlT P t e z k by') (w : World) (sa : Option Addr) (n c : Nat) (kh : IntKind) (h : Nat) (h2 : h ≤ c) :
    (Instr.sliceAt t (.slice sa n c) none (some (.int kh h)) none).run P w = .ok (.slice sa h c) w := by
  obtain ⟨i, hi, hz, hk, hb⟩ := info_parts T.info
  have he := elem_of T.und
  have ht : P.underlying t = some (.slice (P.elem t)) := by rw [he]; exact T.und
  rw [run_sliceAt_slice w t _ _ _ _ ht, run_slice_h w t sa n c ht kh h (by omega) (by omega)]
  have := cutAt_zero sa c k
  unfold cutAt at this
  simp [he, sizeOf, typeInfo, hi, hk, sliced]
  simpa using this
theorem run_cut_l {t e : TypeId} {z : Value} {k by' : Nat} (T : SlT P t e z k by') (w : World) (sa : Option Addr) (n c : Nat) (kl : IntKind) (l : Nat) (h1 : l ≤ n) :
    (Instr.sliceAt t (.slice sa n c) (some (.int kl l)) none none).run P w = .ok (.slice (cutAt sa c l k) (n - l) (c - l)) w := by
  obtain ⟨i, hi, hz, hk, hb⟩ := info_parts T.info
  have he := elem_of T.und
  have ht : P.underlying t = some (.slice (P.elem t)) := by rw [he]; exact T.und
  rw [run_sliceAt_slice w t _ _ _ _ ht, run_slice_l w t sa n c ht kl l (by omega) (by omega)]
  simp [he, sizeOf, typeInfo, hi, hk, sliced, cutAt]

theorem wpList_cut_lh {ops : Array Oper} {rest : List Oper} {o : Oper} {a : Act} {Q : Exit → Act → World → Prop} {t e : TypeId} {z : Value} {k by' : Nat} (T : SlT P t e z k by') (hgd : o.guard = none) {x lo hi : Operand}
    (hop : o.op = .slice t x (some lo) (some hi) none) {sa : Option Addr} {n c : Nat} (hx : a.eval x = .slice sa n c) {kl kh : IntKind} {l' h' : Int} (hl : a.eval lo = .int kl l') (hh : a.eval hi = .int kh h') (l h : Nat) (el : l' = l) (eh : h' = h)
    (h1 : l ≤ h) (h2 : h ≤ c) (H : wpList P ops Q rest (a.put o.dst (.slice (cutAt sa c l k) (h - l) (c - l))) w) : wpList P ops Q (o :: rest) a w := by
  subst el eh
  refine wpList_plain hgd fun K hK => ?_
  unfold Oper.wp execOp
  simp only [hop, hx, hl, hh, Option.map_some, Option.map_none, Sem.run_bind, run_cut_lh T w sa n c kl kh l h h1 h2, Result.andThen_ok, Sem.run_pure]
  exact hK _ _ H
theorem wpList_cut_h {ops : Array Oper} {rest : List Oper} {o : Oper} {a : Act} {Q : Exit → Act → World → Prop} {t e : TypeId} {z : Value} {k by' : Nat} (T : SlT P t e z k by') (hgd : o.guard = none) {x hi : Operand}
    (hop : o.op = .slice t x none (some hi) none) {sa : Option Addr} {n c : Nat} (hx : a.eval x = .slice sa n c) {kh : IntKind} {h' : Int} (hh : a.eval hi = .int kh h') (h : Nat) (eh : h' = h)
    (h2 : h ≤ c) (H : wpList P ops Q rest (a.put o.dst (.slice sa h c)) w) : wpList P ops Q (o :: rest) a w := by
  subst eh
  refine wpList_plain hgd fun K hK => ?_
  unfold Oper.wp execOp
  simp only [hop, hx, hh, Option.map_some, Option.map_none, Sem.run_bind, run_cut_h T w sa n c kh h h2, Result.andThen_ok, Sem.run_pure]
  exact hK _ _ H
theorem wpList_cut_l {ops : Array Oper} {rest : List Oper} {o : Oper} {a : Act} {Q : Exit → Act → World → Prop} {t e : TypeId} {z : Value} {k by' : Nat} (T : SlT P t e z k by') (hgd : o.guard = none) {x lo : Operand}
    (hop : o.op = .slice t x (some lo) none none) {sa : Option Addr} {n c : Nat} (hx : a.eval x = .slice sa n c) {kl : IntKind} {l' : Int} (hl : a.eval lo = .int kl l') (l : Nat) (el : l' = l)
    (h1 : l ≤ n) (H : wpList P ops Q rest (a.put o.dst (.slice (cutAt sa c l k) (n - l) (c - l))) w) : wpList P ops Q (o :: rest) a w := by
  subst el
  refine wpList_plain hgd fun K hK => ?_
  unfold Oper.wp execOp
  simp only [hop, hx, hl, Option.map_some, Option.map_none, Sem.run_bind, run_cut_l T w sa n c kl l h1, Result.andThen_ok, Sem.run_pure]
  exact hK _ _ H
end cuts

/-! ### between bytes and strings -/

/-- A string of these bytes. -/
def str (l : List UInt8) : ByteArray := ⟨l.toArray⟩
theorem str_list (l : List UInt8) : (str l).data.toList = l := rfl
theorem str_size (l : List UInt8) : (str l).size = l.length := by simp [str, ByteArray.size]
theorem str_of (s : ByteArray) : str s.data.toList = s := rfl
theorem str_inj {l m : List UInt8} (h : str l = str m) : l = m := by rw [← str_list l, h, str_list]
theorem size_list (s : ByteArray) : s.data.toList.length = s.size := by rw [Array.length_toList]; rfl

theorem foldl_push (l : List UInt8) : ∀ acc : ByteArray, (l.map (fun b => (b.toNat : Int))).foldl (fun (r : ByteArray) (n : Int) => r.push (UInt8.ofNat n.toNat)) acc = ⟨(acc.data.toList ++ l).toArray⟩ := by
  induction l with
  | nil => intro acc; simp
  | cons b l ih =>
    intro acc
    rw [List.map_cons, List.foldl_cons, ih]
    simp [ByteArray.push]

theorem run_loadCells_rd {ad : Addr} {cs : List Value} (h : Rd w (some ad) cs) : (loadCells ad cs.length).run P w = .ok cs.toArray w := by
  have := run_firstCells_some (P := P) w 1 cs.length ad 0 0 cs (by simp) (fun j v hj => h.get hj)
  simpa [Builtin.firstCells] using this

theorem run_string_of {src dst e : TypeId} (hs : P.underlying src = some (.slice e)) (he : P.underlying e = some (.int .u8)) (hd : P.underlying dst = some .string) {a : Option Addr} {l : List UInt8} {c : Nat} (h : Rd w a (bs l)) :
    (convert src dst (.slice a l.length c)).run P w = .ok (.string (str l)) w := by
  rw [run_convert_bytes_string w src dst e a l.length c hs he hd]
  cases a with
  | none =>
    have h0 : l = [] := by
      cases l with
      | nil => rfl
      | cons x xs => obtain ⟨_, h, _⟩ := h 0 _ rfl; cases h
    subst h0
    simp [Conv.bytesToString, str]
    rfl
  | some ad =>
    have hl := run_loadCells_rd (P := P) h
    rw [bs_length] at hl
    have hm : bs l = (l.map (fun b => (b.toNat : Int))).map (Value.int .u8) := by simp [bs, B8, Function.comp_def]
    rw [hm] at hl
    rw [run_bytesToString w ad l.length c _ hl, foldl_push]
    rfl

theorem wpList_string_of {ops : Array Oper} {rest : List Oper} {o : Oper} {a : Act} {Q : Exit → Act → World → Prop} {src dst e : TypeId} (hs : P.underlying src = some (.slice e)) (he : P.underlying e = some (.int .u8)) (hd : P.underlying dst = some .string)
    (hgd : o.guard = none) {x : Operand} (hop : o.op = .convert src dst x) {v : Option Addr} {l : List UInt8} {n c : Nat} (hx : a.eval x = .slice v n c) (hn : n = l.length) (hr : Rd w v (bs l))
    (h : wpList P ops Q rest (a.put o.dst (.string (str l))) w) : wpList P ops Q (o :: rest) a w := by
  subst hn
  refine wpList_plain hgd fun K hK => ?_
  unfold Oper.wp execOp
  simp only [hop, hx, Sem.run_bind, run_string_of (P := P) (c := c) hs he hd hr, Result.andThen_ok, Sem.run_pure]
  exact hK _ _ h

theorem own_bytes_of (w : World) (B : Nat) (hB : B ≤ w.heap.size) (s : ByteArray) (hl : s.size ≤ maxLen) (e : TypeId) :
    Own (w.drew.alloc (.cells (bytesRow s (grownCap w s.size 0 e)) e ((bytesRow s (grownCap w s.size 0 e)).size, (bytesRow s (grownCap w s.size 0 e)).size + 1))) B (some ⟨w.heap.size, 0, none⟩) 1 s.size (grownCap w s.size 0 e) (bs s.data.toList) := by
  have hge := grownCap_ge w s.size 0 e
  have hsz : (bytesRow s (grownCap w s.size 0 e)).size = grownCap w s.size 0 e := by
    have : s.data.size = s.size := rfl
    simp [bytesRow, this]; omega
  refine Own.fresh w.drew B 1 s.size _ (bs s.data.toList) e _ _ hB (by rw [bs_length, size_list]; simp) hge (grownCap_le_maxLen _ _ _ _ hl) (by rw [hsz]; omega) ?_ (.inr (by simp))
  have hlen : (bs s.data.toList).length = s.size := by rw [bs_length, size_list]
  rw [bytesRow, Array.toList_append, Nat.mul_one, ← hlen]
  rw [show (s.data.map (fun b => Value.int .u8 b.toNat)).toList = bs s.data.toList from by simp only [Array.toList_map]; rfl]
  exact List.take_left

theorem wpList_bytes_of {ops : Array Oper} {rest : List Oper} {o : Oper} {a : Act} {Q : Exit → Act → World → Prop} {src dst e : TypeId} (hs : P.underlying src = some .string) (hd : P.underlying dst = some (.slice e)) (he : P.underlying e = some (.int .u8))
    (hgd : o.guard = none) {x : Operand} (hop : o.op = .convert src dst x) {s : ByteArray} (hx : a.eval x = .string s) (B : Nat) (hB : B ≤ w.heap.size) (hl : s.size ≤ maxLen)
    (h : ∀ v c w', Own w' B v 1 s.size c (bs s.data.toList) → Ext no w w' → wpList P ops Q rest (a.put o.dst (.slice v s.size c)) w') : wpList P ops Q (o :: rest) a w := by
  refine wpList_plain hgd fun K hK => ?_
  unfold Oper.wp execOp
  simp only [hop, hx, Sem.run_bind, run_bytes_of_string (P := P) w src dst e s hs hd he, Result.andThen_ok, Sem.run_pure]
  exact hK _ _ (h _ _ _ (own_bytes_of w B hB s hl e) ((Ext.drew no w).comp (Ext.alloc no _ _)))

/-- append of n zero elements, as slices.Grow has it, onto nil. -/
theorem run_append_zeros {t u ty e : TypeId} {z : Value} {by' : Nat} {ik : IntKind} (T : SlT P t e z 1 by') (hu : P.underlying u = some (.int ik)) {n : Nat} (w : World) (B : Nat) (hB : B ≤ w.heap.size)
    (h63 : n ≤ maxLen) (hby : n * by' ≤ 140737488355328) (hn : 0 < n) :
    ∃ c w', (Builtin.append_ #[t, u] ty #[.slice none 0 0, .int .i64 n]).run P w = .ok (.slice (some ⟨w.heap.size, 0, none⟩) n c) w' ∧ Own w' B (some ⟨w.heap.size, 0, none⟩) 1 0 c [] ∧ Ext no w w' := by
  obtain ⟨i, hi, hz, hk, hb⟩ := info_parts T.info
  have hund := T.und
  have h0 : n ≠ 0 := by omega
  have hm63 : n ≤ 9223372036854775807 := h63
  have h63' : ¬ (9223372036854775807 < (n : Int)) := by omega
  have hw : IntKind.i64.wrap (n : Int) = n := by rw [IntKind.wrap_i64]; omega
  have h48 : ¬ (281474976710656 < Builtin.nextslicecap n 0 * by') := by rw [nextslicecap_zero hn]; omega
  have h48' : ¬ (281474976710656 < (n : Int) * by') := by
    have := Int.ofNat_le.2 hby
    rw [Int.natCast_mul] at this
    generalize (n : Int) * (by' : Int) = q at *
    omega
  have hnn : ¬ ((n : Int) < 0) := by omega
  have hzs := T.zk
  refine ⟨grownCap w n 0 e, w.drew.alloc (.cells (Builtin.zeroCells z.cells n ++ Builtin.zeroCells z.cells (grownCap w n 0 e - n)) e), ?_, ?_, (Ext.drew no w).comp (Ext.alloc no _ _)⟩
  · simp [Builtin.append_, run_underlying hund, run_underlying hu, sizeOf, typeInfo, zeroValue, hi, hz, hk, hb, asInt, asIntOf, hw, hnn, h48', h0, h63', h48, Question.forced, Builtin.firstCells, newRow, grownCap]
  · refine Own.fresh w.drew B 1 0 _ [] e (0, 0) _ hB (by simp) (Nat.zero_le _) (grownCap_le_maxLen _ _ _ _ h63) ?_ (by simp) (.inl (Nat.le_refl _))
    have := grownCap_ge w n 0 e
    simp only [Array.size_append, size_zeroCells, hzs]
    omega

theorem wpList_append_zeros {ops : Array Oper} {rest : List Oper} {o : Oper} {a : Act} {Q : Exit → Act → World → Prop} {t u e : TypeId} {z : Value} {by' : Nat} {ik : IntKind} (T : SlT P t e z 1 by')
    (hgd : o.guard = none) {s x : Operand} (hop : o.op = .call { callee := .builtin .append, args := #[s, x], argTypes := #[t, u] }) (hu : P.underlying u = some (.int ik))
    {n : Nat} (hs : a.eval s = .slice none 0 0) (hx : a.eval x = .int .i64 n) (B : Nat) (hB : B ≤ w.heap.size) (h63 : n ≤ maxLen) (hby : n * by' ≤ 140737488355328) (hn : 0 < n)
    (h : ∀ c w', Own w' B (some ⟨w.heap.size, 0, none⟩) 1 0 c [] → Ext no w w' → wpList P ops Q rest (a.put o.dst (.slice (some ⟨w.heap.size, 0, none⟩) n c)) w') :
    wpList P ops Q (o :: rest) a w := by
  obtain ⟨c, w', hrun, h2, h3⟩ := run_append_zeros (P := P) (ty := o.type) T hu w B hB h63 hby hn
  refine wpList_plain hgd fun K hK => ?_
  unfold Oper.wp execOp
  simp only [hop, resolve, invoke, builtin, Sem.run_bind, Sem.run_pure, Result.andThen_ok, List.map_toArray, List.map_cons, List.map_nil, hs, hx, hrun]
  exact hK _ _ (h _ _ h2 h3)

/-- The law for the walk. -/
theorem wpList_append {ops : Array Oper} {rest : List Oper} {o : Oper} {a : Act} {Q : Exit → Act → World → Prop} {t e : TypeId} {z : Value} {k by' : Nat} (T : SlT P t e z k by')
    (hgd : o.guard = none) {s x : Operand} (hop : o.op = .call { callee := .builtin .append, args := #[s, x], argTypes := #[t, t] })
    {B n c : Nat} {sa : Option Addr} {xs : List Value} (hs : a.eval s = .slice sa n c) (ho : Own w B sa k n c xs)
    {xa : Option Addr} {m cx : Nat} {ys : List Value} (hx : a.eval x = .slice xa m cx) (hr : Rd w xa ys) (hl : ys.length = m * k) (h1 : ∀ u ∈ ys, u.oneCell' = true)
    (h63 : n + m ≤ maxLen) (hby : (n + m) * by' ≤ 140737488355328) (hB : B ≤ w.heap.size)
    (h : ∀ sa' c' w', App w w' B k sa n c xs sa' c' m ys → wpList P ops Q rest (a.put o.dst (.slice sa' (n + m) c')) w') :
    wpList P ops Q (o :: rest) a w := by
  obtain ⟨sa', c', w', hrun, h2⟩ := run_append (P := P) (ty := o.type) T ho (cx := cx) hr hl h1 h63 hby hB
  refine wpList_plain hgd fun K hK => ?_
  unfold Oper.wp execOp
  simp only [hop, resolve, invoke, builtin, Sem.run_bind, Sem.run_pure, Result.andThen_ok, List.map_toArray, List.map_cons, List.map_nil, hs, hx, hrun]
  exact hK _ _ (h _ _ _ h2)

theorem wpList_append_string {ops : Array Oper} {rest : List Oper} {o : Oper} {a : Act} {Q : Exit → Act → World → Prop} {t u e : TypeId} (T : SlT P t e (.int .u8 0) 1 1) (hu : P.underlying u = some .string)
    (hgd : o.guard = none) {s x : Operand} (hop : o.op = .call { callee := .builtin .append, args := #[s, x], argTypes := #[t, u] })
    {B n c : Nat} {sa : Option Addr} {xs : List Value} (hs : a.eval s = .slice sa n c) (ho : Own w B sa 1 n c xs) {st : ByteArray} (hx : a.eval x = .string st) (h63 : n + st.size ≤ maxLen) (hby : n + st.size ≤ 140737488355328) (hB : B ≤ w.heap.size)
    (h : ∀ sa' c' w', App w w' B 1 sa n c xs sa' c' st.size (bs st.data.toList) → wpList P ops Q rest (a.put o.dst (.slice sa' (n + st.size) c')) w') :
    wpList P ops Q (o :: rest) a w := by
  obtain ⟨sa', c', w', hrun, h2⟩ := run_append_string (P := P) (ty := o.type) T hu ho h63 hby hB
  refine wpList_plain hgd fun K hK => ?_
  unfold Oper.wp execOp
  simp only [hop, resolve, invoke, builtin, Sem.run_bind, Sem.run_pure, Result.andThen_ok, List.map_toArray, List.map_cons, List.map_nil, hs, hx, hrun]
  exact hK _ _ (h _ _ _ h2)

end append
end Go.Esc
