/- The texts Pz Base PlainA PlainB PlainC PlainE OpA OpF Sl Str Mk Row Open OpenT FrA FrP FrB FrC Region RegionB RegionF Py CodeA CodeB CodeC CodeD CodeD2 Recover in one. -/
import Derived.WalkKit
import Derived.WalkSpells
import Derived.WalkLawsBesides
import Derived.Lib.Hide
import Derived.Test.YtddobhihjljcgaaGreatRows
import Derived.Lib.Strings
import Derived.Laws.MakeOwn
import Derived.Laws.IdiomCopy
import Derived.ProofKit
import Derived.OpenShut
import Derived.Laws.BitsAll
import Derived.BigQuiet
import Derived.Deep.DeepCutAuto
import Derived.Outline
import Derived.OrdersHeld
import Derived.Recover
import Derived.Orders
/- The rules of an activation's slots in one. -/
namespace Go.Esc
theorem pz : (∀ (a : Act) (d : Tmp) (v : Value), a.put (some d) v = { a with tmps := a.tmps.setIfInBounds d v }) ∧ (∀ (a : Act) (v : Value), a.put none v = a) ∧ (∀ (l : List Value) (i : Nat) (v : Value), l.toArray.setIfInBounds i v = (l.set i v).toArray) ∧ (∀ (x : Value) (l : List Value) (v : Value), (x :: l).set 0 v = v :: l) ∧ (∀ (x : Value) (l : List Value) (n : Nat) (v : Value), (x :: l).set (n + 1) v = x :: l.set n v) :=
 ⟨fun _ _ _ => rfl, fun _ _ => rfl, fun _ _ _ => by simp, fun _ _ _ => rfl, fun _ _ _ _ => rfl⟩
end Go.Esc
/- Words for worlds, slices that are read, slices that a call owns; laws for the walk: of no program. -/
namespace Go.Esc
open Go.RowKit
/-- Nothing that was there has turned, but in the blocks of S. -/
structure Ext (S : Nat → Prop) (w w' : World) : Prop where
 os : w'.os = w.os
 tape : w'.tape = w.tape
 output : w'.output = w.output
 size : w.heap.size ≤ w'.heap.size
 block : ∀ k, k < w.heap.size → ¬ S k → w'.heap[k]? = w.heap[k]?
def no : Nat → Prop := fun _ => False
def just (g : Nat) : Nat → Prop := fun k => k = g
def upfrom (B : Nat) : Nat → Prop := fun k => B ≤ k
def blk (a : Option Addr) : Nat → Prop := fun k => ∃ ad, a = some ad ∧ ad.block = k
variable {S S' : Nat → Prop} {w w' w'' : World}
theorem Ext.refl (S : Nat → Prop) (w : World) : Ext S w w := ⟨rfl, rfl, rfl, Nat.le_refl _, fun _ _ _ => rfl⟩
theorem Ext.trans (h : Ext S w w') (h' : Ext S' w' w'') (hs : ∀ k, k < w.heap.size → S' k → S k) : Ext S w w'' :=
 ⟨h'.os.trans h.os, h'.tape.trans h.tape, h'.output.trans h.output, Nat.le_trans h.size h'.size, fun k hk hn =>
  (h'.block k (Nat.lt_of_lt_of_le hk h.size) (fun hh => hn (hs k hk hh))).trans (h.block k hk hn)⟩
theorem Ext.mono (h : Ext S w w') (hs : ∀ k, k < w.heap.size → S k → S' k) : Ext S' w w' :=
 ⟨h.os, h.tape, h.output, h.size, fun k hk hn => h.block k hk (fun hh => hn (hs k hk hh))⟩
theorem Ext.comp (h : Ext S w w') (h' : Ext S w' w'') : Ext S w w'' := h.trans h' (fun _ _ h => h)
theorem Ext.drew (S : Nat → Prop) (w : World) : Ext S w w.drew := ⟨rfl, rfl, rfl, Nat.le_refl _, fun _ _ _ => rfl⟩
theorem Ext.alloc (S : Nat → Prop) (w : World) (o : Obj) : Ext S w (w.alloc o) :=
 ⟨rfl, rfl, rfl, by simp, fun k hk _ => Below.heap_alloc _ _ _ hk⟩
theorem Ext.setCell (w : World) (a : Addr) (v : Value) (hs : S a.block) : Ext S w (w.setCell a v) :=
 ⟨rfl, rfl, rfl, by simp, fun k _ hn => Below.heap_setCell _ _ _ _ (fun h => hn (h ▸ hs))⟩
theorem Ext.below {B : Nat} (h : Ext S w w') (hB : B ≤ w.heap.size) (hs : ∀ k, k < B → ¬ S k) : Below B w w' :=
 ⟨h.os, h.tape, h.output, h.size, fun k hk => h.block k (Nat.lt_of_lt_of_le hk hB) (hs k hk)⟩
theorem Ext.belowAll (h : Ext no w w') : Below w.heap.size w w' := h.below (Nat.le_refl _) (fun _ _ h => h)
theorem Ext.cell (h : Ext S w w') {p : Addr} (hp : p.block < w.heap.size) (hn : ¬ S p.block) : w'.cell? p = w.cell? p :=
 World.cell?_of_block (w := w) (h.block p.block hp hn)
theorem Ext.frozen (h : Ext S w w') {p : Addr} (hp : p.block < w.heap.size) (hn : ¬ S p.block) : w'.frozen? p = w.frozen? p :=
 World.frozen?_of_block (w := w) (h.block p.block hp hn)
/-- A cell that was there is there still. -/
theorem Ext.keeps (h : Ext S w w') {p : Addr} {v : Value} (hc : w.cell? p = some v) (hn : ¬ S p.block) : w'.cell? p = some v :=
 (h.cell (World.block_lt_of_cell? w p hc) hn).trans hc
theorem add_block (a : Addr) (n : Nat) : (a.add n).block = a.block := by unfold Addr.add; split <;> rfl
/-! ### slices that are read -/
/-- The cells from a on are cs. -/
def Rd (w : World) (a : Option Addr) (cs : List Value) : Prop := ∀ j v, cs[j]? = some v → ∃ ad, a = some ad ∧ w.cell? (ad.add j) = some v
theorem Rd.nil (w : World) (a : Option Addr) : Rd w a [] := fun j v h => by simp at h
theorem Rd.ext {a : Option Addr} {cs : List Value} (h : Rd w a cs) (hx : Ext S w w') (hn : ∀ ad, a = some ad → ¬ S ad.block) : Rd w' a cs := by
 intro j v hj
 obtain ⟨ad, ha, hc⟩ := h j v hj
 exact ⟨ad, ha, hx.keeps hc (by rw [add_block]; exact hn ad ha)⟩
theorem Rd.take {a : Option Addr} {cs : List Value} (h : Rd w a cs) (k : Nat) : Rd w a (cs.take k) := by
 intro j v hj
 rw [List.getElem?_take] at hj
 split at hj
 ·exact h j v hj
 ·cases hj
theorem Rd.drop {a : Option Addr} {cs : List Value} (h : Rd w a cs) (k : Nat) : Rd w (a.map (·.add k)) (cs.drop k) := by
 intro j v hj
 rw [List.getElem?_drop] at hj
 obtain ⟨ad, ha, hc⟩ := h (k + j) v hj
 exact ⟨ad.add k, by simp [ha], by rw [Addr.add_add]; exact hc⟩
/-- Behind a cut 'x[l:]' of elements of s cells: the address as the walk writes it. -/
theorem Rd.cut {a : Option Addr} {cs : List Value} (h : Rd w a cs) (m l s : Nat) (hm : m = l → cs.length ≤ l * s) :
  Rd w (if m = l then a else a.map (·.add (l * s))) (cs.drop (l * s)) := by
 split
 ·rename_i e
  rw [List.drop_eq_nil_of_le (hm e)]
  exact Rd.nil _ _
 ·exact h.drop _
theorem Rd.ne {a : Option Addr} {cs : List Value} (h : Rd w a cs) (hl : 0 < cs.length) : ∃ ad, a = some ad ∧ ad.block < w.heap.size := by
 obtain ⟨ad, ha, hc⟩ := h 0 cs[0] (by simp [hl])
 have := World.block_lt_of_cell? w _ hc
 rw [add_block] at this
 exact ⟨ad, ha, this⟩
theorem Rd.cell {ad : Addr} {cs : List Value} (h : Rd w (some ad) cs) (j : Nat) (hj : j < cs.length) : w.cell? (ad.add j) = some cs[j] := by
 obtain ⟨ad', ha, hc⟩ := h j cs[j] (by simp [hj])
 cases ha
 exact hc
/-- The address written out. -/
theorem Rd.shape {a : Option Addr} {cs : List Value} (h : Rd w a cs) (hl : 0 < cs.length) : ∃ b off, a = some ⟨b, off, none⟩ ∧ b < w.heap.size := by
 obtain ⟨ad, ha, hc⟩ := h 0 cs[0] (by simp [hl])
 have hb := World.block_lt_of_cell? w _ hc
 obtain ⟨b, off, sp⟩ := ad
 rw [Addr.add_zero'] at hc hb
 cases sp with
 | none => exact ⟨b, off, ha, hb⟩
 | some s =>
  simp only [World.cell?] at hc
  cases hh : w.heap[b]? with
  | none => simp [hh] at hc
  | some ob => cases ob <;> simp_all
theorem Rd.lookup {b off : Nat} {cs : List Value} (h : Rd w (some ⟨b, off, none⟩) cs) (j : Nat) (hj : j < cs.length) : w.cell? ⟨b, off + j, none⟩ = some cs[j] := by
 have := h.cell j hj
 rwa [Addr.add_lit] at this
theorem Rd.get {ad : Addr} {cs : List Value} (h : Rd w (some ad) cs) {j : Nat} {v : Value} (hj : cs[j]? = some v) : w.cell? (ad.add j) = some v := by
 obtain ⟨ad', ha, hc⟩ := h j v hj
 cases ha
 exact hc
/-! ### numbers and bytes as cells -/
/-- A byte: a name that simp leaves alone. -/
def b8 (n : Nat) : UInt8 := UInt8.ofNat n
def B8 (b : UInt8) : Value := .int .u8 b.toNat
theorem b8_toNat (n : Nat) (h : n < 256) : (b8 n).toNat = n := UInt8.toNat_ofNat_of_lt' (by simpa using h)
theorem B8_b8 (n : Nat) (h : n < 256) : B8 (b8 n) = .int .u8 n := by unfold B8; rw [b8_toNat n h]
def I64 (n : Int) : Value := .int .i64 n
/-- Bytes as cells. -/
def bs (l : List UInt8) : List Value := l.map B8
def is (l : List Int) : List Value := l.map I64
@[simp] theorem bs_length (l : List UInt8) : (bs l).length = l.length := by simp [bs]
@[simp] theorem is_length (l : List Int) : (is l).length = l.length := by simp [is]
theorem bs_append (l m : List UInt8) : bs (l ++ m) = bs l ++ bs m := by simp [bs]
theorem bs_take (l : List UInt8) (k : Nat) : (bs l).take k = bs (l.take k) := by simp [bs, List.map_take]
theorem bs_drop (l : List UInt8) (k : Nat) : (bs l).drop k = bs (l.drop k) := by simp [bs, List.map_drop]
theorem bs_reverse (l : List UInt8) : (bs l).reverse = bs l.reverse := by simp [bs]
theorem bs_int (l : List UInt8) : ∀ u ∈ bs l, ∃ q, u = .int .u8 q := by
 intro u hu
 simp only [bs, List.mem_map] at hu
 obtain ⟨b, _, rfl⟩ := hu
 exact ⟨_, rfl⟩
theorem bs_one (l : List UInt8) : ∀ u ∈ bs l, u.oneCell' = true := by
 intro u hu
 simp only [bs, List.mem_map] at hu
 obtain ⟨b, _, rfl⟩ := hu
 rfl
theorem heap_setCells (b : Nat) : ∀ (vs : List Value) (o : Nat) (w : World) (k : Nat), k ≠ b → (w.setCells b o vs).heap[k]? = w.heap[k]? := by
 intro vs
 induction vs with
 | nil => intro o w k _; rfl
 | cons v vs ih => intro o w k hk; simp only [World.setCells]; rw [ih _ _ _ hk]; exact Below.heap_setCell _ _ _ _ hk
theorem setCells_same (b : Nat) : ∀ (vs : List Value) (o : Nat) (w : World), (w.setCells b o vs).os = w.os ∧ (w.setCells b o vs).tape = w.tape ∧ (w.setCells b o vs).output = w.output ∧ (w.setCells b o vs).heap.size = w.heap.size := by
 intro vs
 induction vs with
 | nil => intro o w; exact ⟨rfl, rfl, rfl, rfl⟩
 | cons v vs ih => intro o w; simp only [World.setCells]; obtain ⟨h1, h2, h3, h4⟩ := ih (o + 1) (w.setCell ⟨b, o, none⟩ v); exact ⟨h1, h2, h3, by rw [h4]; simp⟩
theorem Ext.setCells (b o : Nat) (vs : List Value) (w : World) (hs : S b) : Ext S w (w.setCells b o vs) := by
 obtain ⟨h1, h2, h3, h4⟩ := setCells_same b vs o w
 exact ⟨h1, h2, h3, by omega, fun k _ hn => heap_setCells b vs o w k (fun h => hn (h ▸ hs))⟩
theorem isSome_setCells (b : Nat) : ∀ (vs : List Value) (o : Nat) (w : World) (x : Addr), ((w.setCells b o vs).cell? x).isSome = (w.cell? x).isSome := by
 intro vs
 induction vs with
 | nil => intro o w x; rfl
 | cons v vs ih =>
  intro o w x
  simp only [World.setCells]
  rw [ih]
  by_cases h : (⟨b, o, none⟩ : Addr) = x
  ·subst h
   cases hc : w.cell? ⟨b, o, none⟩ with
   | some u => rw [World.cell?_setCell_same _ _ _ hc]; rfl
   | none =>
    cases hc' : (w.setCell ⟨b, o, none⟩ v).cell? ⟨b, o, none⟩ with
    | none => rfl
    | some u =>
     exfalso
     unfold World.cell? World.setCell at *
     simp only [Array.getElem?_modify, if_true] at hc'
     cases hh : w.heap[b]? with
     | none => simp [hh] at hc'
     | some ob =>
      cases ob <;> simp_all
  ·rw [World.cell?_setCell_other _ _ _ _ h]
/-! ### slices that the call owns -/
/-- The slice of n elements (k cells each), capacity c, at a: its elements' cells are cs, all its cells may be written; it lies from block B on. -/
structure Own (w : World) (B : Nat) (a : Option Addr) (k n c : Nat) (cs : List Value) : Prop where
 rd : Rd w a cs
 len : cs.length = n * k
 nc : n ≤ c
 cm : c ≤ maxLen
 can : ∀ j, j < c * k → ∃ ad, a = some ad ∧ (w.cell? (ad.add j)).isSome = true ∧ w.frozen? (ad.add j) = false
 base : ∀ ad, a = some ad → B ≤ ad.block ∧ ad.block < w.heap.size ∧ ad.spot = none
theorem Own.nil (w : World) (B k : Nat) : Own w B none k 0 0 [] :=
 ⟨Rd.nil _ _, by simp, Nat.le_refl _, Nat.zero_le _, fun j h => by simp at h, fun ad h => by cases h⟩
theorem Own.ext {B k n c : Nat} {a : Option Addr} {cs : List Value} (h : Own w B a k n c cs) (hx : Ext S w w') (hn : ∀ ad, a = some ad → ¬ S ad.block) : Own w' B a k n c cs :=
 ⟨h.rd.ext hx hn, h.len, h.nc, h.cm, fun j hj => by
  obtain ⟨ad, ha, h1, h2⟩ := h.can j hj
  have hb := h.base ad ha
  have hp : (ad.add j).block < w.heap.size := by rw [add_block]; exact hb.2.1
  have hn' : ¬ S (ad.add j).block := by rw [add_block]; exact hn ad ha
  exact ⟨ad, ha, by rw [hx.cell hp hn']; exact h1, by rw [hx.frozen hp hn']; exact h2⟩,
  fun ad ha => ⟨(h.base ad ha).1, Nat.lt_of_lt_of_le (h.base ad ha).2.1 hx.size, (h.base ad ha).2.2⟩⟩
theorem Own.mono {B B' k n c : Nat} {a : Option Addr} {cs : List Value} (h : Own w B a k n c cs) (hB : B' ≤ B) : Own w B' a k n c cs :=
 ⟨h.rd, h.len, h.nc, h.cm, h.can, fun ad ha => ⟨Nat.le_trans hB (h.base ad ha).1, (h.base ad ha).2⟩⟩
theorem Own.drew {B k n c : Nat} {a : Option Addr} {cs : List Value} (h : Own w B a k n c cs) : Own w.drew B a k n c cs := h.ext (Ext.drew no w) (fun _ _ h => h)
theorem Own.alloc {B k n c : Nat} {a : Option Addr} {cs : List Value} (h : Own w B a k n c cs) (o : Obj) : Own (w.alloc o) B a k n c cs := h.ext (Ext.alloc no w o) (fun _ _ h => h)
theorem Rd.drew {a : Option Addr} {cs : List Value} (h : Rd w a cs) : Rd w.drew a cs := h.ext (Ext.drew no w) (fun _ _ h => h)
theorem Rd.alloc {a : Option Addr} {cs : List Value} (h : Rd w a cs) (o : Obj) : Rd (w.alloc o) a cs := h.ext (Ext.alloc no w o) (fun _ _ h => h)
theorem Own.notBlk {B k n c i : Nat} {a : Option Addr} {cs : List Value} (h : Own w B a k n c cs) (hi : i < B) : ¬ blk a i := by
 rintro ⟨ad, ha, hb⟩
 have := (h.base ad ha).1
 omega
/-- What was written lay in a slice that the call owns. -/
theorem Own.below {B k n c : Nat} {a : Option Addr} {cs : List Value} (h : Own w B a k n c cs) (hx : Ext (blk a) w w') (hB : B ≤ w.heap.size) : Below B w w' := hx.below hB (fun _ hk => h.notBlk hk)
theorem Ext.ofBelow {B : Nat} (h : Below B w w') (hB : w.heap.size ≤ B) : Ext no w w' := ⟨h.os, h.tape, h.output, h.size, fun k hk _ => h.block k (Nat.lt_of_lt_of_le hk hB)⟩
/-- A new block is owned whole. -/
theorem Own.fresh (w : World) (B k n c : Nat) (cs : List Value) (e : TypeId) (fr : Nat × Nat) (cells : Array Value) (hB : B ≤ w.heap.size) (hl : cs.length = n * k) (hnc : n ≤ c) (hcm : c ≤ maxLen)
  (hsz : cells.size = c * k) (hcs : cells.toList.take (n * k) = cs) (hfr : fr.2 ≤ fr.1 ∨ cells.size ≤ fr.1) : Own (w.alloc (.cells cells e fr)) B (some ⟨w.heap.size, 0, none⟩) k n c cs := by
 have hnew : (w.alloc (.cells cells e fr)).heap[w.heap.size]? = some (.cells cells e fr) := heap_alloc_new w _
 have hcell : ∀ j, (w.alloc (.cells cells e fr)).cell? ⟨w.heap.size, j, none⟩ = cells[j]? := fun j => by
  simp only [World.cell?, hnew]; simp
 refine ⟨?_, hl, hnc, hcm, ?_, ?_⟩
 ·intro j v hj
  refine ⟨_, rfl, ?_⟩
  rw [Addr.add_lit, hcell, Nat.zero_add]
  rw [← hcs, List.getElem?_take] at hj
  split at hj
  ·simpa using hj
  ·cases hj
 ·intro j hj
  refine ⟨_, rfl, ?_, ?_⟩
  ·rw [Addr.add_lit, hcell, Nat.zero_add]; simp [hsz, hj]
  ·simp only [Addr.add_lit, World.frozen?, hnew, Nat.zero_add]
   rw [hsz] at hfr
   simp only [Bool.and_eq_false_iff, decide_eq_false_iff_not]
   omega
 ·intro ad h
  cases h
  exact ⟨hB, by simp, rfl⟩
theorem Rd.one (w : World) (v : Value) (e : TypeId) (fr : Nat × Nat) : Rd (w.alloc (.cells #[v] e fr)) (some ⟨w.heap.size, 0, none⟩) [v] := by
 intro j u hj
 match j, hj with
 | 0, hj =>
  simp at hj
  subst hj
  refine ⟨_, rfl, ?_⟩
  have hnew : (w.alloc (.cells #[v] e fr)).heap[w.heap.size]? = some (.cells #[v] e fr) := heap_alloc_new w _
  simp only [World.cell?, Addr.add, if_true, hnew]
  simp
 | j + 1, hj => simp at hj
theorem Rd.lit (w : World) (cs : Array Value) (e : TypeId) (fr : Nat × Nat) : Rd (w.alloc (.cells cs e fr)) (some ⟨w.heap.size, 0, none⟩) cs.toList := by
 intro j u hj
 refine ⟨_, rfl, ?_⟩
 have hnew : (w.alloc (.cells cs e fr)).heap[w.heap.size]? = some (.cells cs e fr) := heap_alloc_new w _
 rw [Addr.add_lit, Nat.zero_add, cell_of_row _ _ _ _ _ _ hnew]
 simpa using hj
/-- A store into an owned slice. -/
theorem Own.set {B k n c : Nat} {ad : Addr} {cs : List Value} (h : Own w B (some ad) k n c cs) (j : Nat) (hj : j < n * k) (v : Value) :
  Own (w.setCell (ad.add j) v) B (some ad) k n c (cs.set j v) := by
 have hne : ∀ i, i ≠ j → ad.add j ≠ ad.add i := by
  intro i hi he
  obtain ⟨_, _, hs⟩ := h.base ad rfl
  obtain ⟨b, o, s⟩ := ad
  simp only at hs
  subst hs
  rw [Addr.add_lit, Addr.add_lit] at he
  simp only [Addr.mk.injEq] at he
  omega
 have hsome : ∀ p : Addr, ((w.setCell (ad.add j) v).cell? p).isSome = (w.cell? p).isSome := by
  intro p
  obtain ⟨_, _, hs⟩ := h.base ad rfl
  obtain ⟨b, o, s⟩ := ad
  simp only at hs
  subst hs
  rw [Addr.add_lit]
  exact isSome_setCells b [v] (o + j) w p
 have hfz : ∀ p : Addr, (w.setCell (ad.add j) v).frozen? p = w.frozen? p := by
  intro p
  obtain ⟨_, _, hs⟩ := h.base ad rfl
  obtain ⟨b, o, s⟩ := ad
  simp only at hs
  subst hs
  rw [Addr.add_lit]
  exact World.frozen?_setCells b [v] (o + j) w p
 refine ⟨?_, by simpa using h.len, h.nc, h.cm, ?_, ?_⟩
 ·intro i u hi
  refine ⟨ad, rfl, ?_⟩
  have hjl : j < cs.length := by rw [h.len]; exact hj
  by_cases hij : i = j
  ·subst hij
   rw [List.getElem?_set_self hjl] at hi
   cases hi
   exact World.cell?_setCell_same _ _ _ (h.rd.cell i hjl)
  ·rw [List.getElem?_set_ne (Ne.symm hij)] at hi
   rw [World.cell?_setCell_other _ _ _ _ (hne i hij)]
   exact h.rd.get hi
 ·intro i hi
  obtain ⟨ad', ha, h1, h2⟩ := h.can i hi
  exact ⟨ad', ha, by rw [hsome]; exact h1, by rw [hfz]; exact h2⟩
 ·intro ad' ha
  obtain ⟨h1, h2, h3⟩ := h.base ad' ha
  exact ⟨h1, by simpa using h2, h3⟩
/-- What the type table says of a slice type t, its elements e: zero value z, k cells, by bytes. -/
structure SlT (P : Program) (t e : TypeId) (z : Value) (k by' : Nat) : Prop where
 und : P.underlying t = some (.slice e)
 info : (P.info? e).map (fun i => (i.zero, i.size, i.bytes)) = some (some z, k, by')
 zk : z.cells.size = k
 k0 : 0 < k
theorem Own.front {B k n c : Nat} {a : Option Addr} {cs : List Value} (h : Own w B a k n c cs) (n' : Nat) (hn : n' ≤ n) : Own w B a k n' c (cs.take (n' * k)) :=
 ⟨h.rd.take _, by rw [List.length_take, h.len, Nat.min_eq_left (Nat.mul_le_mul_right _ hn)], Nat.le_trans hn h.nc, h.cm, h.can, h.base⟩
/-- What appending onto an owned slice (at a, of n elements xs) leaves: a slice at a' with zs (m elements) behind; the old one as it was; nothing else written. -/
structure App (w w' : World) (B k : Nat) (a : Option Addr) (n c : Nat) (xs : List Value) (a' : Option Addr) (c' m : Nat) (zs : List Value) : Prop where
 own : Own w' B a' k (n + m) c' (xs ++ zs)
 old : Own w' B a k n c xs
 ext : Ext (blk a) w w'
 loc : (a' = a ∧ c' = c) ∨ ∀ ad, a' = some ad → w.heap.size ≤ ad.block
theorem App.start {B k n c : Nat} {a : Option Addr} {xs : List Value} (h : Own w B a k n c xs) : App w w B k a n c xs a c 0 [] :=
 ⟨by simpa using h, h, Ext.refl _ _, .inl ⟨rfl, rfl⟩⟩
theorem App.trans {B k n c : Nat} {a : Option Addr} {xs : List Value} {a' : Option Addr} {c' m : Nat} {zs : List Value} {a'' : Option Addr} {c'' q : Nat} {ys : List Value}
  (h : App w w' B k a n c xs a' c' m zs) (g : App w' w'' B k a' (n + m) c' (xs ++ zs) a'' c'' q ys) (hb : ∀ ad, a = some ad → ad.block < w.heap.size) : App w w'' B k a n c xs a'' c'' (m + q) (zs ++ ys) := by
 refine ⟨by rw [← Nat.add_assoc, ← List.append_assoc]; exact g.own, ?_, ?_, ?_⟩
 ·rcases h.loc with ⟨rfl, rfl⟩ | hl
  ·have := g.old.front n (by omega)
   rwa [← h.old.len, List.take_left' rfl] at this
  ·refine h.old.ext g.ext ?_
   rintro ad ha ⟨ad', ha', he⟩
   have := hl ad' ha'
   have := hb ad ha
   omega
 ·refine h.ext.trans g.ext ?_
  rintro i hi ⟨ad', ha', he⟩
  rcases h.loc with ⟨rfl, rfl⟩ | hl
  ·exact ⟨ad', ha', he⟩
  ·have := hl ad' ha'
   omega
 ·have hs := h.ext.size
  rcases g.loc with ⟨rfl, rfl⟩ | gl
  ·exact h.loc
  ·exact .inr fun ad ha => Nat.le_trans hs (gl ad ha)
/-- The same, what was appended said otherwise. -/
theorem App.cast {B k n c : Nat} {a : Option Addr} {xs : List Value} {a' : Option Addr} {c' m m' : Nat} {zs zs' : List Value} (h : App w w' B k a n c xs a' c' m zs) (hm : m = m') (hz : zs = zs') : App w w' B k a n c xs a' c' m' zs' := hm ▸ hz ▸ h
/-- Behind other writes. -/
theorem App.later {B k n c : Nat} {a : Option Addr} {xs : List Value} {a' : Option Addr} {c' m : Nat} {zs : List Value} (h : App w w' B k a n c xs a' c' m zs) (hx : Ext no w' w'') : App w w'' B k a n c xs a' c' m zs :=
 ⟨h.own.ext hx (fun _ _ h => h), h.old.ext hx (fun _ _ h => h), h.ext.trans hx (fun _ _ h => h.elim), h.loc⟩
theorem App.pre {B k n c : Nat} {a : Option Addr} {xs : List Value} {a' : Option Addr} {c' m : Nat} {zs : List Value} (hx : Ext no w w') (h : App w' w'' B k a n c xs a' c' m zs) : App w w'' B k a n c xs a' c' m zs :=
 ⟨h.own, h.old, (hx.mono (fun _ _ h => h.elim)).comp h.ext, h.loc.imp id fun l ad ha => Nat.le_trans hx.size (l ad ha)⟩
section append
variable {P : Program}
/-- append onto an owned slice, of whatever source: both arms; the old slice stands as it was. -/
theorem run_append_src {t u ty e : TypeId} {z : Value} {k by' : Nat} (T : SlT P t e z k by') {d : TypeDesc} (hu : P.underlying u = some d) (hd : d = .string ∨ ∃ e', d = .slice e')
  {B n c : Nat} {sa : Option Addr} {xs : List Value} (ho : Own w B sa k n c xs)
  {x : Value} {m : Nat} {ys : List Value} (hlx : ∀ w, (Builtin.lenOf x).run P w = .ok m w) (hf : (Builtin.firstCells k m x).run P w = .ok ys.toArray w) (hf' : (Builtin.firstCells k m x).run P w.drew = .ok ys.toArray w.drew)
  (hl : ys.length = m * k) (h1 : ∀ u ∈ ys, u.oneCell' = true) (h63 : n + m ≤ maxLen) (hby : (n + m) * by' ≤ 140737488355328) (hB : B ≤ w.heap.size) :
  ∃ sa' c' w', (Builtin.append_ #[t, u] ty #[.slice sa n c, x]).run P w = .ok (.slice sa' (n + m) c') w' ∧ App w w' B k sa n c xs sa' c' m ys := by
 obtain ⟨i, hi, hz, hk, hb⟩ := info_parts T.info
 have hund := T.und
 have hm63 : n + m ≤ 9223372036854775807 := h63
 have hlen : (xs ++ ys).length = (n + m) * k := by rw [List.length_append, ho.len, hl, Nat.add_mul]
 have hk0 := T.k0
 have fresh : ∀ (cap old : Nat) (R : Nat → Prop), n + m ≤ cap → cap ≤ maxLen →
   Own (w.drew.alloc (.cells (xs.toArray ++ ys.toArray ++ Builtin.zeroCells z.cells (cap - (n + m))) e)) B (some ⟨w.heap.size, 0, none⟩) k (n + m) cap (xs ++ ys) ∧
   Own (w.drew.alloc (.cells (xs.toArray ++ ys.toArray ++ Builtin.zeroCells z.cells (cap - (n + m))) e)) B sa k n c xs ∧
   Ext R w (w.drew.alloc (.cells (xs.toArray ++ ys.toArray ++ Builtin.zeroCells z.cells (cap - (n + m))) e)) := by
  intro cap old R hcap hcm
  have hx : ∀ R : Nat → Prop, Ext R w (w.drew.alloc (.cells (xs.toArray ++ ys.toArray ++ Builtin.zeroCells z.cells (cap - (n + m))) e)) := fun R => (Ext.drew R w).comp (Ext.alloc R w.drew _)
  refine ⟨Own.fresh w.drew B k (n + m) cap (xs ++ ys) e (0, 0) _ hB hlen hcap hcm ?_ ?_ (.inl (Nat.le_refl _)), ho.ext (hx no) (fun _ _ h => h), hx R⟩
  ·simp only [Array.size_append, List.size_toArray, size_zeroCells, T.zk, ho.len, hl, ← Nat.add_mul]
   congr 1
   omega
  ·simp only [Array.toList_append, List.append_assoc]
   rw [← List.append_assoc, ← hlen]
   exact List.take_left
 by_cases hroom : n + m ≤ c
 ·by_cases hm : m = 0
  ·subst hm
   have hy : ys = [] := List.eq_nil_of_length_eq_zero (by simpa using hl)
   subst hy
   refine ⟨sa, c, w, ?_, App.start ho⟩
   have hnc := ho.nc
   have hwr : (Builtin.firstCells i.size 0 x).run P w = .ok #[] w := by rw [hk]; exact hf
   cases sa with
   | none => rcases hd with rfl | ⟨e', rfl⟩ <;> simp [Builtin.append_, run_underlying hund, run_underlying hu, sizeOf, typeInfo, hi, hlx, hnc, hwr]
   | some b => rcases hd with rfl | ⟨e', rfl⟩ <;> simp [Builtin.append_, run_underlying hund, run_underlying hu, sizeOf, typeInfo, hi, hlx, hnc, hwr, storeCells]
  ·have hpos : n * k < c * k := Nat.mul_lt_mul_of_pos_right (by omega) hk0
   obtain ⟨b, hsa, _, _⟩ := ho.can (n * k) hpos
   obtain ⟨hb1, hb2, hb3⟩ := ho.base b hsa
   obtain ⟨bb, off, spot⟩ := b
   simp only at hb1 hb2 hb3
   subst hb3
   subst hsa
   have hle : n * k + ys.length ≤ c * k := by rw [hl, ← Nat.add_mul]; exact Nat.mul_le_mul_right _ hroom
   have hcan : ∀ j, j < ys.length → (w.cell? ⟨bb, off + n * k + j, none⟩).isSome = true ∧ w.frozen? ⟨bb, off + n * k + j, none⟩ = false := by
    intro j hj
    obtain ⟨ad', ha, c1, c2⟩ := ho.can (n * k + j) (by omega)
    cases ha
    rw [Addr.add_lit, ← Nat.add_assoc] at c1 c2
    exact ⟨c1, c2⟩
   have hst := run_storeCells_cells (P := P) bb (off + n * k) ys 0 w (by simpa using fun j hj => (hcan j hj).1) (by simpa using fun j hj => (hcan j hj).2) h1
   simp only [Nat.add_zero] at hst
   have hwr : (Builtin.firstCells i.size m x).run P w = .ok ys.toArray w := by rw [hk]; exact hf
   have hrun : (Builtin.append_ #[t, u] ty #[.slice (some ⟨bb, off, none⟩) n c, x]).run P w = .ok (.slice (some ⟨bb, off, none⟩) (n + m) c) (w.setCells bb (off + n * k) ys) := by
    rw [hk] at hwr
    rcases hd with rfl | ⟨e', rfl⟩ <;> simp [Builtin.append_, run_underlying hund, run_underlying hu, sizeOf, typeInfo, hi, hlx, hroom, hwr, Addr.add_lit, hk, hst]
   have hx : Ext (blk (some ⟨bb, off, none⟩)) w (w.setCells bb (off + n * k) ys) := Ext.setCells bb _ ys w ⟨_, rfl, rfl⟩
   have hcan' : ∀ j, j < c * k → ∃ ad', some (⟨bb, off, none⟩ : Addr) = some ad' ∧ ((w.setCells bb (off + n * k) ys).cell? (ad'.add j)).isSome = true ∧ (w.setCells bb (off + n * k) ys).frozen? (ad'.add j) = false := by
    intro j hj
    obtain ⟨ad', ha, c1, c2⟩ := ho.can j hj
    exact ⟨ad', ha, by rw [isSome_setCells]; exact c1, by rw [World.frozen?_setCells]; exact c2⟩
   have hbase' : ∀ ad', some (⟨bb, off, none⟩ : Addr) = some ad' → B ≤ ad'.block ∧ ad'.block < (w.setCells bb (off + n * k) ys).heap.size ∧ ad'.spot = none := by
    intro ad' ha
    cases ha
    exact ⟨hb1, by rw [(setCells_same bb ys _ w).2.2.2]; exact hb2, rfl⟩
   have hold : ∀ j v, xs[j]? = some v → (w.setCells bb (off + n * k) ys).cell? ⟨bb, off + j, none⟩ = some v := by
    intro j v hj
    have hjl : j < xs.length := by
     rcases Nat.lt_or_ge j xs.length with h | h
     ·exact h
     ·rw [List.getElem?_eq_none h] at hj; cases hj
    rw [World.cell?_setCells_out bb ys _ w _ (fun _ _ => .inl (by have := ho.len; simp only; omega))]
    have := ho.rd.get hj
    rwa [Addr.add_lit] at this
   refine ⟨_, _, _, hrun, ⟨?_, hlen, hroom, ho.cm, hcan', hbase'⟩, ⟨?_, ho.len, ho.nc, ho.cm, hcan', hbase'⟩, hx, .inl ⟨rfl, rfl⟩⟩
   ·intro j v hj
    refine ⟨_, rfl, ?_⟩
    rw [Addr.add_lit]
    by_cases hjx : j < xs.length
    ·rw [List.getElem?_append_left hjx] at hj
     exact hold j v hj
    ·rw [List.getElem?_append_right (by omega)] at hj
     have hjy : j - xs.length < ys.length := by
      rcases Nat.lt_or_ge (j - xs.length) ys.length with h | h
      ·exact h
      ·rw [List.getElem?_eq_none h] at hj; cases hj
     have hin := World.cell?_setCells_in bb ys (off + n * k) w (fun j hj => (hcan j hj).1) (j - xs.length) hjy
     have e1 : off + n * k + (j - xs.length) = off + j := by have := ho.len; omega
     rw [e1] at hin
     rw [hin]
     rw [List.getElem?_eq_getElem hjy] at hj
     exact hj
   ·intro j v hj
    refine ⟨_, rfl, ?_⟩
    rw [Addr.add_lit]
    exact hold j v hj
 ·have hn : ¬ (n + m ≤ c) := hroom
  have h63' : ¬ (9223372036854775807 < ((n : Int) + (m : Int))) := by omega
  have h48' : ¬ (281474976710656 < Builtin.nextslicecap (n + m) c * i.bytes) := by rw [hb]; have := growslice_fits (need := n + m) (old := c) (by omega) hby; omega
  have hwr : (Builtin.firstCells i.size m x).run P w.drew = .ok ys.toArray w.drew := by rw [hk]; exact hf'
  have hfo : (Builtin.firstCells i.size n (.slice sa n c)).run P w.drew = .ok xs.toArray w.drew := by
   cases sa with
   | none =>
    have hx0 : xs = [] := by
     cases xs with
     | nil => rfl
     | cons v vs => obtain ⟨_, h, _⟩ := ho.rd 0 v rfl; cases h
    subst hx0
    exact run_firstCells_none _ _ _ _ _
   | some b => exact run_firstCells_some (P := P) w.drew i.size n b n c xs (by rw [ho.len, hk]) (fun j v hj => by simpa using ho.rd.get hj)
  have hrun : (Builtin.append_ #[t, u] ty #[.slice sa n c, x]).run P w =
    .ok (.slice (some ⟨w.heap.size, 0, none⟩) (n + m) (grownCap w (n + m) c e)) (w.drew.alloc (.cells (xs.toArray ++ ys.toArray ++ Builtin.zeroCells z.cells (grownCap w (n + m) c e - (n + m))) e)) := by
   rcases hd with rfl | ⟨e', rfl⟩
   all_goals
    simp [Builtin.append_, run_underlying hund, run_underlying hu, sizeOf, typeInfo, zeroValue, hi, hz, hlx, hn, h63', h48', Question.forced, hwr, hfo, newRow, grownCap]
    congr 2
    apply Array.ext'
    simp [List.append_assoc]
  obtain ⟨f1, f2, f3⟩ := fresh (grownCap w (n + m) c e) c (blk sa) (grownCap_ge _ _ _ _) (grownCap_le_maxLen _ _ _ _ h63)
  exact ⟨_, _, _, hrun, f1, f2, f3, .inr fun ad ha => by cases ha; exact Nat.le_refl _⟩
/-- append onto an owned slice, of whatever slice. -/
theorem run_append {t ty e : TypeId} {z : Value} {k by' : Nat} (T : SlT P t e z k by') {B n c : Nat} {sa : Option Addr} {xs : List Value} (ho : Own w B sa k n c xs)
  {xa : Option Addr} {m cx : Nat} {ys : List Value} (hr : Rd w xa ys) (hl : ys.length = m * k) (h1 : ∀ u ∈ ys, u.oneCell' = true) (h63 : n + m ≤ maxLen) (hby : (n + m) * by' ≤ 140737488355328) (hB : B ≤ w.heap.size) :
  ∃ sa' c' w', (Builtin.append_ #[t, t] ty #[.slice sa n c, .slice xa m cx]).run P w = .ok (.slice sa' (n + m) c') w' ∧ App w w' B k sa n c xs sa' c' m ys := by
 have hf : ∀ w : World, Rd w xa ys → (Builtin.firstCells k m (.slice xa m cx)).run P w = .ok ys.toArray w := by
  intro w hr
  cases xa with
  | none =>
   have hy : ys = [] := by
    cases ys with
    | nil => rfl
    | cons v vs => obtain ⟨_, h, _⟩ := hr 0 v rfl; cases h
   subst hy
   exact run_firstCells_none _ _ _ _ _
  | some ad => exact run_firstCells_some (P := P) w k m ad m cx ys hl (fun j v hj => hr.get hj)
 exact run_append_src T T.und (.inr ⟨_, rfl⟩) ho (fun w => by simp [Builtin.lenOf]) (hf w hr) (hf w.drew hr.drew) hl h1 h63 hby hB
/-- append onto an owned slice of bytes, of a string. -/
theorem run_append_string {t u ty e : TypeId} (T : SlT P t e (.int .u8 0) 1 1) (hu : P.underlying u = some .string) {B n c : Nat} {sa : Option Addr} {xs : List Value} (ho : Own w B sa 1 n c xs)
  {s : ByteArray} (h63 : n + s.size ≤ maxLen) (hby : n + s.size ≤ 140737488355328) (hB : B ≤ w.heap.size) :
  ∃ sa' c' w', (Builtin.append_ #[t, u] ty #[.slice sa n c, .string s]).run P w = .ok (.slice sa' (n + s.size) c') w' ∧ App w w' B 1 sa n c xs sa' c' s.size (bs s.data.toList) := by
 have he : s.extract 0 s.size = s := by
  simp
 have hf : ∀ w : World, (Builtin.firstCells 1 s.size (.string s)).run P w = .ok (bs s.data.toList).toArray w := by
  intro w
  simp only [Builtin.firstCells, he, Sem.run_pure]
  congr 1
  apply Array.ext'
  simp only [Array.toList_map, bs]
  rfl
 exact run_append_src T hu (.inl rfl) ho (fun w => by simp [Builtin.lenOf]) (hf w) (hf w.drew) (by rw [bs_length, Array.length_toList, Nat.mul_one]; rfl) (bs_one _) h63 (by omega) hB
/-! ### cuts of slices -/
/-- The address of 'x[l:..]'. -/
def cutAt (sa : Option Addr) (c l k : Nat) : Option Addr := if c = l then sa else sa.map (·.add (l * k))
theorem cutAt_zero (sa : Option Addr) (c k : Nat) : cutAt sa c 0 k = sa := by
 unfold cutAt
 split
 ·rfl
 ·cases sa <;> simp [Addr.add]
theorem cutAt_block {sa : Option Addr} {c l k : Nat} {ad : Addr} (h : cutAt sa c l k = some ad) : ∃ ad0, sa = some ad0 ∧ ad.block = ad0.block := by
 unfold cutAt at h
 split at h
 ·exact ⟨ad, h, rfl⟩
 ·simp only [Option.map_eq_some_iff] at h
  obtain ⟨x, hx, rfl⟩ := h
  exact ⟨x, hx, add_block _ _⟩
theorem Rd.cutAt {a : Option Addr} {cs : List Value} (h : Rd w a cs) (c l k : Nat) (hc : c = l → cs.length ≤ l * k) : Rd w (cutAt a c l k) (cs.drop (l * k)) := by
 unfold Esc.cutAt
 exact Rd.cut h c l k hc
section cuts
variable {P : Program}
theorem elem_of {t e : TypeId} (h : P.underlying t = some (.slice e)) : P.elem t = e := by simp [Program.elem, h]
theorem run_cut_lh {t e : TypeId} {z : Value} {k by' : Nat} (T : SlT P t e z k by') (w : World) (sa : Option Addr) (n c : Nat) (kl kh : IntKind) (l h : Nat) (h1 : l ≤ h) (h2 : h ≤ c) :
  (Instr.sliceAt t (.slice sa n c) (some (.int kl l)) (some (.int kh h)) none).run P w = .ok (.slice (cutAt sa c l k) (h - l) (c - l)) w := by
 obtain ⟨i, hi, hz, hk, hb⟩ := info_parts T.info
 have he := elem_of T.und
 have ht : P.underlying t = some (.slice (P.elem t)) := by rw [he]; exact T.und
 rw [run_sliceAt_slice w t _ _ _ _ ht, run_slice_lh w t sa n c ht kl kh l h (by omega) (by omega) (by omega)]
 simp [he, sizeOf, typeInfo, hi, hk, sliced, cutAt]
theorem run_cut_h {t e : TypeId} {z : Value} {k by' : Nat} (T : SlT P t e z k by') (w : World) (sa : Option Addr) (n c : Nat) (kh : IntKind) (h : Nat) (h2 : h ≤ c) :
  (Instr.sliceAt t (.slice sa n c) none (some (.int kh h)) none).run P w = .ok (.slice sa h c) w := by
 obtain ⟨i, hi, hz, hk, hb⟩ := info_parts T.info
 have he := elem_of T.und
 have ht : P.underlying t = some (.slice (P.elem t)) := by rw [he]; exact T.und
 rw [run_sliceAt_slice w t _ _ _ _ ht, run_slice_h w t sa n c ht kh h (by omega) (by omega)]
 have := cutAt_zero sa c k
 unfold cutAt at this
 simp [he, sizeOf, typeInfo, hi, hk, sliced]
 simpa using this
theorem run_cut_l {t e : TypeId} {z : Value} {k by' : Nat} (T : SlT P t e z k by') (w : World) (sa : Option Addr) (n c : Nat) (kl : IntKind) (l : Nat) (h1 : l ≤ n) :
  (Instr.sliceAt t (.slice sa n c) (some (.int kl l)) none none).run P w = .ok (.slice (cutAt sa c l k) (n - l) (c - l)) w := by
 obtain ⟨i, hi, hz, hk, hb⟩ := info_parts T.info
 have he := elem_of T.und
 have ht : P.underlying t = some (.slice (P.elem t)) := by rw [he]; exact T.und
 rw [run_sliceAt_slice w t _ _ _ _ ht, run_slice_l w t sa n c ht kl l (by omega) (by omega)]
 simp [he, sizeOf, typeInfo, hi, hk, sliced, cutAt]
theorem wpList_cut_h {ops : Array Oper} {rest : List Oper} {o : Oper} {a : Act} {Q : Exit → Act → World → Prop} {t e : TypeId} {z : Value} {k by' : Nat} (T : SlT P t e z k by') (hgd : o.guard = none) {x hi : Operand}
  (hop : o.op = .slice t x none (some hi) none) {sa : Option Addr} {n c : Nat} (hx : a.eval x = .slice sa n c) {kh : IntKind} {h' : Int} (hh : a.eval hi = .int kh h') (h : Nat) (eh : h' = h)
  (h2 : h ≤ c) (H : wpList P ops Q rest (a.put o.dst (.slice sa h c)) w) : wpList P ops Q (o :: rest) a w := by
 subst eh
 refine wpList_plain hgd fun K hK => ?_
 unfold Oper.wp execOp
 simp only [hop, hx, hh, Option.map_some, Option.map_none, Sem.run_bind, run_cut_h T w sa n c kh h h2, Result.andThen_ok, Sem.run_pure]
 exact hK _ _ H
theorem wpList_cut_l {ops : Array Oper} {rest : List Oper} {o : Oper} {a : Act} {Q : Exit → Act → World → Prop} {t e : TypeId} {z : Value} {k by' : Nat} (T : SlT P t e z k by') (hgd : o.guard = none) {x lo : Operand}
  (hop : o.op = .slice t x (some lo) none none) {sa : Option Addr} {n c : Nat} (hx : a.eval x = .slice sa n c) {kl : IntKind} {l' : Int} (hl : a.eval lo = .int kl l') (l : Nat) (el : l' = l)
  (h1 : l ≤ n) (H : wpList P ops Q rest (a.put o.dst (.slice (cutAt sa c l k) (n - l) (c - l))) w) : wpList P ops Q (o :: rest) a w := by
 subst el
 refine wpList_plain hgd fun K hK => ?_
 unfold Oper.wp execOp
 simp only [hop, hx, hl, Option.map_some, Option.map_none, Sem.run_bind, run_cut_l T w sa n c kl l h1, Result.andThen_ok, Sem.run_pure]
 exact hK _ _ H
end cuts
/-! ### between bytes and strings -/
/-- A string of these bytes. -/
def str (l : List UInt8) : ByteArray := ⟨l.toArray⟩
theorem str_list (l : List UInt8) : (str l).data.toList = l := rfl
theorem str_size (l : List UInt8) : (str l).size = l.length := by simp [str, ByteArray.size]
theorem size_list (s : ByteArray) : s.data.toList.length = s.size := by rw [Array.length_toList]; rfl
theorem foldl_push (l : List UInt8) : ∀ acc : ByteArray, (l.map (fun b => (b.toNat : Int))).foldl (fun (r : ByteArray) (n : Int) => r.push (UInt8.ofNat n.toNat)) acc = ⟨(acc.data.toList ++ l).toArray⟩ := by
 induction l with
 | nil => intro acc; simp
 | cons b l ih =>
  intro acc
  rw [List.map_cons, List.foldl_cons, ih]
  simp [ByteArray.push]
theorem run_loadCells_rd {ad : Addr} {cs : List Value} (h : Rd w (some ad) cs) : (loadCells ad cs.length).run P w = .ok cs.toArray w := by
 have := run_firstCells_some (P := P) w 1 cs.length ad 0 0 cs (by simp) (fun j v hj => h.get hj)
 simpa [Builtin.firstCells] using this
theorem run_string_of {src dst e : TypeId} (hs : P.underlying src = some (.slice e)) (he : P.underlying e = some (.int .u8)) (hd : P.underlying dst = some .string) {a : Option Addr} {l : List UInt8} {c : Nat} (h : Rd w a (bs l)) :
  (convert src dst (.slice a l.length c)).run P w = .ok (.string (str l)) w := by
 rw [run_convert_bytes_string w src dst e a l.length c hs he hd]
 cases a with
 | none =>
  have h0 : l = [] := by
   cases l with
   | nil => rfl
   | cons x xs => obtain ⟨_, h, _⟩ := h 0 _ rfl; cases h
  subst h0
  simp [Conv.bytesToString, str]
  rfl
 | some ad =>
  have hl := run_loadCells_rd (P := P) h
  rw [bs_length] at hl
  have hm : bs l = (l.map (fun b => (b.toNat : Int))).map (Value.int .u8) := by simp [bs, B8, Function.comp_def]
  rw [hm] at hl
  rw [run_bytesToString w ad l.length c _ hl, foldl_push]
  rfl
theorem wpList_string_of {ops : Array Oper} {rest : List Oper} {o : Oper} {a : Act} {Q : Exit → Act → World → Prop} {src dst e : TypeId} (hs : P.underlying src = some (.slice e)) (he : P.underlying e = some (.int .u8)) (hd : P.underlying dst = some .string)
  (hgd : o.guard = none) {x : Operand} (hop : o.op = .convert src dst x) {v : Option Addr} {l : List UInt8} {n c : Nat} (hx : a.eval x = .slice v n c) (hn : n = l.length) (hr : Rd w v (bs l))
  (h : wpList P ops Q rest (a.put o.dst (.string (str l))) w) : wpList P ops Q (o :: rest) a w := by
 subst hn
 refine wpList_plain hgd fun K hK => ?_
 unfold Oper.wp execOp
 simp only [hop, hx, Sem.run_bind, run_string_of (P := P) (c := c) hs he hd hr, Result.andThen_ok, Sem.run_pure]
 exact hK _ _ h
theorem own_bytes_of (w : World) (B : Nat) (hB : B ≤ w.heap.size) (s : ByteArray) (hl : s.size ≤ maxLen) (e : TypeId) :
  Own (w.drew.alloc (.cells (bytesRow s (grownCap w s.size 0 e)) e ((bytesRow s (grownCap w s.size 0 e)).size, (bytesRow s (grownCap w s.size 0 e)).size + 1))) B (some ⟨w.heap.size, 0, none⟩) 1 s.size (grownCap w s.size 0 e) (bs s.data.toList) := by
 have hge := grownCap_ge w s.size 0 e
 have hsz : (bytesRow s (grownCap w s.size 0 e)).size = grownCap w s.size 0 e := by
  have : s.data.size = s.size := rfl
  simp [bytesRow, this]; omega
 refine Own.fresh w.drew B 1 s.size _ (bs s.data.toList) e _ _ hB (by rw [bs_length, size_list]; simp) hge (grownCap_le_maxLen _ _ _ _ hl) (by rw [hsz]; omega) ?_ (.inr (by simp))
 have hlen : (bs s.data.toList).length = s.size := by rw [bs_length, size_list]
 rw [bytesRow, Array.toList_append, Nat.mul_one, ← hlen]
 rw [show (s.data.map (fun b => Value.int .u8 b.toNat)).toList = bs s.data.toList from by simp only [Array.toList_map]; rfl]
 exact List.take_left
theorem wpList_bytes_of {ops : Array Oper} {rest : List Oper} {o : Oper} {a : Act} {Q : Exit → Act → World → Prop} {src dst e : TypeId} (hs : P.underlying src = some .string) (hd : P.underlying dst = some (.slice e)) (he : P.underlying e = some (.int .u8))
  (hgd : o.guard = none) {x : Operand} (hop : o.op = .convert src dst x) {s : ByteArray} (hx : a.eval x = .string s) (B : Nat) (hB : B ≤ w.heap.size) (hl : s.size ≤ maxLen)
  (h : ∀ v c w', Own w' B v 1 s.size c (bs s.data.toList) → Ext no w w' → wpList P ops Q rest (a.put o.dst (.slice v s.size c)) w') : wpList P ops Q (o :: rest) a w := by
 refine wpList_plain hgd fun K hK => ?_
 unfold Oper.wp execOp
 simp only [hop, hx, Sem.run_bind, run_bytes_of_string (P := P) w src dst e s hs hd he, Result.andThen_ok, Sem.run_pure]
 exact hK _ _ (h _ _ _ (own_bytes_of w B hB s hl e) ((Ext.drew no w).comp (Ext.alloc no _ _)))
/-- append of n zero elements, as slices.Grow has it, onto nil. -/
theorem run_append_zeros {t u ty e : TypeId} {z : Value} {by' : Nat} {ik : IntKind} (T : SlT P t e z 1 by') (hu : P.underlying u = some (.int ik)) {n : Nat} (w : World) (B : Nat) (hB : B ≤ w.heap.size)
  (h63 : n ≤ maxLen) (hby : n * by' ≤ 140737488355328) (hn : 0 < n) :
  ∃ c w', (Builtin.append_ #[t, u] ty #[.slice none 0 0, .int .i64 n]).run P w = .ok (.slice (some ⟨w.heap.size, 0, none⟩) n c) w' ∧ Own w' B (some ⟨w.heap.size, 0, none⟩) 1 0 c [] ∧ Ext no w w' := by
 obtain ⟨i, hi, hz, hk, hb⟩ := info_parts T.info
 have hund := T.und
 have h0 : n ≠ 0 := by omega
 have hm63 : n ≤ 9223372036854775807 := h63
 have h63' : ¬ (9223372036854775807 < (n : Int)) := by omega
 have hw : IntKind.i64.wrap (n : Int) = n := by rw [IntKind.wrap_i64]; omega
 have h48 : ¬ (281474976710656 < Builtin.nextslicecap n 0 * by') := by rw [nextslicecap_zero hn]; omega
 have h48' : ¬ (281474976710656 < (n : Int) * by') := by
  have := Int.ofNat_le.2 hby
  rw [Int.natCast_mul] at this
  generalize (n : Int) * (by' : Int) = q at *
  omega
 have hnn : ¬ ((n : Int) < 0) := by omega
 have hzs := T.zk
 refine ⟨grownCap w n 0 e, w.drew.alloc (.cells (Builtin.zeroCells z.cells n ++ Builtin.zeroCells z.cells (grownCap w n 0 e - n)) e), ?_, ?_, (Ext.drew no w).comp (Ext.alloc no _ _)⟩
 ·simp [Builtin.append_, run_underlying hund, run_underlying hu, sizeOf, typeInfo, zeroValue, hi, hz, hk, hb, asInt, asIntOf, hw, hnn, h48', h0, h63', h48, Question.forced, Builtin.firstCells, newRow, grownCap]
 ·refine Own.fresh w.drew B 1 0 _ [] e (0, 0) _ hB (by simp) (Nat.zero_le _) (grownCap_le_maxLen _ _ _ _ h63) ?_ (by simp) (.inl (Nat.le_refl _))
  have := grownCap_ge w n 0 e
  simp only [Array.size_append, size_zeroCells, hzs]
  omega
theorem wpList_append_zeros {ops : Array Oper} {rest : List Oper} {o : Oper} {a : Act} {Q : Exit → Act → World → Prop} {t u e : TypeId} {z : Value} {by' : Nat} {ik : IntKind} (T : SlT P t e z 1 by')
  (hgd : o.guard = none) {s x : Operand} (hop : o.op = .call { callee := .builtin .append, args := #[s, x], argTypes := #[t, u] }) (hu : P.underlying u = some (.int ik))
  {n : Nat} (hs : a.eval s = .slice none 0 0) (hx : a.eval x = .int .i64 n) (B : Nat) (hB : B ≤ w.heap.size) (h63 : n ≤ maxLen) (hby : n * by' ≤ 140737488355328) (hn : 0 < n)
  (h : ∀ c w', Own w' B (some ⟨w.heap.size, 0, none⟩) 1 0 c [] → Ext no w w' → wpList P ops Q rest (a.put o.dst (.slice (some ⟨w.heap.size, 0, none⟩) n c)) w') :
  wpList P ops Q (o :: rest) a w := by
 obtain ⟨c, w', hrun, h2, h3⟩ := run_append_zeros (P := P) (ty := o.type) T hu w B hB h63 hby hn
 refine wpList_plain hgd fun K hK => ?_
 unfold Oper.wp execOp
 simp only [hop, resolve, invoke, builtin, Sem.run_bind, Sem.run_pure, Result.andThen_ok, List.map_toArray, List.map_cons, List.map_nil, hs, hx, hrun]
 exact hK _ _ (h _ _ h2 h3)
/-- The law for the walk. -/
theorem wpList_append {ops : Array Oper} {rest : List Oper} {o : Oper} {a : Act} {Q : Exit → Act → World → Prop} {t e : TypeId} {z : Value} {k by' : Nat} (T : SlT P t e z k by')
  (hgd : o.guard = none) {s x : Operand} (hop : o.op = .call { callee := .builtin .append, args := #[s, x], argTypes := #[t, t] })
  {B n c : Nat} {sa : Option Addr} {xs : List Value} (hs : a.eval s = .slice sa n c) (ho : Own w B sa k n c xs)
  {xa : Option Addr} {m cx : Nat} {ys : List Value} (hx : a.eval x = .slice xa m cx) (hr : Rd w xa ys) (hl : ys.length = m * k) (h1 : ∀ u ∈ ys, u.oneCell' = true)
  (h63 : n + m ≤ maxLen) (hby : (n + m) * by' ≤ 140737488355328) (hB : B ≤ w.heap.size)
  (h : ∀ sa' c' w', App w w' B k sa n c xs sa' c' m ys → wpList P ops Q rest (a.put o.dst (.slice sa' (n + m) c')) w') :
  wpList P ops Q (o :: rest) a w := by
 obtain ⟨sa', c', w', hrun, h2⟩ := run_append (P := P) (ty := o.type) T ho (cx := cx) hr hl h1 h63 hby hB
 refine wpList_plain hgd fun K hK => ?_
 unfold Oper.wp execOp
 simp only [hop, resolve, invoke, builtin, Sem.run_bind, Sem.run_pure, Result.andThen_ok, List.map_toArray, List.map_cons, List.map_nil, hs, hx, hrun]
 exact hK _ _ (h _ _ _ h2)
theorem wpList_append_string {ops : Array Oper} {rest : List Oper} {o : Oper} {a : Act} {Q : Exit → Act → World → Prop} {t u e : TypeId} (T : SlT P t e (.int .u8 0) 1 1) (hu : P.underlying u = some .string)
  (hgd : o.guard = none) {s x : Operand} (hop : o.op = .call { callee := .builtin .append, args := #[s, x], argTypes := #[t, u] })
  {B n c : Nat} {sa : Option Addr} {xs : List Value} (hs : a.eval s = .slice sa n c) (ho : Own w B sa 1 n c xs) {st : ByteArray} (hx : a.eval x = .string st) (h63 : n + st.size ≤ maxLen) (hby : n + st.size ≤ 140737488355328) (hB : B ≤ w.heap.size)
  (h : ∀ sa' c' w', App w w' B 1 sa n c xs sa' c' st.size (bs st.data.toList) → wpList P ops Q rest (a.put o.dst (.slice sa' (n + st.size) c')) w') :
  wpList P ops Q (o :: rest) a w := by
 obtain ⟨sa', c', w', hrun, h2⟩ := run_append_string (P := P) (ty := o.type) T hu ho h63 hby hB
 refine wpList_plain hgd fun K hK => ?_
 unfold Oper.wp execOp
 simp only [hop, resolve, invoke, builtin, Sem.run_bind, Sem.run_pure, Result.andThen_ok, List.map_toArray, List.map_cons, List.map_nil, hs, hx, hrun]
 exact hK _ _ (h _ _ _ h2)
end append
end Go.Esc
/- Numbers as bytes, in plain terms: of no program. -/
namespace Go.Esc
/-- The higher digits of a number, marked, the lowest first. -/
def hiRev (v : Nat) : List UInt8 := if h : v = 0 then [] else b8 (v % 128 + 128) :: hiRev (v / 128)
/-- A number's bytes, the last first. -/
def revRow (u : Nat) : List UInt8 := b8 (u % 128) :: hiRev (u / 128)
def row (u : Nat) : List UInt8 := (revRow u).reverse
/-- A number without a sign. -/
def zig (n : Int) : Nat := if n < 0 then (2 * (-(n + 1)) + 1).toNat else (2 * n).toNat
def encI (n : Int) : List UInt8 := row (zig n)
def encT (s : List UInt8) : List UInt8 := encI s.length ++ s
def encL (l : List Int) : List UInt8 := encI l.length ++ l.flatMap encI
/-- The length and the first k numbers of a list. -/
def encLk (t : List Int) (k : Nat) : List UInt8 := encI t.length ++ (t.take k).flatMap encI
theorem encLk_all (t : List Int) : encLk t t.length = encL t := by unfold encLk encL; rw [List.take_length]
theorem encLk_succ (t : List Int) (k : Nat) (h : k < t.length) : encLk t (k + 1) = encLk t k ++ encI t[k] := by
 unfold encLk
 rw [List.take_succ_eq_append_getElem h, List.flatMap_append, List.append_assoc]
 simp
/-- A number that an int may be. -/
def I64ok (n : Int) : Prop := -9223372036854775808 ≤ n ∧ n ≤ 9223372036854775807
theorem hiRev_zero : hiRev 0 = [] := by rw [hiRev]; rfl
theorem hiRev_pos {v : Nat} (h : 0 < v) : hiRev v = b8 (v % 128 + 128) :: hiRev (v / 128) := by
 rw [hiRev, dif_neg (by omega)]
theorem hiRev_length (k : Nat) : ∀ v : Nat, v < 128 ^ k → (hiRev v).length ≤ k := by
 induction k with
 | zero =>
  intro v h
  have : v = 0 := by simpa using h
  subst this; rw [hiRev_zero]; simp
 | succ k ih =>
  intro v h
  by_cases hv : v = 0
  ·subst hv; rw [hiRev_zero]; simp
  ·rw [hiRev_pos (by omega), List.length_cons]
   have := ih (v / 128) (by rw [Nat.pow_succ] at h; omega)
   omega
theorem row_length (u : Nat) (h : u < 18446744073709551616) : (row u).length ≤ 10 ∧ 1 ≤ (row u).length := by
 have := hiRev_length 9 (u / 128) (by omega)
 simp [row, revRow]; omega
theorem zig_lt (n : Int) (h1 : -9223372036854775808 ≤ n) (h2 : n ≤ 9223372036854775807) : zig n < 18446744073709551616 := by
 unfold zig; split <;> omega
theorem encI_length (n : Int) (h : I64ok n) : (encI n).length ≤ 10 ∧ 1 ≤ (encI n).length := row_length _ (zig_lt n h.1 h.2)
theorem encLk_length (t : List Int) (h : I64ok t.length) (hok : ∀ n ∈ t, I64ok n) (k : Nat) : (encLk t k).length ≤ 10 + k * 10 := by
 induction k with
 | zero => have := (encI_length _ h).1; simp [encLk]; omega
 | succ k ih =>
  by_cases hk : k < t.length
  ·rw [encLk_succ t k hk, List.length_append]
   have := (encI_length t[k] (hok _ (by simp))).1
   omega
  ·have : encLk t (k + 1) = encLk t k := by unfold encLk; rw [List.take_of_length_le (by omega), List.take_of_length_le (by omega)]
   rw [this]; omega
theorem or128_fin : ∀ x : Fin 128, bits .or .u8 (x.val : Int) 128 = (x.val : Int) + 128 := by decide +kernel
theorem or128 (x : Int) (h0 : 0 ≤ x) (h1 : x < 128) : bits .or .u8 x 128 = x + 128 := by
 obtain ⟨n, rfl⟩ := Int.eq_ofNat_of_zero_le h0
 exact or128_fin ⟨n, by omega⟩
theorem and127 (x : Int) (h0 : 0 ≤ x) (h1 : x < 256) : bits .and .u8 x 127 = x % 128 := bits_mask .u8 8 (by decide) wraps_u8 7 (by decide) x h0 h1
theorem wraps_u64 (n : Int) (h₀ : 0 ≤ n) (h₁ : n < 2 ^ 64) : IntKind.u64.wrap n = n := by rw [IntKind.wrap_u64]; omega
theorem or1 (x : Int) (h0 : 0 ≤ x) (h1 : x < 18446744073709551616) (h2 : x % 2 = 0) : bits .or .u64 x 1 = x + 1 :=
 bits_join .u64 64 (by decide) wraps_u64 1 x 1 h0 (by simpa using h2) (by simpa using h1) (by decide) (by decide) (by decide)
theorem or7 (x y : Int) (h0 : 0 ≤ x) (h1 : x < 18446744073709551616) (h2 : x % 128 = 0) (h3 : 0 ≤ y) (h4 : y < 128) : bits .or .u64 x y = x + y :=
 bits_join .u64 64 (by decide) wraps_u64 7 x y h0 (by simpa using h2) (by simpa using h1) h3 (by simpa using h4) (by have : y < 128 := h4; simp; omega)
theorem tmod_pos (a n : Int) (h1 : 0 < n) : a % n = if a.tmod n < 0 then a.tmod n + n else a.tmod n := by
 have h := @Int.tmod_eq_emod a n
 have e1 := Int.emod_nonneg a (show n ≠ 0 by omega)
 have e2 := Int.emod_lt_of_pos a h1
 split at h
 ·rw [if_neg (by omega)]; omega
 ·rename_i hh
  have : a % n ≠ 0 := fun h0 => hh (.inr (Int.dvd_of_emod_eq_zero h0))
  rw [if_pos (by omega)]; omega
theorem xor_ones (x : Nat) (h : x < 18446744073709551616) : bits .xor .u64 IntKind.u64.max (x : Int) = ((18446744073709551615 - x : Nat) : Int) := by
 have h1 : (BitVec.ofInt 64 (x : Int)).toNat = x := by
  rw [BitVec.ofInt_natCast, BitVec.toNat_ofNat]; exact Nat.mod_eq_of_lt (by omega)
 have h2 : BitVec.ofInt 64 (IntKind.u64.max) = BitVec.allOnes 64 := by decide
 show IntKind.u64.wrap ((BitVec.ofInt 64 IntKind.u64.max ^^^ BitVec.ofInt 64 (x : Int)).toNat : Int) = _
 rw [h2, BitVec.allOnes_xor, BitVec.toNat_not, h1, IntKind.wrap_u64]
 omega
/-- The digits of a number from the i-th on, the highest first. -/
def topDigs (u i : Nat) : List UInt8 := (hiRev (u / 2 ^ (7 * i))).reverse
theorem topDigs_step (u i : Nat) (h : 0 < u / 2 ^ (7 * i)) : topDigs u i = topDigs u (i + 1) ++ [b8 (u / 2 ^ (7 * i) % 128 + 128)] := by
 unfold topDigs
 rw [hiRev_pos h, List.reverse_cons]
 congr 3
 rw [Nat.div_div_eq_div_mul, Nat.mul_add, Nat.pow_add]
theorem row_topDigs (u : Nat) : row u = topDigs u 1 ++ [b8 (u % 128)] := by
 unfold row revRow topDigs
 rw [List.reverse_cons]
/-- What stands when j digits are still to be written. -/
def wrote (u j : Nat) : List UInt8 := if j = 0 then row u else topDigs u j
theorem wrote_zero (u : Nat) : wrote u 0 = row u := rfl
theorem wrote_pos (u : Nat) {j : Nat} (h : 0 < j) : wrote u j = topDigs u j := by unfold wrote; rw [if_neg (by omega)]
theorem wrote_one (u : Nat) : wrote u 0 = wrote u 1 ++ [b8 (u % 128)] := by rw [wrote_zero, wrote_pos u (by omega), row_topDigs]
theorem wrote_step (u j : Nat) (hj : 0 < j) (h : 0 < u / 2 ^ (7 * j)) : wrote u j = wrote u (j + 1) ++ [b8 (u / 2 ^ (7 * j) % 128 + 128)] := by
 rw [wrote_pos u hj, wrote_pos u (by omega), topDigs_step u j h]
theorem wrote_len (u j : Nat) (h : u < 18446744073709551616) : (wrote u j).length ≤ 10 := by
 unfold wrote
 split
 ·exact (row_length u h).1
 ·rename_i hj
  unfold topDigs
  rw [List.length_reverse]
  have h1 : u / 2 ^ (7 * j) ≤ u / 2 ^ (7 * 1) := Nat.div_le_div_left (Nat.pow_le_pow_right (by decide) (by omega)) (by decide)
  have := hiRev_length 9 (u / 2 ^ (7 * j)) (by omega)
  omega
theorem topDigs_zero (u k : Nat) (h : u / 2 ^ (7 * k) = 0) : topDigs u k = [] := by unfold topDigs; rw [h, hiRev_zero]; rfl
/-- Slices of bytes, as a slice of slices holds them. -/
structure Part where
 a : Option Addr
 l : List UInt8
 c : Nat
def Part.v (p : Part) : Value := .slice p.a p.l.length p.c
def flat (L : List Part) : List UInt8 := L.flatMap (·.l)
theorem flat_take_succ (L : List Part) (k : Nat) (h : k < L.length) : flat (L.take (k + 1)) = flat (L.take k) ++ L[k].l := by
 unfold flat
 rw [List.take_succ_eq_append_getElem h, List.flatMap_append]
 simp
theorem flat_take_le (L : List Part) (k : Nat) : (flat (L.take k)).length ≤ (flat L).length := by
 unfold flat
 conv => rhs; rw [← List.take_append_drop k L, List.flatMap_append, List.length_append]
 omega
end Go.Esc
/- Reading numbers, texts, lists, in plain terms: of no program. -/
namespace Go.Esc
open Go.RowKit
/-- Base-128 digits, read from the front: an error's number, or the number; what is left. -/
def scan : Nat → Bool → List UInt8 → (Nat ⊕ Nat) × List UInt8
 | _, _, [] => (.inl 8, [])
 | u, first, c :: r =>
  if (first = true ∧ c.toNat = 128) ∨ 144115188075855871 < u then (.inl 10, r)
  else if c.toNat < 128 then (.inr (u * 128 + c.toNat % 128), r)
  else scan (u * 128 + c.toNat % 128) false r
/-- The number of a number without a sign. -/
def sgn (u : Nat) : Int := if u % 2 = 1 then -((u / 2 : Nat) : Int) - 1 else ((u / 2 : Nat) : Int)
theorem scan_lt : ∀ (l : List UInt8) (u : Nat) (f : Bool), u < 18446744073709551616 → ∀ v r, scan u f l = (.inr v, r) → v < 18446744073709551616
 | [], u, f, _, v, r, h => by simp [scan] at h
 | c :: l, u, f, hu, v, r, h => by
  unfold scan at h
  split at h
  ·simp at h
  ·rename_i h1
   split at h
   ·simp only [Prod.mk.injEq, Sum.inr.injEq] at h
    omega
   ·exact scan_lt l _ false (by omega) v r h
theorem sgn_ok (u : Nat) (h : u < 18446744073709551616) : I64ok (sgn u) := by
 unfold sgn I64ok
 split <;> omega
theorem sgn_odd (v : Nat) (x : Int) (hx : x = (v : Int)) (h : (x % 2 == 1) = true) : sgn v = -(x / 2) - 1 := by
 rw [beq_iff_eq] at h
 subst hx
 unfold sgn
 rw [if_pos (by omega)]
 omega
theorem sgn_even (v : Nat) (x : Int) (hx : x = (v : Int)) (h : (x % 2 == 1) = false) : sgn v = x / 2 := by
 rw [beq_eq_false_iff_ne] at h
 subst hx
 unfold sgn
 rw [if_neg (by omega)]
 omega
theorem zig_sgn (u : Nat) : zig (sgn u) = u := by
 unfold sgn zig
 split <;> split <;> omega
/-- A reader's state: what is left; the error's number (0: none). -/
structure RS where
 l : List UInt8
 e : Int
/-- What a question answers, and the state behind it. -/
def rInt (s : RS) : Int × RS :=
 if s.e ≠ 0 then (0, s) else
 match scan 0 true s.l with
 | (.inr u, r) => (sgn u, ⟨r, 0⟩)
 | (.inl k, r) => (0, ⟨r, k⟩)
/-- A length: an error, or it; what is left. -/
def rLen (l : List UInt8) : (Nat ⊕ Nat) × List UInt8 :=
 match scan 0 true l with
 | (.inl k, r) => (.inl k, r)
 | (.inr u, r) => if 0 ≤ sgn u ∧ sgn u ≤ 65535 then (.inr (sgn u).toNat, r) else (.inl 4, r)
def rText (s : RS) : List UInt8 × RS :=
 if s.e ≠ 0 then ([], s) else
 match rLen s.l with
 | (.inl k, r) => ([], ⟨r, k⟩)
 | (.inr n, r) => if n ≤ r.length then (r.take n, ⟨r.drop n, 0⟩) else ([], ⟨r, 8⟩)
/-- n numbers, one behind the other. -/
def rNums : Nat → List Int → List UInt8 → (Nat ⊕ List Int) × List UInt8
 | 0, acc, l => (.inr acc, l)
 | n + 1, acc, l => match scan 0 true l with
  | (.inl k, r) => (.inl k, r)
  | (.inr u, r) => rNums n (acc ++ [sgn u]) r
def rInts (s : RS) : List Int × RS :=
 if s.e ≠ 0 then ([], s) else
 match rLen s.l with
 | (.inl k, r) => ([], ⟨r, k⟩)
 | (.inr n, r) => match rNums n [] r with
  | (.inl k, r') => ([], ⟨r', k⟩)
  | (.inr ns, r') => (ns, ⟨r', 0⟩)
def rEnd (s : RS) : Int := if s.e = 0 ∧ 0 < s.l.length then 9 else s.e
def rFail (s : RS) (k : Int) : RS := if s.e = 0 then ⟨s.l, k⟩ else s
theorem rInt_ok {s : RS} (h0 : s.e = 0) {u : Nat} {r : List UInt8} (h : scan 0 true s.l = (.inr u, r)) : rInt s = (sgn u, ⟨r, 0⟩) := by simp [rInt, h0, h]
theorem rInt_err {s : RS} (h0 : s.e = 0) {k : Nat} {r : List UInt8} (h : scan 0 true s.l = (.inl k, r)) : rInt s = (0, ⟨r, k⟩) := by simp [rInt, h0, h]
theorem rInt_skip {s : RS} (h0 : s.e ≠ 0) : rInt s = (0, s) := by simp [rInt, h0]
theorem rLen_err_of {l : List UInt8} {k : Nat} {r : List UInt8} (h : scan 0 true l = (.inl k, r)) : rLen l = (.inl k, r) := by simp [rLen, h]
theorem rLen_ok_of {l : List UInt8} {u : Nat} {r : List UInt8} (h : scan 0 true l = (.inr u, r)) (h1 : 0 ≤ sgn u) (h2 : sgn u ≤ 65535) : rLen l = (.inr (sgn u).toNat, r) := by simp [rLen, h, h1, h2]
theorem rLen_many_of {l : List UInt8} {u : Nat} {r : List UInt8} (h : scan 0 true l = (.inr u, r)) (h1 : ¬ (0 ≤ sgn u ∧ sgn u ≤ 65535)) : rLen l = (.inl 4, r) := by unfold rLen; rw [h]; simp only; rw [if_neg h1]
theorem rText_skip {s : RS} (h0 : s.e ≠ 0) : rText s = ([], s) := by simp [rText, h0]
theorem rText_err {s : RS} (h0 : s.e = 0) {k : Nat} {r : List UInt8} (h : rLen s.l = (.inl k, r)) : rText s = ([], ⟨r, k⟩) := by simp [rText, h0, h]
theorem rText_ok {s : RS} (h0 : s.e = 0) {n : Nat} {r : List UInt8} (h : rLen s.l = (.inr n, r)) (hn : n ≤ r.length) : rText s = (r.take n, ⟨r.drop n, 0⟩) := by simp [rText, h0, h, hn]
theorem rText_cut {s : RS} (h0 : s.e = 0) {n : Nat} {r : List UInt8} (h : rLen s.l = (.inr n, r)) (hn : r.length < n) : rText s = ([], ⟨r, 8⟩) := by simp [rText, h0, h]; omega
theorem rInts_skip {s : RS} (h0 : s.e ≠ 0) : rInts s = ([], s) := by simp [rInts, h0]
theorem rInts_err {s : RS} (h0 : s.e = 0) {k : Nat} {r : List UInt8} (h : rLen s.l = (.inl k, r)) : rInts s = ([], ⟨r, k⟩) := by simp [rInts, h0, h]
theorem rInts_bad {s : RS} (h0 : s.e = 0) {n k : Nat} {r r' : List UInt8} (h : rLen s.l = (.inr n, r)) (h2 : rNums n [] r = (.inl k, r')) : rInts s = ([], ⟨r', k⟩) := by simp [rInts, h0, h, h2]
theorem rInts_ok {s : RS} (h0 : s.e = 0) {n : Nat} {r r' : List UInt8} {ns : List Int} (h : rLen s.l = (.inr n, r)) (h2 : rNums n [] r = (.inr ns, r')) : rInts s = (ns, ⟨r', 0⟩) := by simp [rInts, h0, h, h2]
theorem scan_err : ∀ (l : List UInt8) (u : Nat) (f : Bool) (k : Nat) (r : List UInt8), scan u f l = (.inl k, r) → k = 8 ∨ k = 10
 | [], u, f, k, r, h => by simp [scan] at h; omega
 | c :: l, u, f, k, r, h => by
  unfold scan at h
  split at h
  ·simp at h; omega
  ·split at h
   ·simp at h
   ·exact scan_err l _ false k r h
end Go.Esc
/- What is written is read as it was; what is read is written as it stood; what is cut: in plain terms. -/
namespace Go.Esc
open Go.RowKit
theorem b8_of (c : UInt8) : b8 c.toNat = c := by unfold b8; simp
theorem hiRev_rev {v : Nat} (h : 0 < v) (t : List UInt8) : (hiRev v).reverse ++ t = (hiRev (v / 128)).reverse ++ (b8 (v % 128 + 128) :: t) := by
 rw [hiRev_pos h, List.reverse_cons, List.append_assoc]; rfl
theorem row_hi (v : Nat) (c : UInt8) (h : c.toNat < 128) : row (v * 128 + c.toNat) = (hiRev v).reverse ++ [c] := by
 unfold row revRow
 rw [List.reverse_cons, show (v * 128 + c.toNat) / 128 = v from by omega, show (v * 128 + c.toNat) % 128 = c.toNat from by omega, b8_of]
theorem scan_canon_hi : ∀ (l : List UInt8) (v : Nat), 0 < v → ∀ u r, scan v false l = (.inr u, r) → (hiRev v).reverse ++ l = row u ++ r
 | [], v, _, u, r, h => by simp [scan] at h
 | c :: l, v, hv, u, r, h => by
  have hc8 : c.toNat < 256 := c.toNat_lt
  unfold scan at h
  split at h
  ·simp at h
  ·split at h
   ·rename_i h2
    simp only [Prod.mk.injEq, Sum.inr.injEq] at h
    obtain ⟨rfl, rfl⟩ := h
    rw [Nat.mod_eq_of_lt h2, row_hi v c h2]
    simp
   ·rename_i h2
    have ih := scan_canon_hi l (v * 128 + c.toNat % 128) (by omega) u r h
    rw [← ih, hiRev_rev (v := v * 128 + c.toNat % 128) (by omega), show (v * 128 + c.toNat % 128) / 128 = v from by omega, show (v * 128 + c.toNat % 128) % 128 + 128 = c.toNat from by omega, b8_of]
theorem scan_canon (l : List UInt8) (u : Nat) (r : List UInt8) (h : scan 0 true l = (.inr u, r)) : l = row u ++ r := by
 cases l with
 | nil => simp [scan] at h
 | cons c l =>
  have hc8 : c.toNat < 256 := c.toNat_lt
  unfold scan at h
  split at h
  ·simp at h
  ·rename_i h1
   have h1' : c.toNat ≠ 128 := fun hh => h1 (.inl ⟨rfl, hh⟩)
   split at h
   ·rename_i h2
    simp only [Prod.mk.injEq, Sum.inr.injEq] at h
    obtain ⟨rfl, rfl⟩ := h
    rw [Nat.mod_eq_of_lt h2, row_hi 0 c h2, hiRev_zero]
    simp
   ·rename_i h2
    have ih := scan_canon_hi l (0 * 128 + c.toNat % 128) (by omega) u r h
    rw [← ih, hiRev_rev (by omega), show (0 * 128 + c.toNat % 128) / 128 = 0 from by omega, show (0 * 128 + c.toNat % 128) % 128 + 128 = c.toNat from by omega, b8_of, hiRev_zero]
    rfl
theorem encI_sgn (u : Nat) : encI (sgn u) = row u := by unfold encI; rw [zig_sgn]
end Go.Esc
/- Reading what was written, whole, with more behind it, or cut: in plain terms. -/
namespace Go.Esc
open Go.RowKit
theorem rLen_le (l : List UInt8) (n : Nat) (r : List UInt8) (h : rLen l = (.inr n, r)) : n ≤ 65535 := by
 unfold rLen at h
 split at h
 ·cases h
 ·split at h
  ·simp at h; omega
  ·cases h
end Go.Esc
/- Operations as plain data: dots, their order, what is checked. -/
namespace Go.Esc
open Go.RowKit
structure DotR where
 dev : Int
 ep : Int
 seq : Int
structure OpR where
 dot : DotR
 coll : Int
 ver : Int
 kind : Int
 key : List UInt8
 text : List UInt8
 n : Int
 time : Int
 dots : List DotR
def DotR.cells (d : DotR) : List Value := [.int .i64 d.dev, .int .i64 d.ep, .int .i64 d.seq]
def DotR.v (d : DotR) : Value := .agg #[.int .i64 d.dev, .int .i64 d.ep, .int .i64 d.seq]
def DotR.ok (d : DotR) : Prop := I64ok d.dev ∧ I64ok d.ep ∧ I64ok d.seq
def ds (l : List DotR) : List Value := l.flatMap DotR.cells
def OpR.cells (o : OpR) (a : Option Addr) (c : Nat) : List Value := [.int .i64 o.dot.dev, .int .i64 o.dot.ep, .int .i64 o.dot.seq, .int .i64 o.coll, .int .i64 o.ver, .int .i64 o.kind, .string (str o.key), .string (str o.text), .int .i64 o.n, .int .i64 o.time, .slice a o.dots.length c]
def OpR.v (o : OpR) (a : Option Addr) (c : Nat) : Value := .agg #[.int .i64 o.dot.dev, .int .i64 o.dot.ep, .int .i64 o.dot.seq, .int .i64 o.coll, .int .i64 o.ver, .int .i64 o.kind, .string (str o.key), .string (str o.text), .int .i64 o.n, .int .i64 o.time, .slice a o.dots.length c]
structure OpR.ok (o : OpR) : Prop where
 dot : o.dot.ok
 coll : I64ok o.coll
 ver : I64ok o.ver
 kind : I64ok o.kind
 n : I64ok o.n
 time : I64ok o.time
 key : o.key.length ≤ maxLen
 text : o.text.length ≤ maxLen
 dots : ∀ d ∈ o.dots, d.ok
def cmpI (a b : Int) : Int := if a < b then -1 else if b < a then 1 else 0
def DotR.cmp (a b : DotR) : Int := if cmpI a.dev b.dev ≠ 0 then cmpI a.dev b.dev else if cmpI a.ep b.ep ≠ 0 then cmpI a.ep b.ep else cmpI a.seq b.seq
def DotR.lt (a b : DotR) : Bool := if a.dev ≠ b.dev then decide (a.dev < b.dev) else if a.ep ≠ b.ep then decide (a.ep < b.ep) else decide (a.seq < b.seq)
theorem cmpI_zero (a b : Int) : cmpI a b = 0 ↔ a = b := by
 unfold cmpI; split
 ·omega
 ·split <;> omega
theorem cmpI_neg (a b : Int) : cmpI a b < 0 ↔ a < b := by
 unfold cmpI; split
 ·omega
 ·split <;> omega
theorem DotR.cmp_lt (a b : DotR) : a.cmp b < 0 ↔ a.lt b = true := by
 unfold DotR.cmp DotR.lt
 have h1 := cmpI_zero a.dev b.dev
 have h2 := cmpI_zero a.ep b.ep
 have g1 := cmpI_neg a.dev b.dev
 have g2 := cmpI_neg a.ep b.ep
 have g3 := cmpI_neg a.seq b.seq
 by_cases e1 : a.dev = b.dev
 ·have c1 := h1.2 e1
  by_cases e2 : a.ep = b.ep
  ·have c2 := h2.2 e2
   simp [e1, e2]
   rw [e1] at c1; rw [e2] at c2; simp [c1, c2, g3]
  ·have c2 : cmpI a.ep b.ep ≠ 0 := fun h => e2 (h2.1 h)
   simp [e1, e2, c2]
   rw [e1] at c1; simp [c1, g2]
 ·have c1 : cmpI a.dev b.dev ≠ 0 := fun h => e1 (h1.1 h)
  simp [e1, c1, g1]
def risesB : List DotR → Bool
 | a :: b :: l => a.lt b && risesB (b :: l)
 | _ => true
theorem risesB_iff : ∀ l : List DotR, risesB l = true ↔ ∀ (j : Nat) (a b : DotR), l[j]? = some a → l[j + 1]? = some b → a.lt b = true
 | [] => by simp [risesB]
 | [a] => by simp [risesB]
 | a :: b :: l => by
  rw [risesB, Bool.and_eq_true, risesB_iff (b :: l)]
  constructor
  ·rintro ⟨h1, h2⟩ j x y hx hy
   cases j with
   | zero => simp at hx hy; subst hx hy; exact h1
   | succ j => exact h2 j x y (by simpa using hx) (by simpa using hy)
  ·intro h
   exact ⟨h 0 a b rfl rfl, fun j x y hx hy => h (j + 1) x y (by simpa using hx) (by simpa using hy)⟩
def textB (b : UInt8) : Bool := decide (32 ≤ b.toNat) && decide (b.toNat ≠ 127)
def textOk (s : List UInt8) : Bool := decide (s.length ≤ 40) && s.all textB
theorem textOk_iff (s : List UInt8) : textOk s = true ↔ s.length ≤ 40 ∧ ∀ (j : Nat) (b : UInt8), s[j]? = some b → 32 ≤ b.toNat ∧ b.toNat ≠ 127 := by
 unfold textOk
 rw [Bool.and_eq_true, decide_eq_true_iff, List.all_eq_true]
 constructor
 ·rintro ⟨h1, h2⟩
  exact ⟨h1, fun j b hb => by have := h2 b (List.mem_of_getElem? hb); simpa [textB] using this⟩
 ·rintro ⟨h1, h2⟩
  refine ⟨h1, fun b hb => ?_⟩
  obtain ⟨j, hj⟩ := List.getElem?_of_mem hb
  simpa [textB] using h2 j b hj
def dotsErr (l : List DotR) : Nat := if 8 < l.length then 4 else if risesB l then 0 else 10
def headOk (o : OpR) : Prop := ((((((0 ≤ o.dot.dev ∧ o.dot.dev ≤ 5) ∧ (1 ≤ o.dot.ep ∧ o.dot.ep ≤ 1073741824)) ∧ (1 ≤ o.dot.seq ∧ o.dot.seq ≤ 1073741824)) ∧ (0 ≤ o.coll ∧ o.coll ≤ 2)) ∧ (1 ≤ o.ver ∧ o.ver ≤ 3)) ∧ (0 ≤ o.time ∧ o.time ≤ 1099511627776))
instance (o : OpR) : Decidable (headOk o) := by unfold headOk; infer_instance
def kindErr (o : OpR) : Nat :=
 if o.kind ≠ 5 ∧ o.key = [] then 1 else
 if o.kind = 3 then dotsErr o.dots else
 if o.kind = 4 then (if o.n = 0 ∨ ¬ (-1099511627776 ≤ o.n ∧ o.n ≤ 1099511627776) then 11 else 0) else
 if o.kind = 5 then (if 0 ≤ o.n ∧ o.n ≤ 999 then 0 else 11) else 0
def checkOp (o : OpR) : Nat :=
 if ¬ headOk o then 1 else
 if ¬ (1 ≤ o.kind ∧ o.kind ≤ 5) then 3 else
 if ¬ (textOk o.key = true ∧ textOk o.text = true) then 5 else kindErr o
theorem ds_length (l : List DotR) : (ds l).length = l.length * 3 := by
 induction l with
 | nil => rfl
 | cons d l ih => unfold ds at *; rw [List.flatMap_cons, List.length_append, ih]; simp [DotR.cells]; omega
theorem ds_get (l : List DotR) (k : Nat) (d : DotR) (h : l[k]? = some d) (m : Nat) (v : Value) (hm : d.cells[m]? = some v) : (ds l)[k * 3 + m]? = some v := by
 have hm3 : m < 3 := (List.getElem?_eq_some_iff.1 hm).1
 unfold ds
 induction l generalizing k with
 | nil => simp at h
 | cons c l ih =>
  rw [List.flatMap_cons]
  cases k with
  | zero =>
   simp at h
   subst h
   rw [List.getElem?_append_left (by simp [DotR.cells]; omega), Nat.zero_mul, Nat.zero_add]
   exact hm
  | succ k =>
   rw [List.getElem?_append_right (by simp [DotR.cells]; omega), show (k + 1) * 3 + m - c.cells.length = k * 3 + m by simp [DotR.cells]; omega]
   exact ih k (by simpa using h)
theorem ds_cell {w : World} {b o : Nat} {l : List DotR} {k : Nat} {d : DotR} (h : Rd w (some ⟨b, o, none⟩) (ds l)) (hd : l[k]? = some d) : ∀ m v, d.cells[m]? = some v → w.cell? ⟨b, o + k * 3 + m, none⟩ = some v := by
 intro m v hm
 obtain ⟨ad, hs, hc⟩ := h (k * 3 + m) v (ds_get l k d hd m v hm)
 cases hs
 rw [Addr.add_lit] at hc
 rw [Nat.add_assoc]
 exact hc
theorem ds_shape {w : World} {a : Option Addr} {l : List DotR} (h : Rd w a (ds l)) (hl : 0 < l.length) : ∃ b off, a = some ⟨b, off, none⟩ ∧ b < w.heap.size := h.shape (by rw [ds_length]; omega)
theorem ds_append (l m : List DotR) : ds (l ++ m) = ds l ++ ds m := by simp [ds]
end Go.Esc
/- What Good makes of an operation, plainly. -/
namespace Go.Esc
open Go.RowKit
def DotR.eqv (a b : DotR) : Bool := a.dev == b.dev && (a.ep == b.ep && a.seq == b.seq)
theorem DotR.eqv_iff (a b : DotR) : a.eqv b = true ↔ a = b := by
 obtain ⟨a1, a2, a3⟩ := a
 obtain ⟨b1, b2, b3⟩ := b
 simp [DotR.eqv]
def gd (d : DotR) : DotR := ⟨d.dev % 6, 1 + d.ep % 3, 1 + d.seq % 12⟩
/-- A dot put into its place. -/
def insD : List DotR → DotR → List DotR
 | [], d => [d]
 | a :: l, d => if a.lt d then a :: insD l d else if a.eqv d then a :: l else d :: a :: l
def goodDots (l : List DotR) : List DotR := (l.take 8).foldl (fun L x => insD L (gd x)) []
theorem DotR.lt_def (a b : DotR) : a.lt b = true ↔ a.dev < b.dev ∨ (a.dev = b.dev ∧ (a.ep < b.ep ∨ (a.ep = b.ep ∧ a.seq < b.seq))) := by
 unfold DotR.lt
 by_cases h1 : a.dev = b.dev
 ·rw [if_neg (by simp [h1])]
  by_cases h2 : a.ep = b.ep
  ·rw [if_neg (by simp [h2])]; simp [h1, h2]
  ·rw [if_pos h2]; simp [h1, h2]
 ·rw [if_pos h1]; simp [h1]
theorem DotR.turn (a b : DotR) (h : a.lt b = false) (he : a.eqv b = false) : b.lt a = true := by
 rw [DotR.lt_def]
 have h1 : ¬ (a.lt b = true) := by rw [h]; simp
 have h2 : ¬ (a = b) := by rw [← DotR.eqv_iff, he]; simp
 rw [DotR.lt_def] at h1
 obtain ⟨a1, a2, a3⟩ := a
 obtain ⟨b1, b2, b3⟩ := b
 simp at h1 h2 ⊢
 omega
theorem insD_len (l : List DotR) (d : DotR) : (insD l d).length ≤ l.length + 1 := by
 induction l with
 | nil => simp [insD]
 | cons a l ih =>
  unfold insD
  split
  ·simp; exact ih
  ·split <;> simp
theorem insD_rises (l : List DotR) (d : DotR) (h : risesB l = true) : risesB (insD l d) = true ∧ ∀ x : DotR, x.lt d = true → risesB (x :: l) = true → risesB (x :: insD l d) = true := by
 induction l with
 | nil => exact ⟨by simp [insD, risesB], fun x hx _ => by simp [insD, risesB, hx]⟩
 | cons a l ih =>
  have hl : risesB l = true := by
   cases l with
   | nil => rfl
   | cons b l => rw [risesB, Bool.and_eq_true] at h; exact h.2
  obtain ⟨i1, i2⟩ := ih hl
  unfold insD
  by_cases h1 : a.lt d = true
  ·rw [if_pos h1]
   have := i2 a h1 h
   exact ⟨this, fun x hx hxa => by rw [risesB, Bool.and_eq_true] at hxa ⊢; exact ⟨hxa.1, this⟩⟩
  ·rw [if_neg h1]
   by_cases h2 : a.eqv d = true
   ·rw [if_pos h2]
    exact ⟨h, fun x _ hxa => hxa⟩
   ·rw [if_neg h2]
    have ht := DotR.turn a d (by simpa using h1) (by simpa using h2)
    have : risesB (d :: a :: l) = true := by rw [risesB, Bool.and_eq_true]; exact ⟨ht, h⟩
    exact ⟨this, fun x hx _ => by rw [risesB, Bool.and_eq_true]; exact ⟨hx, this⟩⟩
/-- Where the dot goes. -/
theorem insD_end (l : List DotR) (d : DotR) (h : ∀ (j : Nat) (a : DotR), l[j]? = some a → a.lt d = true) : insD l d = l ++ [d] := by
 induction l with
 | nil => rfl
 | cons a l ih =>
  unfold insD
  rw [if_pos (h 0 a rfl), ih (fun j b hb => h (j + 1) b (by simpa using hb))]
  rfl
theorem insD_at (l : List DotR) (d : DotR) (k : Nat) (a : DotR) (h : ∀ (j : Nat) (b : DotR), j < k → l[j]? = some b → b.lt d = true) (hk : l[k]? = some a) (ha : a.lt d = false) :
  insD l d = if a.eqv d then l else l.take k ++ d :: l.drop k := by
 induction k generalizing l with
 | zero =>
  cases l with
  | nil => simp at hk
  | cons b l =>
   simp at hk
   subst hk
   unfold insD
   rw [if_neg (by rw [ha]; simp)]
   rfl
 | succ k ih =>
  cases l with
  | nil => simp at hk
  | cons b l =>
   unfold insD
   rw [if_pos (h 0 b (by omega) rfl), ih l (fun j c hj hc => h (j + 1) c (by omega) (by simpa using hc)) (by simpa using hk)]
   split <;> simp
def insN (l : List DotR) (n : Nat) : List DotR := (l.take n).foldl (fun L x => insD L (gd x)) []
theorem insN_succ (l : List DotR) (n : Nat) (x : DotR) (h : l[n]? = some x) : insN l (n + 1) = insD (insN l n) (gd x) := by
 unfold insN
 obtain ⟨hn, hx⟩ := List.getElem?_eq_some_iff.1 h
 rw [List.take_succ_eq_append_getElem hn, List.foldl_append, hx]
 rfl
theorem insN_len (l : List DotR) (n : Nat) : (insN l n).length ≤ n := by
 induction n with
 | zero => simp [insN]
 | succ n ih =>
  by_cases h : n < l.length
  ·rw [insN_succ l n l[n] (List.getElem?_eq_getElem h)]
   have := insD_len (insN l n) (gd l[n])
   omega
  ·unfold insN at *
   rw [List.take_of_length_le (by omega)] at *
   omega
theorem insN_rises (l : List DotR) (n : Nat) : risesB (insN l n) = true := by
 induction n with
 | zero => rfl
 | succ n ih =>
  by_cases h : n < l.length
  ·rw [insN_succ l n l[n] (List.getElem?_eq_getElem h)]
   exact (insD_rises _ _ ih).1
  ·unfold insN at *
   rw [List.take_of_length_le (by omega)] at *
   exact ih
theorem gd_ok (d : DotR) : (gd d).ok := by
 unfold gd DotR.ok I64ok
 simp only
 omega
theorem insD_all {p : DotR → Prop} (l : List DotR) (d : DotR) (hl : ∀ x ∈ l, p x) (hd : p d) : ∀ x ∈ insD l d, p x := by
 induction l with
 | nil => intro x hx; simp [insD] at hx; subst hx; exact hd
 | cons a l ih =>
  intro x hx
  unfold insD at hx
  split at hx
  ·rcases List.mem_cons.1 hx with rfl | hx
   ·exact hl _ (by simp)
   ·exact ih (fun y hy => hl y (by simp [hy])) x hx
  ·split at hx
   ·exact hl x hx
   ·rcases List.mem_cons.1 hx with rfl | hx
    ·exact hd
    ·exact hl x hx
theorem insN_ok (l : List DotR) (n : Nat) : ∀ x ∈ insN l n, x.ok := by
 induction n with
 | zero => simp [insN]
 | succ n ih =>
  by_cases h : n < l.length
  ·rw [insN_succ l n l[n] (List.getElem?_eq_getElem h)]
   exact insD_all _ _ ih (gd_ok _)
  ·unfold insN at *
   rw [List.take_of_length_le (by omega)] at *
   exact ih
def goodKey (s : List UInt8) : List UInt8 := if s.length % 3 = 0 then [97] else if s.length % 3 = 1 then [98] else [120]
def goodText (s : List UInt8) : List UInt8 := if s.length % 4 = 0 then [] else if s.length % 4 = 1 then [116] else if s.length % 4 = 2 then [85, 32] else [32, 118]
def goodN (k n : Int) : Int := if k = 4 then (if n % 12 - 6 = 0 then 6 else n % 12 - 6) else if k = 5 then n % 30 else n
def goodOp (o : OpR) : OpR where
 dot := ⟨o.dot.dev % 6, 1 + o.dot.ep % 3, 1 + o.dot.seq % 30⟩
 coll := o.coll % 3
 ver := 1 + o.ver % 3
 kind := 1 + o.kind % 5
 key := goodKey o.key
 text := goodText o.text
 n := goodN (1 + o.kind % 5) o.n
 time := o.time % 50
 dots := if 1 + o.kind % 5 = 3 then goodDots o.dots else []
theorem goodKey_ok (s : List UInt8) : textOk (goodKey s) = true ∧ goodKey s ≠ [] ∧ (goodKey s).length = 1 := by
 unfold goodKey
 split
 ·decide
 ·split <;> decide
theorem goodText_ok (s : List UInt8) : textOk (goodText s) = true ∧ (goodText s).length ≤ 2 := by
 unfold goodText
 split
 ·decide
 ·split
  ·decide
  ·split <;> decide
theorem goodOp_ok (o : OpR) (h : o.ok) : (goodOp o).ok := by
 obtain ⟨h1, h2, h3, h4, h5, h6, h7, h8, h9⟩ := h
 have k1 := (goodKey_ok o.key).2.2
 have k2 := (goodText_ok o.text).2
 refine ⟨⟨?_, ?_, ?_⟩, ?_, ?_, ?_, ?_, ?_, ?_, ?_, ?_⟩
 ·unfold I64ok goodOp; simp only; omega
 ·unfold I64ok goodOp; simp only; omega
 ·unfold I64ok goodOp; simp only; omega
 ·unfold I64ok goodOp; simp only; omega
 ·unfold I64ok goodOp; simp only; omega
 ·unfold I64ok goodOp; simp only; omega
 ·unfold I64ok goodOp goodN at *; simp only
  split
  ·split <;> omega
  ·split <;> omega
 ·unfold I64ok goodOp; simp only; omega
 ·unfold goodOp maxLen; simp only; omega
 ·unfold goodOp maxLen; simp only; omega
 ·unfold goodOp; simp only
  split
  ·exact insN_ok _ _
  ·simp
theorem goodOp_len (o : OpR) : (goodOp o).dots.length ≤ 8 := by
 unfold goodOp; simp only
 split
 ·exact insN_len o.dots 8
 ·simp
theorem goodOp_check (o : OpR) : checkOp (goodOp o) = 0 := by
 obtain ⟨k1, k2, k3⟩ := goodKey_ok o.key
 obtain ⟨t1, t2⟩ := goodText_ok o.text
 have hh : headOk (goodOp o) := by unfold headOk goodOp; simp only; omega
 have hk : (goodOp o).kind = 1 + o.kind % 5 := rfl
 unfold checkOp
 rw [if_neg (fun h => h hh), if_neg (by rw [hk]; omega), if_neg (by intro h; exact h ⟨k1, t1⟩)]
 unfold kindErr
 rw [if_neg (fun h => k2 h.2)]
 by_cases h3 : (goodOp o).kind = 3
 ·rw [if_pos h3]
  have : (goodOp o).dots = goodDots o.dots := by unfold goodOp; simp only; rw [if_pos (by rw [← hk]; exact h3)]
  unfold dotsErr
  rw [if_neg (by have := goodOp_len o; omega), this, show goodDots o.dots = insN o.dots 8 from rfl, if_pos (insN_rises o.dots 8)]
 ·rw [if_neg h3]
  have hn : (goodOp o).n = goodN (goodOp o).kind o.n := rfl
  by_cases h4 : (goodOp o).kind = 4
  ·rw [if_pos h4, hn]
   unfold goodN
   rw [if_pos h4]
   rw [if_neg]
   split <;> omega
  ·rw [if_neg h4]
   by_cases h5 : (goodOp o).kind = 5
   ·rw [if_pos h5, hn]
    unfold goodN
    rw [if_neg h4, if_pos h5, if_pos (by omega)]
   ·rw [if_neg h5]
end Go.Esc
/- Walks of the package slices, for bytes: Grow, Concat, Clone. -/
namespace Go.Proofs.YtddobhihjljcgaaGreat
open Go.RowKit Go.Esc
theorem TBytes : SlT Tryz.prog 37 5 (.int .u8 0) 1 1 := ⟨Tryz.underlying37, by kernel_rfl, rfl, by decide⟩
set_option maxHeartbeats 400000 in
theorem grow_nil (n : Nat) (w : World) (hn : n ≤ 70368744177664) :
  Calls Tryz.prog 96 #[.slice none 0 0, .int .i64 n] w fun e w' => ∃ a c, e = .returned (.slice a 0 c) ∧ Own w' w.heap.size a 1 0 c [] ∧ Ext no w w' := by
 by_cases h0 : n = 0
 ·subst h0
  go_enter Tryz.func96, Tryz.ntmps96
  go_wp2_with fail
  go_ret
  exact ⟨none, 0, rfl, Own.nil _ _ _, Ext.refl _ _⟩
 ·have hpos : 0 < n := by omega
  clear h0
  go_enter Tryz.func96, Tryz.ntmps96
  go_wp2_with (at_builtin; refine wpList_append_zeros TBytes rfl rfl Tryz.underlying3 rfl rfl w.heap.size (Nat.le_refl _) ?c1 ?c2 hpos ?_)
  case c1 => unfold maxLen; omega
  case c2 => omega
  intro c w1 hown hext
  go_wp2_with fail
  go_ret
  exact ⟨_, c, rfl, hown, hext⟩
set_option maxHeartbeats 400000 in
theorem concat_any (w : World) (oa : Option Addr) (oc : Nat) (L : List Part) (hL : L.length ≤ 1000) (hrd : Rd w oa (L.map Part.v)) (hp : ∀ p ∈ L, Rd w p.a (bs p.l)) (htot : (flat L).length ≤ 1099511627776) :
  Calls Tryz.prog 77 #[.slice oa L.length oc] w fun e w' => ∃ a c, e = .returned (.slice a (flat L).length c) ∧ Own w' w.heap.size a 1 (flat L).length c (bs (flat L)) ∧ Ext no w w' := by
 go_enter Tryz.func77, Tryz.ntmps77
 go_wp2_with fail
 go_loop [3, 5, 11] (fun size _ i => ∃ k : Nat, k ≤ L.length ∧ i = .int .i64 k ∧ size = .int .i64 (flat (L.take k)).length) (fun _ _ i => L.length - (intOf i).toNat)
 case atStart => exact ⟨0, Nat.zero_le _, rfl, rfl⟩
 case round =>
  obtain ⟨k, hk, rfl, rfl⟩ := hrel
  by_cases hlt : k < L.length
  ·obtain ⟨ad, rfl, _⟩ := hrd.ne (by simp; omega)
   have hc := hrd.cell k (by simpa using hlt)
   rw [List.getElem_map, Part.v] at hc
   have ht := flat_take_le L k
   have ht1 := flat_take_le L (k + 1)
   have hs := congrArg List.length (flat_take_succ L k hlt)
   rw [List.length_append] at hs
   have hs0 : ((flat (L.take k)).length : Int) + (L[k].l.length : Int) ≤ 1099511627776 := by omega
   have Hs := Lib.hid hs
   clear hs
   go_wp2_with fail
   go_round
   case rel => exact ⟨k + 1, by omega, by go_num, by rw [Hs.out]; go_num⟩
   case measure => simp [intOf]; omega
  ·obtain rfl : k = L.length := by omega
   rw [List.take_length]
   go_wp2_with (go_at_call 96; refine (grow_nil _ _ (by omega)).mono ?_; rintro e w1 ⟨a, c, rfl, hown, hext⟩)
   go_loopw [6, 8, 27] (fun v _ i wr => ∃ (k : Nat) (a : Option Addr) (c : Nat), k ≤ L.length ∧ i = .int .i64 k ∧ v = .slice a (flat (L.take k)).length c ∧ Own wr w.heap.size a 1 (flat (L.take k)).length c (bs (flat (L.take k))) ∧ Ext no w wr)
    (fun _ _ i _ => L.length - (intOf i).toNat)
   case atStart => exact ⟨0, _, _, Nat.zero_le _, rfl, rfl, hown, hext⟩
   case round =>
    clear hown hext
    obtain ⟨k, a, c, hk, rfl, rfl, hown, hext⟩ := hrel
    by_cases hlt : k < L.length
    ·obtain ⟨ad, rfl, _⟩ := hrd.ne (by simp; omega)
     have hc := hext.keeps (hrd.cell k (by simpa using hlt)) (fun h => h)
     rw [List.getElem_map, Part.v] at hc
     have hpk := (hp L[k] (by simp)).ext hext (fun _ _ h => h)
     have ht := flat_take_le L k
     have ht1 := flat_take_le L (k + 1)
     have hs := congrArg List.length (flat_take_succ L k hlt)
     rw [List.length_append] at hs
     have hsz := hext.size
     have hle : (flat (L.take k)).length + L[k].l.length ≤ 1099511627776 := by omega
     have Hs := Lib.hid hs
     clear hs
     go_wp2_with (at_builtin; refine wpList_append TBytes rfl rfl rfl hown rfl hpk (by simp) (bs_one _) ?c1 ?c2 (by omega) ?_)
     case c1 => unfold maxLen; omega
     case c2 => omega
     intro a' c' w1 happ
     have hown1 := happ.own
     have hext1 := happ.ext
     clear happ
     go_wp2_with fail
     go_roundw
     case rel =>
      refine ⟨k + 1, a', c', by omega, by go_num, by rw [Hs.out], ?_, ?_⟩
      ·rw [Hs.out, flat_take_succ L k hlt, bs_append]; exact hown1
      ·exact Ext.ofBelow ((hext.belowAll).trans (hown.below hext1 hext.size)) (Nat.le_refl _)
     case measure => simp [intOf]; omega
    ·obtain rfl : k = L.length := by omega
     rw [List.take_length] at hown ⊢
     go_wp2_with fail
     go_ret
     exact ⟨a, c, rfl, hown, hext⟩
theorem eqNil (w : World) (a : Option Addr) (n c : Nat) : (binOp .eql 37 (.slice a n c) (.slice none 0 0)).run Tryz.prog w = .ok (.bool a.isNone) w :=
 Lib.run_eql_slice_nil w _ _ a n c 0 0 Tryz.underlying37
set_option maxHeartbeats 400000 in
theorem clone_any (w : World) (a : Option Addr) (c : Nat) (l : List UInt8) (hrd : Rd w a (bs l)) (hl : l.length ≤ 70368744177664) :
  Calls Tryz.prog 57 #[.slice a l.length c] w fun e w' => ∃ a' c', e = .returned (.slice a' l.length c') ∧ Own w' w.heap.size a' 1 l.length c' (bs l) ∧ Ext no w w' := by
 have hq0 := eqNil w none 0 c
 have hq := eqNil w a l.length c
 cases a with
 | none =>
  have h0 : l = [] := by
   cases l with
   | nil => rfl
   | cons x xs => obtain ⟨_, h, _⟩ := hrd 0 _ rfl; cases h
  subst h0
  go_enter Tryz.func57, Tryz.ntmps57
  go_wp2_with fail
  go_ret
  exact ⟨none, 0, rfl, Own.nil _ _ _, Ext.refl _ _⟩
 | some ad =>
  have hz : Own (w.alloc (.cells #[] 5)) w.heap.size (some ⟨w.heap.size, 0, none⟩) 1 0 0 [] := Own.fresh w _ _ _ _ _ _ _ _ (Nat.le_refl _) (by simp) (Nat.le_refl _) (Nat.zero_le _) (by simp) (by simp) (.inl (Nat.le_refl _))
  go_enter Tryz.func57, Tryz.ntmps57
  go_wp2_with (at_builtin; refine wpList_append TBytes rfl rfl rfl hz rfl (hrd.alloc _) (by simp) (bs_one _) ?c1 ?c2 (by simp) ?_)
  case c1 => unfold maxLen; omega
  case c2 => omega
  intro a' c' w1 happ
  have hown := happ.own
  have hext := happ.ext
  rw [Nat.zero_add, List.nil_append] at hown
  go_wp2_with fail
  go_ret
  exact ⟨a', c', rfl, hown, Ext.ofBelow (((Below.refl _ _).alloc (Nat.le_refl _) _).trans (hz.below hext (by simp))) (Nat.le_refl _)⟩
theorem _root_.Go.Esc.Ext.drewN (S : Nat → Prop) (w : World) (n : Nat) : Ext S w (w.drewN n) := ⟨rfl, rfl, rfl, Nat.le_refl _, fun _ _ _ => rfl⟩
theorem _root_.Go.Esc.Rd.drewN {w : World} {a : Option Addr} {cs : List Value} (h : Rd w a cs) (n : Nat) : Rd (w.drewN n) a cs := h.ext (Ext.drewN no w n) (fun _ _ h => h)
end Go.Proofs.YtddobhihjljcgaaGreat
/- Bytes as strings; strings compared. -/
namespace Go.Proofs.YtddobhihjljcgaaGreat
open Go.RowKit Go.Esc
theorem toList_str (l : List UInt8) : (str l).toList = l := by rw [ByteArray.toList_eq]; rfl
theorem beqStrT {x y : List UInt8} (h : x = y) : ((str x).toList == (str y).toList) = true := by rw [toList_str, toList_str, beq_iff_eq]; exact h
theorem beqStrF {x y : List UInt8} (h : x ≠ y) : ((str x).toList == (str y).toList) = false := by rw [toList_str, toList_str, beq_eq_false_iff_ne]; exact h
theorem str_index (w : World) (s : List UInt8) (j : Nat) (b : UInt8) (h : s[j]? = some b) : (Instr.index 9 (.string (str s)) (.int .i64 j)).run Tryz.prog w = .ok (.int .u8 b.toNat) w := by
 obtain ⟨hj, hb⟩ := List.getElem?_eq_some_iff.1 h
 rw [run_index_string w _ _ _ _ Tryz.underlying9, dif_pos ⟨by omega, by rw [str_size]; omega⟩]
 simp only [Int.toNat_natCast]
 rw [← hb]; rfl
theorem beqEmptyT {x : List UInt8} (h : x = []) : (str x).toList.isEmpty = true := by rw [toList_str, h]; rfl
theorem beqEmptyF {x : List UInt8} (h : x ≠ []) : (str x).toList.isEmpty = false := by rw [toList_str, List.isEmpty_eq_false_iff]; exact h
end Go.Proofs.YtddobhihjljcgaaGreat
/- Structs in memory; slices that are made; what is copied: of no program. -/
namespace Go.Esc
open Go.RowKit
variable {w w' : World}
theorem decT {p : Prop} [Decidable p] (h : p) : decide p = true := decide_eq_true h
theorem decF {p : Prop} [Decidable p] (h : ¬ p) : decide p = false := decide_eq_false h
/-- The first cells of block g, none of which is frozen. -/
structure Blk (w : World) (g : Nat) (cs : List Value) : Prop where
 cell : ∀ k v, cs[k]? = some v → w.cell? ⟨g, k, none⟩ = some v
 fr : ∀ k, w.frozen? ⟨g, k, none⟩ = false
theorem Blk.lt {g : Nat} {cs : List Value} (h : Blk w g cs) (hn : cs ≠ []) : g < w.heap.size := by
 cases cs with
 | nil => exact absurd rfl hn
 | cons v vs => exact World.block_lt_of_cell? w _ (h.cell 0 v rfl)
theorem Blk.ext {S : Nat → Prop} {g : Nat} {cs : List Value} (h : Blk w g cs) (hn : cs ≠ []) (hx : Ext S w w') (hg : ¬ S g) : Blk w' g cs :=
 ⟨fun k v hk => hx.keeps (h.cell k v hk) hg, fun k => by rw [hx.frozen (p := ⟨g, k, none⟩) (h.lt hn) hg]; exact h.fr k⟩
theorem Blk.drew {g : Nat} {cs : List Value} (h : Blk w g cs) : Blk w.drew g cs := ⟨h.cell, h.fr⟩
theorem Blk.set {g : Nat} {cs : List Value} (h : Blk w g cs) (k : Nat) (v : Value) (hk : k < cs.length) : Blk (w.setCell ⟨g, k, none⟩ v) g (cs.set k v) := by
 refine ⟨fun i u hi => ?_, fun i => ?_⟩
 ·by_cases e : k = i
  ·subst e
   rw [List.getElem?_set_self hk] at hi
   cases hi
   exact World.cell?_setCell_same _ _ _ (h.cell k cs[k] (by simp [hk]))
  ·rw [List.getElem?_set_ne e] at hi
   rw [World.cell?_setCell_other _ _ _ _ (by intro hh; cases hh; exact e rfl)]
   exact h.cell i u hi
 ·have := World.frozen?_setCells g [v] k w ⟨g, i, none⟩
  exact this.trans (h.fr i)
theorem Blk.lit (w : World) (cs : Array Value) (e : TypeId) : Blk (w.alloc (.cells cs e)) w.heap.size cs.toList := by
 have hnew : (w.alloc (.cells cs e)).heap[w.heap.size]? = some (.cells cs e) := heap_alloc_new w _
 refine ⟨fun k v hk => ?_, fun k => ?_⟩
 ·rw [cell_of_row _ _ _ _ _ _ hnew]; simpa using hk
 ·simp only [World.frozen?, hnew]; simp
theorem Blk.at (w : World) (cs : Array Value) (e : TypeId) (g : Nat) (hg : g = w.heap.size) : Blk (w.alloc (.cells cs e)) g cs.toList := hg ▸ Blk.lit w cs e
section
variable {P : Program}
end
end Go.Esc
/- Rows of records: slices whose elements have k cells each; copying, making, appending such: of no program. -/
namespace Go.Esc
open Go.RowKit
def rows {α : Type} (f : α → List Value) (l : List α) : List Value := l.flatMap f
section
variable {α : Type} {f : α → List Value} {k : Nat} {w w' : World}
theorem rows_cons (x : α) (l : List α) : rows f (x :: l) = f x ++ rows f l := by simp [rows]
theorem rows_one (x : α) : rows f [x] = f x := by simp [rows]
theorem rows_append (l m : List α) : rows f (l ++ m) = rows f l ++ rows f m := by simp [rows]
theorem rows_length (hk : ∀ x, (f x).length = k) (l : List α) : (rows f l).length = l.length * k := by
 induction l with
 | nil => simp [rows]
 | cons x l ih => rw [rows_cons, List.length_append, ih, hk, List.length_cons, Nat.add_mul, Nat.one_mul, Nat.add_comm]
theorem rows_take (hk : ∀ x, (f x).length = k) (l : List α) (n : Nat) : (rows f l).take (n * k) = rows f (l.take n) := by
 induction l generalizing n with
 | nil => simp [rows]
 | cons x l ih =>
  cases n with
  | zero => simp [rows]
  | succ n =>
   rw [List.take_succ_cons, rows_cons, rows_cons, ← ih n, List.take_append, hk, List.take_of_length_le (by rw [hk, Nat.add_mul]; omega), show (n + 1) * k - k = n * k by rw [Nat.add_mul]; omega]
theorem rows_get (hk : ∀ x, (f x).length = k) (l : List α) (n : Nat) (x : α) (h : l[n]? = some x) (m : Nat) (v : Value) (hm : (f x)[m]? = some v) : (rows f l)[n * k + m]? = some v := by
 have hm3 : m < k := by have := (List.getElem?_eq_some_iff.1 hm).1; rw [hk] at this; exact this
 induction l generalizing n with
 | nil => simp at h
 | cons c l ih =>
  rw [rows_cons]
  cases n with
  | zero =>
   simp at h
   subst h
   rw [Nat.zero_mul, Nat.zero_add, List.getElem?_append_left (by rw [hk]; exact hm3)]
   exact hm
  | succ n =>
   rw [List.getElem?_append_right (by rw [hk, Nat.add_mul]; omega), show (n + 1) * k + m - (f c).length = n * k + m by rw [hk, Nat.add_mul]; omega]
   exact ih n (by simpa using h)
theorem rows_cell (hk : ∀ x, (f x).length = k) {b o : Nat} {l : List α} {n : Nat} {x : α} (h : Rd w (some ⟨b, o, none⟩) (rows f l)) (hx : l[n]? = some x) : ∀ m v, (f x)[m]? = some v → w.cell? ⟨b, o + n * k + m, none⟩ = some v := by
 intro m v hm
 obtain ⟨ad, hs, hc⟩ := h (n * k + m) v (rows_get hk l n x hx m v hm)
 cases hs
 rw [Addr.add_lit] at hc
 rw [Nat.add_assoc]
 exact hc
theorem rows_shape (hk : ∀ x, (f x).length = k) (hk0 : 0 < k) {a : Option Addr} {l : List α} (h : Rd w a (rows f l)) (hl : 0 < l.length) : ∃ b off, a = some ⟨b, off, none⟩ ∧ b < w.heap.size :=
 h.shape (by rw [rows_length hk]; exact Nat.mul_pos hl hk0)
end
section
variable {P : Program} {w w' : World}
end
end Go.Esc
/- What an argument that can be read holds, in Base's words: of no program. -/
namespace Go.Esc
open Go.RowKit Go.ChangeShapes Go.WideShapes Go.ChangeAt
open Go.ChangeMaps (open_string shut_string)
variable {H : Type} {enc : TypeId × Value → H} {P : Program} {W : World}
theorem of_int_wf {n : Int} (h : (Lit.int .i64 n).wf = true) : I64ok n := by
 simp [Lit.wf, IntKind.min, IntKind.max, IntKind.signed, IntKind.bits] at h
 exact ⟨by omega, by omega⟩
theorem open_bytes {t e : TypeId} {v : Value} {d : DataW H} {p : List MemPlace} {base : Nat} (ht : P.underlying t = some (.slice e)) (he : P.underlying e = some (.int .u8)) (hc : P.cellsOf e = 1)
  (hv : Value.okWide P W .any base t v) (h : DataW.Trod enc P W 0 (fun _ => true) true t v d p) : ∃ (a : Option Addr) (l : List UInt8) (c : Nat), v = .slice a l.length c ∧ Rd W a (bs l) ∧ l.length ≤ c ∧ c ≤ maxLen := by
 obtain ⟨a0, len, cap, rfl⟩ := okWide_slice ht hv
 obtain ⟨fuel, hf⟩ := h
 rcases open_ints ht he hc hf with ⟨hcs, _⟩ | ⟨x, l, c, zs, hcs, _, hl, hm, hz, _, hcell, hwz⟩
 ·simp [Value.cells] at hcs
  obtain ⟨rfl, rfl, rfl⟩ := hcs
  exact ⟨none, [], 0, rfl, Rd.nil _ _, by simp, Nat.zero_le _⟩
 ·simp [Value.cells] at hcs
  obtain ⟨rfl, rfl, rfl⟩ := hcs
  have hz' : zs.length = cap := by simpa using hz
  refine ⟨some x, (zs.take len).map (fun z => b8 z.toNat), cap, ?_, ?_, ?_, hm⟩
  ·simp [hz', Nat.min_eq_left hl]
  ·intro j v hj
   refine ⟨x, rfl, ?_⟩
   simp only [bs, List.map_map, List.getElem?_map, Option.map_eq_some_iff, Function.comp_apply] at hj
   obtain ⟨z, hz1, rfl⟩ := hj
   rw [List.getElem?_take] at hz1
   split at hz1
   ·rename_i hjl
    have hmem : z ∈ zs := List.mem_of_getElem? hz1
    have hw := hwz z hmem
    simp [Lit.wf, IntKind.min, IntKind.max, IntKind.signed, IntKind.bits] at hw
    rw [hcell j (by omega), List.getD_eq_getElem?_getD, hz1, B8_b8 _ (by omega)]
    simp only [Option.getD_some, Option.some.injEq, Value.int.injEq, true_and]
    omega
   ·cases hz1
  ·simp [hz', Nat.min_eq_left hl, hl]
theorem open_nums {t e : TypeId} {v : Value} {d : DataW H} {p : List MemPlace} {base : Nat} (ht : P.underlying t = some (.slice e)) (he : P.underlying e = some (.int .i64)) (hc : P.cellsOf e = 1)
  (hv : Value.okWide P W .any base t v) (h : DataW.Trod enc P W 0 (fun _ => true) true t v d p) : ∃ (a : Option Addr) (l : List Int) (c : Nat), v = .slice a l.length c ∧ Rd W a (is l) ∧ (∀ n ∈ l, I64ok n) ∧ l.length ≤ c ∧ c ≤ maxLen := by
 obtain ⟨a0, len, cap, rfl⟩ := okWide_slice ht hv
 obtain ⟨fuel, hf⟩ := h
 rcases open_ints ht he hc hf with ⟨hcs, _⟩ | ⟨x, l, c, zs, hcs, _, hl, hm, hz, _, hcell, hwz⟩
 ·simp [Value.cells] at hcs
  obtain ⟨rfl, rfl, rfl⟩ := hcs
  exact ⟨none, [], 0, rfl, Rd.nil _ _, by simp, by simp, Nat.zero_le _⟩
 ·simp [Value.cells] at hcs
  obtain ⟨rfl, rfl, rfl⟩ := hcs
  have hz' : zs.length = cap := by simpa using hz
  refine ⟨some x, zs.take len, cap, ?_, ?_, ?_, ?_, hm⟩
  ·simp [hz', Nat.min_eq_left hl]
  ·intro j v hj
   refine ⟨x, rfl, ?_⟩
   simp only [is, List.getElem?_map, Option.map_eq_some_iff] at hj
   obtain ⟨z, hz1, rfl⟩ := hj
   rw [List.getElem?_take] at hz1
   split at hz1
   ·rename_i hjl
    rw [hcell j (by omega), List.getD_eq_getElem?_getD, hz1]
    rfl
   ·cases hz1
  ·intro n hn
   exact of_int_wf (hwz n (List.mem_of_mem_take hn))
  ·simp [hz', Nat.min_eq_left hl, hl]
theorem open_num {t : TypeId} {v : Value} {d : DataW H} {p : List MemPlace} {base : Nat} (ht : P.underlying t = some (.int .i64))
  (hv : Value.okWide P W .any base t v) (h : DataW.Trod enc P W 0 (fun _ => true) true t v d p) : ∃ n : Int, v = .int .i64 n ∧ I64ok n := by
 obtain ⟨x, rfl, rfl, rfl, wx⟩ := open_int ht hv h
 exact ⟨x, rfl, of_int_wf wx⟩
theorem open_flag {t : TypeId} {v : Value} {d : DataW H} {p : List MemPlace} {base : Nat} (ht : P.underlying t = some .bool)
  (hv : Value.okWide P W .any base t v) (h : DataW.Trod enc P W 0 (fun _ => true) true t v d p) : ∃ b : Bool, v = .bool b := by
 obtain ⟨x, rfl, rfl, rfl⟩ := open_bool ht hv h
 exact ⟨x, rfl⟩
theorem places_lt {t : TypeId} {v : Value} {d : DataW H} {p : List MemPlace} (h : DataW.Trod enc P W 0 (fun _ => true) true t v d p) : ∀ x ∈ p, x.block < W.heap.size := by
 obtain ⟨m, hm⟩ := h
 exact DataW.trod_lt m _ _ _ hm
end Go.Esc
/- What an argument of several cells an element holds (slices of structs): of no program. -/
namespace Go.Esc
open Go.RowKit Go.ChangeShapes Go.WideShapes Go.ChangeAt
variable {H : Type} {enc : TypeId × Value → H} {P : Program} {W : World}
theorem cells_at {w : World} {base n : Nat} {a : Addr} {cs : List Value} (h : w.cells? base a n = some cs) : cs.length = n ∧ ∀ i v, cs[i]? = some v → w.cell? (a.add i) = some v := by
 obtain ⟨_, h2, h3⟩ := World.cells?_some h
 refine ⟨h2, fun i v hi => ?_⟩
 have hlt := (List.getElem?_eq_some_iff.1 hi).1
 rw [h3 i (by omega), hi]
theorem choose_list {R : Type} {p : Nat → R → Prop} : ∀ n, (∀ i, i < n → ∃ r, p i r) → ∃ l : List R, l.length = n ∧ ∀ i r, l[i]? = some r → p i r
 | 0, _ => ⟨[], rfl, by simp⟩
 | n + 1, h => by
  obtain ⟨l, hl, hp⟩ := choose_list n (fun i hi => h i (by omega))
  obtain ⟨r, hr⟩ := h n (by omega)
  refine ⟨l ++ [r], by simp [hl], fun i r' hi => ?_⟩
  by_cases hin : i < n
  ·rw [List.getElem?_append_left (by omega)] at hi
   exact hp i r' hi
  ·rw [List.getElem?_append_right (by omega)] at hi
   have : i = n := by
    have := (List.getElem?_eq_some_iff.1 hi).1
    simp at this
    omega
   subst this
   rw [hl, Nat.sub_self] at hi
   cases hi
   exact hr
theorem flat_cells {R : Type} {w : World} {a : Addr} {f : R → List Value} {k : Nat} (hk : ∀ r, (f r).length = k) : ∀ (l : List R) (i0 : Nat),
  (∀ i r, l[i]? = some r → ∀ m v, (f r)[m]? = some v → w.cell? (a.add ((i0 + i) * k + m)) = some v) → ∀ j v, (l.flatMap f)[j]? = some v → w.cell? (a.add (i0 * k + j)) = some v
 | [], _, _, j, v, h => by simp at h
 | r :: l, i0, hc, j, v, h => by
  rw [List.flatMap_cons] at h
  by_cases hj : j < k
  ·rw [List.getElem?_append_left (by rw [hk]; exact hj)] at h
   have := hc 0 r rfl j v h
   simpa using this
  ·rw [List.getElem?_append_right (by rw [hk]; omega), hk] at h
   have := flat_cells hk l (i0 + 1) (fun i r' hi m v' hm => by
    have := hc (i + 1) r' (by simpa using hi) m v' hm
    rw [show i0 + 1 + i = i0 + (i + 1) by omega]; exact this) (j - k) v h
   rw [show (i0 + 1) * k + (j - k) = i0 * k + j by rw [Nat.add_mul]; omega] at this
   exact this
/-- A slice of elements of which each is read as some r of R, of k cells. -/
theorem trod_rows {R : Type} {f : R → List Value} {good : R → Prop} {t e : TypeId} {fuel k : Nat} {cs : List Value} {x : DataW H × List MemPlace} (ht : P.underlying t = some (.slice e)) (ce : P.cellsOf e = k) (hk : ∀ r, (f r).length = k)
  (each : ∀ fuel cs x, DataW.trod enc P W 0 (fun _ => true) true fuel e cs = some x → ∃ r, cs = f r ∧ good r)
  (hf : DataW.trod enc P W 0 (fun _ => true) true fuel t cs = some x) : ∃ (a : Option Addr) (l : List R) (c : Nat), cs = [.slice a l.length c] ∧ Rd W a (l.flatMap f) ∧ (∀ r ∈ l, good r) ∧ l.length ≤ c ∧ c ≤ maxLen := by
 rcases DataW.trod_slice ht hf with ⟨hcs, _⟩ | ⟨a, len, cap, elems, rest, n, _, hcs, _, hb, hl, hm, hlen, hel, _, _⟩
 ·exact ⟨none, [], 0, hcs, Rd.nil _ _, by simp, by simp, Nat.zero_le _⟩
 ·rw [ce] at hel
  have hex : ∀ i, i < len → ∃ r, (∀ m v, (f r)[m]? = some v → W.cell? (a.add (i * k + m)) = some v) ∧ good r := by
   intro i hi
   have h1 := hel i hi
   rw [List.getElem?_eq_getElem (by omega), Option.bind_eq_some_iff] at h1
   obtain ⟨cs', h2, h3⟩ := h1
   obtain ⟨r, rfl, hg⟩ := each _ _ _ h3
   refine ⟨r, fun m v hv => ?_, hg⟩
   have := (cells_at h2).2 m v hv
   rwa [Addr.add_add] at this
  obtain ⟨l, hll, hp⟩ := choose_list len hex
  refine ⟨some a, l, cap, by rw [hcs, hll], ?_, ?_, by omega, hm⟩
  ·intro j v hj
   refine ⟨a, rfl, ?_⟩
   have := flat_cells hk l 0 (fun i r hi m v hm => by rw [Nat.zero_add]; exact (hp i r hi).1 m v hm) j v hj
   simpa using this
  ·intro r hr
   obtain ⟨i, hi⟩ := List.getElem?_of_mem hr
   exact (hp i r hi).2
/-- A field of a struct, by its place. -/
theorem trod_field {e : TypeId} {fs : Array Field} {fuel : Nat} {cs : List Value} {x : DataW H × List MemPlace} (he : P.underlying e = some (.struct fs)) (hf : DataW.trod enc P W 0 (fun _ => true) true fuel e cs = some x) (i : Nat) (t : TypeId) (o k : Nat)
  {f : Field} (hi : fs[i]? = some f) (ht : f.type = t) (ho : f.offset = o) (hk : P.cellsOf t = k) : ∃ n y, DataW.trod enc P W 0 (fun _ => true) true n t ((cs.drop o).take k) = some y := by
 subst ht ho hk
 obtain ⟨xs, n, _, _, _, hxl, hall⟩ := DataW.trod_struct he hf
 have hlt : i < fs.size := (Array.getElem?_eq_some_iff.1 hi).1
 have h := hall i f hi
 rw [List.getElem?_eq_getElem (by omega)] at h
 exact ⟨n, _, h⟩
theorem trod_cells {e : TypeId} {fs : Array Field} {fuel : Nat} {cs : List Value} {x : DataW H × List MemPlace} (he : P.underlying e = some (.struct fs)) (hf : DataW.trod enc P W 0 (fun _ => true) true fuel e cs = some x) : cs.length = P.cellsOf e := by
 obtain ⟨xs, n, _, _, h, _⟩ := DataW.trod_struct he hf
 exact h
theorem trod_num {t : TypeId} {fuel : Nat} {cs : List Value} {x : DataW H × List MemPlace} (ht : P.underlying t = some (.int .i64)) (h : DataW.trod enc P W 0 (fun _ => true) true fuel t cs = some x) : ∃ n, cs = [.int .i64 n] ∧ I64ok n := by
 obtain ⟨n, h1, _, h2⟩ := DataW.trod_int ht h
 exact ⟨n, h1, of_int_wf h2⟩
end Go.Esc
/- Records in a log, in plain terms: of no program. -/
namespace Go.Esc
/-- One bit of a sum. -/
def bit (c : Nat) : Nat := c / 2 ^^^ 3988292384 * (c % 2)
def bitN : Nat → Nat → Nat
 | 0, c => c
 | k + 1, c => bit (bitN k c)
def crcB (c : Nat) (b : UInt8) : Nat := bitN 8 (c ^^^ b.toNat)
def crcL (c : Nat) (l : List UInt8) : Nat := l.foldl crcB c
def crc (l : List UInt8) : Nat := 4294967295 - crcL 4294967295 l
theorem bit_lt {c : Nat} (h : c < 4294967296) : bit c < 4294967296 := by
 unfold bit
 refine Nat.xor_lt_two_pow (n := 32) (by omega) ?_
 have : c % 2 ≤ 1 := by omega
 omega
theorem crc_lt (l : List UInt8) : crc l < 4294967296 := by unfold crc; omega
theorem crcL_snoc (c : Nat) (l : List UInt8) (b : UInt8) : crcL c (l ++ [b]) = crcB (crcL c l) b := by simp [crcL]
theorem bit_even {c : Nat} (h : c % 2 = 0) : bit c = c / 2 := by unfold bit; rw [h]; simp
theorem bit_odd {c : Nat} (h : c % 2 = 1) : bit c = c / 2 ^^^ 3988292384 := by unfold bit; rw [h]
/-- Four bytes of a number, and back. -/
def be4 (n : Nat) : List UInt8 := [b8 (n / 16777216), b8 (n / 65536 % 256), b8 (n / 256 % 256), b8 (n % 256)]
def num4 (a b c d : UInt8) : Nat := a.toNat * 16777216 + b.toNat * 65536 + c.toNat * 256 + d.toNat
def rd4 : List UInt8 → Nat
 | a :: b :: c :: d :: _ => num4 a b c d
 | _ => 0
theorem be4_length (n : Nat) : (be4 n).length = 4 := rfl
theorem num4_lt (a b c d : UInt8) : num4 a b c d < 4294967296 := by
 have := a.toNat_lt; have := b.toNat_lt; have := c.toNat_lt; have := d.toNat_lt
 unfold num4; omega
theorem rd4_lt (l : List UInt8) : rd4 l < 4294967296 := by
 unfold rd4; split
 ·exact num4_lt _ _ _ _
 ·omega
theorem rd4_be4 (n : Nat) (h : n < 4294967296) (r : List UInt8) : rd4 (be4 n ++ r) = n := by
 simp only [be4, rd4, List.cons_append, num4, List.nil_append]
 rw [b8_toNat _ (by omega), b8_toNat _ (by omega), b8_toNat _ (by omega), b8_toNat _ (by omega)]
 omega
theorem rd4_split (l : List UInt8) (h : 4 ≤ l.length) : ∃ a b c d r, l = a :: b :: c :: d :: r := by
 match l, h with
 | a :: b :: c :: d :: r, _ => exact ⟨a, b, c, d, r, rfl⟩
theorem rd4_append (l r : List UInt8) (h : 4 ≤ l.length) : rd4 (l ++ r) = rd4 l := by
 obtain ⟨a, b, c, d, t, rfl⟩ := rd4_split l h
 rfl
def frame (l : List UInt8) : List UInt8 := be4 l.length ++ (be4 (crc l) ++ l)
theorem frame_length (l : List UInt8) : (frame l).length = l.length + 8 := by simp [frame, be4_length]; omega
theorem frame_append (l r : List UInt8) : frame l ++ r = be4 l.length ++ (be4 (crc l) ++ (l ++ r)) := by simp [frame]
/-- What bytes say that are just one frame. -/
def one (b : List UInt8) : List UInt8 × Nat :=
 if b.length < 8 then ([], 8) else if 4194304 < rd4 b then ([], 5) else if b.length - 8 < rd4 b then ([], 8) else if rd4 b < b.length - 8 then ([], 9) else if crc (b.drop 8) = rd4 (b.drop 4) then (b.drop 8, 0) else ([], 10)
end Go.Esc
/- What the statements of chapter 2 say, in plain terms: of no program. -/
namespace Go.Esc
theorem rd4_frame (b r : List UInt8) (h : b.length ≤ 4194304) : rd4 (frame b ++ r) = b.length := by rw [frame_append]; exact rd4_be4 _ (by omega) _
theorem rd4_take (b : List UInt8) (k : Nat) (h : b.length ≤ 4194304) (hk : 4 ≤ k) (hk2 : k ≤ (frame b).length) : rd4 ((frame b).take k) = b.length := by
 have h1 := rd4_append ((frame b).take k) ((frame b).drop k) (by rw [List.length_take]; omega)
 rw [List.take_append_drop] at h1
 have h2 := rd4_frame b [] h
 rw [List.append_nil] at h2
 rw [← h1, h2]
theorem one_cut (b : List UInt8) (h : b.length ≤ 4194304) (k : Nat) (hk : k < (frame b).length) : one ((frame b).take k) = ([], 8) := by
 have hl : ((frame b).take k).length = k := by rw [List.length_take]; omega
 have hf := frame_length b
 unfold one
 rw [hl]
 by_cases h8 : k < 8
 ·rw [if_pos h8]
 ·rw [if_neg h8, rd4_take b k h (by omega) (by omega), if_neg (by omega), if_pos (by omega)]
end Go.Esc
/- Walks of the package frames: Crc, four, number. -/
namespace Go.Proofs.YtddobhihjljcgaaGreat
open Go.RowKit Go.Esc
theorem wraps_u32 (n : Int) (h₀ : 0 ≤ n) (h₁ : n < 2 ^ 32) : IntKind.u32.wrap n = n := by rw [IntKind.wrap_u32']; omega
theorem xor_ones32 (x : Nat) (h : x < 4294967296) : bits .xor .u32 IntKind.u32.max (x : Int) = ((4294967295 - x : Nat) : Int) := by
 have h0 : IntKind.u32.max = ((4294967295 : Nat) : Int) := rfl
 rw [h0, u32_xor_nat _ _ (by omega) h]
 congr 1
 have h2 : (BitVec.allOnes 32 ^^^ BitVec.ofNat 32 x).toNat = 4294967295 - x := by
  rw [BitVec.allOnes_xor, BitVec.toNat_not, BitVec.toNat_ofNat]
  omega
 rw [BitVec.toNat_xor, BitVec.toNat_ofNat, Nat.mod_eq_of_lt h] at h2
 exact h2
theorem or_num4 (x y z t : UInt8) : bits .or .u32 (bits .or .u32 (bits .or .u32 ((x.toNat : Int) * 16777216) ((y.toNat : Int) * 65536)) ((z.toNat : Int) * 256)) (t.toNat : Int) = ((num4 x y z t : Nat) : Int) := by
 have bx := x.toNat_lt
 have bY := y.toNat_lt
 have bz := z.toNat_lt
 have bt := t.toNat_lt
 have e1 := bits_join .u32 32 (by decide) wraps_u32 24 ((x.toNat : Int) * 16777216) ((y.toNat : Int) * 65536) (by omega) (by first | omega | (simp; omega)) (by first | (simp; omega) | simp) (by omega) (by first | omega | (simp; omega)) (by first | omega | (simp; omega))
 have e2 := bits_join .u32 32 (by decide) wraps_u32 16 ((x.toNat : Int) * 16777216 + (y.toNat : Int) * 65536) ((z.toNat : Int) * 256) (by omega) (by first | omega | (simp; omega)) (by first | (simp; omega) | simp) (by omega) (by first | omega | (simp; omega)) (by first | omega | (simp; omega))
 have e3 := bits_join .u32 32 (by decide) wraps_u32 8 ((x.toNat : Int) * 16777216 + (y.toNat : Int) * 65536 + (z.toNat : Int) * 256) (t.toNat : Int) (by omega) (by first | omega | (simp; omega)) (by first | (simp; omega) | simp) (by omega) (by first | omega | (simp; omega)) (by first | omega | (simp; omega))
 rw [e1, e2, e3]
 unfold num4
 omega
set_option maxHeartbeats 400000 in
theorem fcrc_any (w : World) (a : Option Addr) (c : Nat) (l : List UInt8) (hrd : Rd w a (bs l)) (hl : l.length ≤ 1099511627776) :
  Calls Tryz.prog 56 #[.slice a l.length c] w fun e w' => e = .returned (.int .u32 (crc l)) ∧ w = w' := by
 go_enter Tryz.func56, Tryz.ntmps56
 go_wp2_with fail
 go_loop [3, 8] (fun s3 s8 => ∃ (k v : Nat), k ≤ l.length ∧ s8 = .int .i64 k ∧ s3 = .int .u32 v ∧ v < 4294967296 ∧ v = crcL 4294967295 (l.take k)) (fun _ s8 => l.length - (intOf s8).toNat)
 case atStart => exact ⟨0, 4294967295, Nat.zero_le _, rfl, rfl, by omega, by simp [crcL]⟩
 case round =>
  obtain ⟨k, v, hk, rfl, rfl, hv, hcr⟩ := hrel
  have Hcr := Lib.hid hcr
  clear hcr
  by_cases hlt : k < l.length
  ·obtain ⟨ad, rfl, _⟩ := hrd.ne (by simp; omega)
   have hcell := hrd.cell k (by simpa using hlt)
   rw [show (bs l)[k]'(by simpa using hlt) = .int .u8 l[k].toNat from by simp [bs, B8]] at hcell
   have hb := l[k].toNat_lt
   have hxl : v ^^^ l[k].toNat < 4294967296 := Nat.xor_lt_two_pow (n := 32) hv (by omega)
   have Hst := Lib.hid (show crcL 4294967295 (l.take (k + 1)) = crcB v l[k] by rw [List.take_succ_eq_append_getElem hlt, crcL_snoc, Hcr.out])
   have hx : bits .xor .u32 (v : Int) (l[k].toNat : Int) = ((v ^^^ l[k].toNat : Nat) : Int) := u32_xor_nat _ _ hv (by omega)
   generalize l[k] = b at *
   go_wp2_with fail
   go_loop [3, 16] (fun s3 s16 => ∃ (j u : Nat), j ≤ 8 ∧ s16 = .int .i64 j ∧ s3 = .int .u32 u ∧ u < 4294967296 ∧ u = bitN j (v ^^^ b.toNat)) (fun _ s16 => 8 - (intOf s16).toNat)
   case atStart => exact ⟨0, v ^^^ b.toNat, by omega, rfl, rfl, hxl, rfl⟩
   case round =>
    obtain ⟨j, u, hj, rfl, rfl, hu, hbn⟩ := hrel
    have Hbn := Lib.hid hbn
    clear hbn
    by_cases hlt8 : j < 8
    ·have h2 : u % 2 ≤ 1 := by omega
     have hx2 : bits .xor .u32 ((u : Int) / 2) (3988292384 * ((u : Int) % 2)) = ((bit u : Nat) : Int) := by
      have := u32_xor_nat (u / 2) (3988292384 * (u % 2)) (by omega) (by omega)
      unfold bit; simpa using this
     have hand : bits .and .u32 (u : Int) 1 = (u : Int) % 2 := by
      have := u32_and_nat u 1 hu (by omega)
      rw [Nat.and_one_is_mod] at this
      simpa using this
     have hbl := bit_lt hu
     go_wp2_with fail
     go_round
     case rel => exact ⟨j + 1, bit u, by omega, by go_num, rfl, hbl, by rw [Hbn.out]; rfl⟩
     case measure => simp [intOf]; omega
    ·obtain rfl : j = 8 := by omega
     go_wp2_with fail
     go_round
     case rel => exact ⟨k + 1, u, by omega, by go_num, rfl, hu, by rw [Hst.out, Hbn.out]; rfl⟩
     case measure => simp [intOf]; omega
  ·obtain rfl : k = l.length := by omega
   rw [List.take_length] at Hcr
   have hxo := xor_ones32 v hv
   go_wp2_with fail
   go_ret
   exact ⟨by rw [crc, ← Hcr.out]; rfl, rfl⟩
set_option maxHeartbeats 400000 in
theorem four_any (w : World) (n : Nat) (hn : n < 4294967296) :
  Calls Tryz.prog 78 #[.int .u32 n] w fun e w' => ∃ a c, e = .returned (.slice a 4 c) ∧ Own w' w.heap.size a 1 4 c (bs (be4 n)) ∧ Ext no w w' := by
 go_enter Tryz.func78, Tryz.ntmps78
 go_wp2_with fail
 go_ret
 refine ⟨_, 4, rfl, ?_, Ext.alloc no _ _⟩
 refine Own.fresh w _ _ _ _ _ _ _ _ (Nat.le_refl _) (by simp [be4_length]) (Nat.le_refl _) (by unfold maxLen; omega) rfl ?_ (.inl (Nat.le_refl _))
 simp only [be4, bs, List.map_cons, List.map_nil, B8_b8 (n / 16777216) (by omega), B8_b8 (n / 65536 % 256) (by omega), B8_b8 (n / 256 % 256) (by omega), B8_b8 (n % 256) (by omega)]
 simp
set_option maxHeartbeats 400000 in
theorem fnum_any (w : World) (a : Option Addr) (c : Nat) (l : List UInt8) (hrd : Rd w a (bs l)) (h4 : 4 ≤ l.length) (hl : l.length ≤ 1099511627776) :
  Calls Tryz.prog 55 #[.slice a l.length c] w fun e w' => e = .returned (.int .u32 (rd4 l)) ∧ ∃ n, w' = w.drewN n := by
 obtain ⟨b, off, rfl, _⟩ := hrd.shape (by simp; omega)
 obtain ⟨x, y, z, t, r, hs⟩ := rd4_split l h4
 have hc0 := hrd.lookup 0 (by simp; omega)
 have hc1 := hrd.lookup 1 (by simp; omega)
 have hc2 := hrd.lookup 2 (by simp; omega)
 have hc3 := hrd.lookup 3 (by simp; omega)
 simp only [hs, bs, B8, List.map_cons, List.getElem_cons_zero, List.getElem_cons_succ] at hc0 hc1 hc2 hc3
 rw [Nat.add_zero] at hc0
 have hrd4 : rd4 l = num4 x y z t := by rw [hs]; rfl
 have i0 : (0 : Int) < l.length := by omega
 have i1 : (1 : Int) < l.length := by omega
 have i2 : (2 : Int) < l.length := by omega
 have i3 : (3 : Int) < l.length := by omega
 have bx := x.toNat_lt
 have bY := y.toNat_lt
 have bz := z.toNat_lt
 have bt := t.toNat_lt
 rw [hrd4]
 clear hs hrd4
 go_enter Tryz.func55, Tryz.ntmps55
 go_upto_region 1 with fail
 go_quiet (fail)
 go_wp2_with fail
 rw [or_num4]
 go_ret
 exact ⟨rfl, _, rfl⟩
theorem fcrc_q (w : World) (n : Nat) (a : Option Addr) (m c : Nat) (l : List UInt8) (hm : m = l.length) (hrd : Rd w a (bs l)) (hl : l.length ≤ 1099511627776) :
  Calls Tryz.prog 56 #[.slice a m c] (w.drewN n) fun e w' => e = .returned (.int .u32 (crc l)) ∧ ∃ m, w' = w.drewN m := by
 subst hm
 exact (fcrc_any _ a c l (hrd.drewN n) hl).mono fun e w' ⟨he, hw⟩ => ⟨he, n, hw.symm⟩
theorem fnum_q (w : World) (n : Nat) (a : Option Addr) (m c : Nat) (l : List UInt8) (hm : m = l.length) (hrd : Rd w a (bs l)) (h4 : 4 ≤ l.length) (hl : l.length ≤ 1099511627776) :
  Calls Tryz.prog 55 #[.slice a m c] (w.drewN n) fun e w' => e = .returned (.int .u32 (rd4 l)) ∧ ∃ m, w' = w.drewN m := by
 subst hm
 exact Calls.quiet_of (fnum_any _ a c l (hrd.drewN n) h4 hl)
end Go.Proofs.YtddobhihjljcgaaGreat
/- Walks of the package frames: Frame, One. -/
namespace Go.Proofs.YtddobhihjljcgaaGreat
open Go.RowKit Go.Esc
set_option maxHeartbeats 400000 in
theorem fframe_any (w : World) (a : Option Addr) (c : Nat) (l : List UInt8) (hrd : Rd w a (bs l)) (hl : l.length ≤ 4194304) :
  Calls Tryz.prog 48 #[.slice a l.length c] w fun e w' => ∃ a' c', e = .returned (.tuple #[.slice a' (frame l).length c', .int .i64 0]) ∧ Own w' w.heap.size a' 1 (frame l).length c' (bs (frame l)) ∧ Ext no w w' := by
 have hlt := crc_lt l
 go_enter Tryz.func48, Tryz.ntmps48
 go_wp2_with fail
 refine (four_any w l.length (by omega)).mono ?_
 rintro e w1 ⟨a1, c1, rfl, hown1, hext1⟩
 go_wp2_with fail
 refine (fcrc_any w1 a c l (hrd.ext hext1 (fun _ _ h => h)) (by omega)).mono ?_
 rintro e w2 ⟨rfl, rfl⟩
 go_wp2_with fail
 refine (four_any w1 (crc l) hlt).mono ?_
 rintro e w2 ⟨a2, c2, rfl, hown2, hext2⟩
 go_wp2_with fail
 have hfl : flat [⟨a1, be4 l.length, c1⟩, ⟨a2, be4 (crc l), c2⟩, ⟨a, l, c⟩] = frame l := by simp [flat, frame]
 have hfn := frame_length l
 refine (concat_any _ _ 3 [⟨a1, be4 l.length, c1⟩, ⟨a2, be4 (crc l), c2⟩, ⟨a, l, c⟩] (by simp) (Rd.lit w2 _ _ _) ?_ ?_).mono ?_
 ·intro p hp
  simp only [List.mem_cons, List.not_mem_nil, or_false] at hp
  rcases hp with rfl | rfl | rfl
  ·exact (hown1.rd.ext hext2 (fun _ _ h => h)).alloc _
  ·exact hown2.rd.alloc _
  ·exact (hrd.ext (hext1.comp hext2) (fun _ _ h => h)).alloc _
 ·rw [hfl]; omega
 ·rintro e w3 ⟨a3, c3, rfl, hown3, hext3⟩
  rw [hfl] at hown3 ⊢
  clear hfl hfn
  go_wp2_with fail
  go_ret2
  exact ⟨a3, c3, rfl, hown3.mono (by have := hext1.size; have := hext2.size; simp; omega), ((hext1.comp hext2).comp (Ext.alloc no _ _)).comp hext3⟩
set_option maxHeartbeats 400000 in
theorem fone_new (w : World) (a : Option Addr) (c : Nat) (l : List UInt8) (hrd : Rd w a (bs l)) (hl : l.length ≤ 1099511627776) (hlc : l.length ≤ c) :
  Calls Tryz.prog 26 #[.slice a l.length c] w fun e w' => ∃ a' c', e = .returned (.tuple #[.slice a' (one l).1.length c', .int .i64 (one l).2]) ∧ Rd w' a' (bs (one l).1) ∧ (∀ ad, a' = some ad → w.heap.size ≤ ad.block) ∧ Ext no w w' := by
 by_cases h8 : l.length < 8
 ·have ho : one l = ([], 8) := by unfold one; rw [if_pos h8]
  rw [ho]
  clear ho
  go_enter Tryz.func26, Tryz.ntmps26
  go_wp2_with fail
  go_ret2
  exact ⟨none, 0, rfl, Rd.nil _ _, (fun _ h => by cases h), Ext.refl _ _⟩
 ·have hrest : Rd w (cutAt a c 8 1) (bs (l.drop 8)) := by
   have := hrd.cut c 8 1 (fun _ => by simp; omega)
   rw [bs_drop] at this; exact this
  have hsum : Rd w (cutAt a c 4 1) (bs (l.drop 4)) := by
   have := hrd.cut c 4 1 (fun _ => by simp; omega)
   rw [bs_drop] at this; exact this
  have cut8 : ∀ w, (Instr.sliceAt 37 (.slice a l.length c) (some (.int .i64 8)) none none).run Tryz.prog w = .ok (.slice (cutAt a c 8 1) (l.length - 8) (c - 8)) w := fun w => run_cut_l TBytes w a l.length c .i64 8 (by omega)
  have cut4 : ∀ w, (Instr.sliceAt 37 (.slice a l.length c) (some (.int .i64 4)) none none).run Tryz.prog w = .ok (.slice (cutAt a c 4 1) (l.length - 4) (c - 4)) w := fun w => run_cut_l TBytes w a l.length c .i64 4 (by omega)
  have hn := rd4_lt l
  have hs := rd4_lt (l.drop 4)
  have hc := crc_lt (l.drop 8)
  obtain ⟨o, ho⟩ : ∃ o, o = one l := ⟨_, rfl⟩
  rw [← ho]
  have Ho := Lib.hid ho
  clear ho
  go_enter Tryz.func26, Tryz.ntmps26
  go_upto_region 3 with fail
  go_quiet ((go_at_call 55; exact fnum_q w _ a _ c l rfl hrd (by omega) hl))
  generalize cutAt a c 8 1 = a8 at *
  have hx1 := Ext.drewN no w nq
  have hrest1 := hrest.drewN nq
  have hsum1 := hsum.drewN nq
  clear cut8 hrest hsum
  generalize w.drewN nq = w1 at *
  by_cases h1 : 4194304 < rd4 l
  ·have Hoo := Lib.hid (show one l = ([], 5) by unfold one; rw [if_neg h8, if_pos h1])
   go_wp2_with fail
   go_ret2
   rw [Ho.out, Hoo.out]
   exact ⟨none, 0, rfl, Rd.nil _ _, (fun _ h => by cases h), hx1⟩
  by_cases h2 : l.length - 8 < rd4 l
  ·have Hoo := Lib.hid (show one l = ([], 8) by unfold one; rw [if_neg h8, if_neg h1, if_pos h2])
   go_wp2_with fail
   go_ret2
   rw [Ho.out, Hoo.out]
   exact ⟨none, 0, rfl, Rd.nil _ _, (fun _ h => by cases h), hx1⟩
  by_cases h3 : rd4 l < l.length - 8
  ·have Hoo := Lib.hid (show one l = ([], 9) by unfold one; rw [if_neg h8, if_neg h1, if_neg h2, if_pos h3])
   go_wp2_with fail
   go_ret2
   rw [Ho.out, Hoo.out]
   exact ⟨none, 0, rfl, Rd.nil _ _, (fun _ h => by cases h), hx1⟩
  have hl8 : (l.drop 8).length ≤ 1099511627776 := by simp; omega
  have hl4 : (l.drop 4).length ≤ 1099511627776 := by simp; omega
  have hl44 : 4 ≤ (l.drop 4).length := by simp; omega
  have Hoo := Lib.hid (show one l = if crc (l.drop 8) = rd4 (l.drop 4) then (l.drop 8, 0) else ([], 10) by unfold one; rw [if_neg h8, if_neg h1, if_neg h2, if_neg h3])
  go_upto_region 10 with fail
  go_quiet (first | (go_at_call 55; exact fnum_q _ _ _ _ _ (l.drop 4) (by simp) hsum1 hl44 hl4) | (go_at_call 56; exact fcrc_q _ _ _ _ _ (l.drop 8) (by simp) hrest1 hl8))
  have hx2 := hx1.comp (Ext.drewN no w1 nq)
  have hrest2 := hrest1.drewN nq
  generalize w1.drewN nq = w2 at *
  by_cases hq : crc (l.drop 8) = rd4 (l.drop 4)
  ·have hb : ((crc (l.drop 8) : Int) != (rd4 (l.drop 4) : Int)) = false := by simp [hq]
   rw [if_pos hq] at Hoo
   clear hq
   go_wp2_with fail
   rw [show l.length - 8 = (l.drop 8).length from by simp]
   refine (clone_any w2 a8 (c - 8) (l.drop 8) hrest2 (by omega)).mono ?_
   rintro e w3 ⟨a3, c3, rfl, hown3, hx3⟩
   go_wp2_with fail
   go_ret2
   rw [Ho.out, Hoo.out]
   exact ⟨a3, c3, by rw [List.length_drop]; rfl, hown3.rd, (fun ad h => Nat.le_trans hx2.size (hown3.base ad h).1), hx2.comp hx3⟩
  ·have hb : ((crc (l.drop 8) : Int) != (rd4 (l.drop 4) : Int)) = true := by simp; omega
   rw [if_neg hq] at Hoo
   clear hq
   go_wp2_with fail
   go_ret2
   rw [Ho.out, Hoo.out]
   exact ⟨none, 0, rfl, Rd.nil _ _, (fun _ h => by cases h), hx2⟩
theorem fone_any (w : World) (a : Option Addr) (c : Nat) (l : List UInt8) (hrd : Rd w a (bs l)) (hl : l.length ≤ 1099511627776) (hlc : l.length ≤ c) :
  Calls Tryz.prog 26 #[.slice a l.length c] w fun e w' => ∃ a' c', e = .returned (.tuple #[.slice a' (one l).1.length c', .int .i64 (one l).2]) ∧ Rd w' a' (bs (one l).1) ∧ Ext no w w' :=
 (fone_new w a c l hrd hl hlc).mono fun _ _ ⟨a', c', h1, h2, _, h4⟩ => ⟨a', c', h1, h2, h4⟩
end Go.Proofs.YtddobhihjljcgaaGreat
/- A statement whose order Go leaves open, walked in one order: what a step learns may be used by all later ones. Of no program. -/
namespace Go.Esc
open Go.RowKit
/-- All orders that a region's edges allow. -/
def allLin (md : Region.Mode) (ops : Array Oper) : Nat → Array Bool → List (List Nat)
 | 0, _ => [[]]
 | n + 1, listed => match Region.ready md ops listed with
  | [] => [[]]
  | i :: rs => (i :: rs).flatMap fun i => (allLin md ops n (listed.setIfInBounds i true)).map (i :: ·)
theorem mem_allLin (md : Region.Mode) (ops : Array Oper) : ∀ (fuel t : Nat) (listed : Array Bool), Region.linearise.go md ops fuel t listed [] ∈ allLin md ops fuel listed := by
 intro fuel
 induction fuel with
 | zero => intro t listed; simp [Region.linearise.go, allLin]
 | succ fuel ih =>
  intro t listed
  simp only [Region.linearise.go, allLin]
  change (match (Region.ready md ops listed)[t % (Region.ready md ops listed).length]? with
   | some i => Region.linearise.go md ops fuel (t / (Region.ready md ops listed).length) (listed.setIfInBounds i true) [i]
   | none => [].reverse) ∈ _
  cases hr : Region.ready md ops listed with
  | nil => simp
  | cons x xs =>
   have hlt : t % (x :: xs).length < (x :: xs).length := Nat.mod_lt _ (by simp)
   rw [List.getElem?_eq_getElem hlt]
   simp only
   rw [linearise_go_acc, List.reverse_singleton, List.singleton_append]
   exact List.mem_flatMap.2 ⟨_, List.getElem_mem hlt, List.mem_map.2 ⟨_, ih _ _, rfl⟩⟩
section
variable {P : Program} {ops : Array Oper} {Q : Exit → Act → World → Prop} {md : Region.Mode}
/-- Does number i stand, by whatever road, ahead of number j? -/
def anc (md : Region.Mode) (ops : Array Oper) : Nat → Nat → Nat → Bool
 | 0, _, _ => false
 | n + 1, i, j => ((ops[j]?).map fun o => o.after.any fun e => Region.binds md e && (e.on == i || anc md ops n i e.on)).getD false
/-- All of dep that have come up stand ahead of number j. -/
def barrier (dep : List Nat) (md : Region.Mode) (ops : Array Oper) (listed : Array Bool) (j : Nat) : Bool := dep.all fun k => !listed.getD k true || anc md ops ops.size k j
/-- What has come up has all come up that it waits for. -/
def Closed (md : Region.Mode) (ops : Array Oper) (listed : Array Bool) : Prop := ∀ k o, ops[k]? = some o → listed.getD k true = true → ∀ e ∈ o.after, Region.binds md e = true → listed.getD e.on false = true
def closedB (md : Region.Mode) (ops : Array Oper) (listed : Array Bool) : Bool := (List.range ops.size).all fun k => !listed.getD k true || ((ops[k]?).map fun o => o.after.all fun e => !Region.binds md e || listed.getD e.on false).getD true
theorem closed_of {listed : Array Bool} (h : closedB md ops listed = true) : Closed md ops listed := by
 intro k o ho hk e he hb
 have hlt : k < ops.size := by
  rcases Nat.lt_or_ge k ops.size with h | h
  ·exact h
  ·rw [Array.getElem?_eq_none h] at ho; cases ho
 simp only [closedB, List.all_eq_true, List.mem_range] at h
 have := h k hlt
 rw [hk, ho] at this
 simp only [Bool.not_true, Bool.false_or, Option.map_some, Option.getD_some, Array.all_eq_true_iff_forall_mem, Bool.or_eq_true, Bool.not_eq_true'] at this
 rcases this e he with h | h
 ·rw [hb] at h; cases h
 ·exact h
theorem anc_listed {listed : Array Bool} (hc : Closed md ops listed) {i : Nat} : ∀ (n j : Nat) (o : Oper), ops[j]? = some o → (∀ e ∈ o.after, Region.binds md e = true → listed.getD e.on false = true) → anc md ops n i j = true → listed.getD i false = true
 | 0, _, _, _, _, h => by cases h
 | n + 1, j, o, ho, hall, h => by
  rw [anc, ho] at h
  simp only [Option.map_some, Option.getD_some, Array.any_eq_true', Bool.and_eq_true, Bool.or_eq_true, beq_iff_eq] at h
  obtain ⟨e, he, hb, h⟩ := h
  rcases h with h | h
  ·exact h ▸ hall e he hb
  ·cases ho2 : ops[e.on]? with
   | none => cases n <;> simp [anc, ho2] at h
   | some o2 =>
    have hl := hall e he hb
    have hl2 : listed.getD e.on true = true := by
     rcases Nat.lt_or_ge e.on listed.size with h' | h'
     ·simp [h'] at hl ⊢; exact hl
     ·simp [Array.getElem?_eq_none h'] at hl
    exact anc_listed hc n e.on o2 ho2 (hc e.on o2 ho2 hl2) h
/-- Whatever order is picked from here on; S holds of every world behind a step; behind a step S may be taken narrower; where all of dep that have come up stand ahead of the step: anew. -/
def wpE (dep : List Nat) (P : Program) (md : Region.Mode) (ops : Array Oper) (Q : Exit → Act → World → Prop) : Nat → (World → Prop) → Array Bool → Act → World → Prop
 | 0, _, listed, a, w => Region.ready md ops listed = [] ∧ Q .normal a w
 | fuel + 1, S, listed, a, w =>
  (Region.ready md ops listed = [] → Q .normal a w) ∧
  ∀ i ∈ Region.ready md ops listed, wpOp P ops Q i (fun a' w' => ∃ S' : World → Prop, (barrier dep md ops listed i = true ∨ ∀ x, S' x → S x) ∧ S' w' ∧ wpE dep P md ops Q fuel S' (listed.setIfInBounds i true) a' w') a w
variable {dep : List Nat}
theorem wpAny_of_E : ∀ (fuel : Nat) (S : World → Prop) (listed : Array Bool) (a : Act) (w : World), wpE dep P md ops Q fuel S listed a w → wpAny P md ops Q fuel listed a w
 | 0, _, _, _, _, h => h
 | fuel + 1, _, _, _, _, h => ⟨h.1, fun i hi => wpOp_mono (fun a' w' h' => by obtain ⟨S', _, _, h''⟩ := h'; exact wpAny_of_E fuel S' _ a' w' h'') (h.2 i hi)⟩
theorem narrow_yields {S S' : World → Prop} {o : Oper} {v : Value} {a : Act} (h : YieldsIf P ops S o v a) (hs : ∀ x, S' x → S x) : YieldsIf P ops S' o v a :=
 h.imp (fun ⟨h1, h2⟩ => ⟨h1, fun w hw => h2 w (hs w hw)⟩) id
theorem Closed.set {listed : Array Bool} (hc : Closed md ops listed) {j : Nat} (hj : j ∈ Region.ready md ops listed) : Closed md ops (listed.setIfInBounds j true) := by
 have up : ∀ k, listed.getD k false = true → (listed.setIfInBounds j true).getD k false = true := by
  intro k hk
  by_cases h : j = k
  ·subst h
   rcases Nat.lt_or_ge j listed.size with h' | h'
   ·simp [h']
   ·simp [Array.getElem?_eq_none h'] at hk
  ·rw [getD_set_ne false h]; exact hk
 intro k o ho hk e he hb
 by_cases h : j = k
 ·subst h
  obtain ⟨_, oj, hoj, hall⟩ := mem_ready.1 hj
  rw [hoj] at ho
  cases ho
  exact up _ (hall e he hb)
 ·rw [getD_set_ne true h] at hk
  exact up _ (hc k o ho hk e he hb)
theorem barrier_less {listed : Array Bool} {i j : Nat} (h : barrier dep md ops (listed.setIfInBounds i true) j = true) : barrier dep md ops listed j = true := by
 simp only [barrier, List.all_eq_true, Bool.or_eq_true, Bool.not_eq_true'] at h ⊢
 intro k hk
 rcases h k hk with h | h
 ·by_cases hik : i = k
  ·subst hik
   rcases Nat.lt_or_ge i listed.size with h' | h'
   ·simp [h'] at h
   ·simp at h
  ·rw [getD_set_ne true hik] at h; exact .inl h
 ·exact .inr h
/-- One that yields whatever the world. -/
theorem wpE_first0 {i : Nat} {oi : Oper} {v : Value} (hi : ops[i]? = some oi) (hsel : ∀ (j : Nat) (o : Oper) cs b, ops[j]? = some o → o.op ≠ .select cs b)
  (hQ : ∀ c a w, Q (.panic c) (a.put oi.dst v) w → Q (.panic c) a w) :
  ∀ (fuel : Nat) (S : World → Prop) (listed : Array Bool) (a : Act) (w : World),
   (∀ j oj, ops[j]? = some oj → j ≠ i → listed.getD j true = false → (∀ e ∈ oj.after, Region.binds md e = true → e.on ≠ i) → oi.apart ops oj = true) →
   i ∈ Region.ready md ops listed → YieldsIf P ops (fun _ => True) oi v a → S w →
   wpE dep P md ops Q fuel S (listed.setIfInBounds i true) (a.put oi.dst v) w → wpE dep P md ops Q (fuel + 1) S listed a w := by
 intro fuel
 induction fuel with
 | zero =>
  intro S listed a w _ hr hy hS H
  refine ⟨fun h => (by rw [h] at hr; cases hr), fun j hj => ?_⟩
  by_cases hji : j = i
  ·subst hji; exact hy.wpOp hi trivial ⟨S, .inr fun _ h => h, hS, H⟩
  ·have := ready_mono hj hji
   rw [H.1] at this
   cases this
 | succ fuel ih =>
  intro S listed a w hfree hr hy hS H
  refine ⟨fun h => (by rw [h] at hr; cases hr), fun j hj => ?_⟩
  by_cases hji : j = i
  ·subst hji; exact hy.wpOp hi trivial ⟨S, .inr fun _ h => h, hS, H⟩
  ·have h1 := H.2 j (ready_mono hj hji)
   obtain ⟨hjun, oj, hoj, hall⟩ := mem_ready.1 hj
   have hnot : ∀ e ∈ oj.after, Region.binds md e = true → e.on ≠ i := fun e he hb heq => by
    have h1 := hall e he hb
    have h0 := (mem_ready.1 hr).1
    rw [heq] at h1
    rcases Nat.lt_or_ge i listed.size with h' | h'
    ·simp [h'] at h0 h1; rw [h0] at h1; cases h1
    ·simp [Array.getElem?_eq_none h'] at h1
   have h2 := wpOp_putIf hoj (hfree j oj hoj hji hjun hnot) (fun cs b => hsel i oi cs b hi) (fun cs b => hsel j oj cs b hoj) hQ hy h1
   have hfree' : ∀ k ok, ops[k]? = some ok → k ≠ i → (listed.setIfInBounds j true).getD k true = false →
     (∀ e ∈ ok.after, Region.binds md e = true → e.on ≠ i) → oi.apart ops ok = true := fun k ok hk hki hun hno => by
    refine hfree k ok hk hki ?_ hno
    by_cases hjk : j = k
    ·subst hjk; exact hjun
    ·rw [getD_set_ne true hjk] at hun; exact hun
   refine wpOp_mono (fun a' w' h3 => ?_) h2
   obtain ⟨hy3, S', hs, hS', h4⟩ := h3
   refine ⟨S', hs.imp barrier_less id, hS', ih S' (listed.setIfInBounds j true) a' w' hfree' (ready_mono hr (Ne.symm hji)) hy3 hS' ?_⟩
   rw [Array.setIfInBounds_comm _ _ hji]
   exact h4
/-- One that yields in every world that meets S. -/
theorem wpE_first {i : Nat} {oi : Oper} {v : Value} (hi : ops[i]? = some oi) (hdep : i ∈ dep) (hsel : ∀ (j : Nat) (o : Oper) cs b, ops[j]? = some o → o.op ≠ .select cs b)
  (hQ : ∀ c a w, Q (.panic c) (a.put oi.dst v) w → Q (.panic c) a w) :
  ∀ (fuel : Nat) (S : World → Prop) (listed : Array Bool) (a : Act) (w : World), Closed md ops listed →
   (∀ j oj, ops[j]? = some oj → j ≠ i → listed.getD j true = false → (∀ e ∈ oj.after, Region.binds md e = true → e.on ≠ i) → oi.apart ops oj = true) →
   i ∈ Region.ready md ops listed → YieldsIf P ops S oi v a → S w →
   wpE dep P md ops Q fuel S (listed.setIfInBounds i true) (a.put oi.dst v) w → wpE dep P md ops Q (fuel + 1) S listed a w := by
 intro fuel
 induction fuel with
 | zero =>
  intro S listed a w _ _ hr hy hS H
  refine ⟨fun h => (by rw [h] at hr; cases hr), fun j hj => ?_⟩
  by_cases hji : j = i
  ·subst hji; exact hy.wpOp hi hS ⟨S, .inr fun _ h => h, hS, H⟩
  ·have := ready_mono hj hji
   rw [H.1] at this
   cases this
 | succ fuel ih =>
  intro S listed a w hcl hfree hr hy hS H
  refine ⟨fun h => (by rw [h] at hr; cases hr), fun j hj => ?_⟩
  by_cases hji : j = i
  ·subst hji; exact hy.wpOp hi hS ⟨S, .inr fun _ h => h, hS, H⟩
  ·have h1 := H.2 j (ready_mono hj hji)
   obtain ⟨hjun, oj, hoj, hall⟩ := mem_ready.1 hj
   have hi0 := (mem_ready.1 hr).1
   have hisz : i < listed.size := by
    rcases Nat.lt_or_ge i listed.size with h' | h'
    ·exact h'
    ·simp [Array.getElem?_eq_none h'] at hi0
   have hif : listed.getD i false = false := by simp [hisz] at hi0 ⊢; exact hi0
   have hnot : ∀ e ∈ oj.after, Region.binds md e = true → e.on ≠ i := fun e he hb heq => by
    have h1 := hall e he hb
    rw [heq, hif] at h1
    cases h1
   have hnb : ¬ barrier dep md ops (listed.setIfInBounds i true) j = true := by
    intro hb
    simp only [barrier, List.all_eq_true, Bool.or_eq_true, Bool.not_eq_true'] at hb
    rcases hb i hdep with h | h
    ·simp [hisz] at h
    ·have := anc_listed hcl _ j oj hoj hall h
     rw [hif] at this
     cases this
   have h2 := wpOp_putIf hoj (hfree j oj hoj hji hjun hnot) (fun cs b => hsel i oi cs b hi) (fun cs b => hsel j oj cs b hoj) hQ hy h1
   have hfree' : ∀ k ok, ops[k]? = some ok → k ≠ i → (listed.setIfInBounds j true).getD k true = false →
     (∀ e ∈ ok.after, Region.binds md e = true → e.on ≠ i) → oi.apart ops ok = true := fun k ok hk hki hun hno => by
    refine hfree k ok hk hki ?_ hno
    by_cases hjk : j = k
    ·subst hjk; exact hjun
    ·rw [getD_set_ne true hjk] at hun; exact hun
   refine wpOp_mono (fun a' w' h3 => ?_) h2
   obtain ⟨hy3, S', hs, hS', h4⟩ := h3
   have hs' := hs.resolve_left hnb
   refine ⟨S', .inr hs', hS', ih S' (listed.setIfInBounds j true) a' w' (hcl.set hj) hfree' (ready_mono hr (Ne.symm hji)) (narrow_yields hy3 hs') hS' ?_⟩
   rw [Array.setIfInBounds_comm _ _ hji]
   exact h4
/-- The n-th of a list, by its text. -/
def opAt : List Oper → Nat → Option Oper
 | [], _ => none
 | o :: _, 0 => some o
 | _ :: l, n + 1 => opAt l n
theorem opAt_eq : ∀ (l : List Oper) (n : Nat), l.toArray[n]? = opAt l n
 | [], n => by simp [opAt]
 | o :: l, 0 => by simp [opAt]
 | o :: l, n + 1 => by have := opAt_eq l n; simp [opAt] at this ⊢; exact this
/-- Take number i first: it yields v whatever the world. -/
theorem wpE_take {l : List Oper} {S : World → Prop} (i : Nat) {oi : Oper} {v : Value} {fuel : Nat} {listed : Array Bool} {a : Act} {w : World} (hi : opAt l i = some oi)
  (hs : Region.noSelect l.toArray = true) (hf : Region.free md l.toArray listed i = true) (hr : (Region.ready md l.toArray listed).contains i = true)
  (hQ : ∀ c a w, Q (.panic c) (a.put oi.dst v) w → Q (.panic c) a w) (hS : S w) (hw : Region.wanted oi (yielded l.toArray a.tmps) = true) (hy : ∀ w, (execOp a.eval oi).run P w = .ok (.value v) w)
  (h : wpE dep P md l.toArray Q fuel S (listed.setIfInBounds i true) (a.put oi.dst v) w) : wpE dep P md l.toArray Q (fuel + 1) S listed a w :=
 wpE_first0 (by rw [opAt_eq]; exact hi) (Region.noSelect_spec hs) hQ fuel S listed a w (Region.free_spec (by rw [opAt_eq]; exact hi) hf) (by simpa using hr) (.inl ⟨hw, fun w _ => hy w⟩) hS h
/-- Take number i first: in every world that meets S it yields v. -/
theorem wpE_look {l : List Oper} {S : World → Prop} (i : Nat) {oi : Oper} {v : Value} {fuel : Nat} {listed : Array Bool} {a : Act} {w : World} (hi : opAt l i = some oi) (hd : dep.contains i = true) (hc : closedB md l.toArray listed = true)
  (hs : Region.noSelect l.toArray = true) (hf : Region.free md l.toArray listed i = true) (hr : (Region.ready md l.toArray listed).contains i = true)
  (hQ : ∀ c a w, Q (.panic c) (a.put oi.dst v) w → Q (.panic c) a w) (hS : S w) (hw : Region.wanted oi (yielded l.toArray a.tmps) = true) (hy : ∀ w, S w → (execOp a.eval oi).run P w = .ok (.value v) w)
  (h : wpE dep P md l.toArray Q fuel S (listed.setIfInBounds i true) (a.put oi.dst v) w) : wpE dep P md l.toArray Q (fuel + 1) S listed a w :=
 wpE_first (by rw [opAt_eq]; exact hi) (by simpa using hd) (Region.noSelect_spec hs) hQ fuel S listed a w (closed_of hc) (Region.free_spec (by rw [opAt_eq]; exact hi) hf) (by simpa using hr) (.inl ⟨hw, hy⟩) hS h
/-- Take number i first: its guard says no. -/
theorem wpE_skip {l : List Oper} {S : World → Prop} (i : Nat) {oi : Oper} {fuel : Nat} {listed : Array Bool} {a : Act} {w : World} (hi : opAt l i = some oi)
  (hs : Region.noSelect l.toArray = true) (hf : Region.free md l.toArray listed i = true) (hr : (Region.ready md l.toArray listed).contains i = true)
  (hQ : ∀ c a w, Q (.panic c) (a.put oi.dst undef) w → Q (.panic c) a w) (hS : S w) (hw : Region.wanted oi (yielded l.toArray a.tmps) = false)
  (h : wpE dep P md l.toArray Q fuel S (listed.setIfInBounds i true) (a.put oi.dst undef) w) : wpE dep P md l.toArray Q (fuel + 1) S listed a w :=
 wpE_first0 (by rw [opAt_eq]; exact hi) (Region.noSelect_spec hs) hQ fuel S listed a w (Region.free_spec (by rw [opAt_eq]; exact hi) hf) (by simpa using hr) (.inr ⟨hw, rfl⟩) hS h
/-- Number i alone may come up: carry it out; behind it S may be narrower. -/
theorem wpE_exec {l : List Oper} {S : World → Prop} (i : Nat) {oi : Oper} {fuel : Nat} {listed : Array Bool} {a : Act} {w : World} (hi : opAt l i = some oi) (hr : Region.ready md l.toArray listed = [i])
  (hw : Region.wanted oi (yielded l.toArray a.tmps) = true)
  (h : ∀ K : Act → World → Prop, (∀ a' w' (S' : World → Prop), (barrier dep md l.toArray listed i = true ∨ ∀ x, S' x → S x) → S' w' → wpE dep P md l.toArray Q fuel S' (listed.setIfInBounds i true) a' w' → K a' w') → oi.wp P a w K Q) : wpE dep P md l.toArray Q (fuel + 1) S listed a w := by
 refine ⟨fun h0 => (by rw [h0] at hr; cases hr), fun j hj => ?_⟩
 rw [hr] at hj
 obtain rfl : j = i := by simpa using hj
 unfold wpOp
 simp only [opAt_eq, hi, hw, if_true]
 exact .inl (h _ fun a' w' S' h1 h2 h3 => ⟨S', h1, h2, h3⟩)
theorem wpE_done {S : World → Prop} {listed : Array Bool} {a : Act} {w : World} (hr : Region.ready md ops listed = []) (h : Q .normal a w) : ∀ fuel, wpE dep P md ops Q fuel S listed a w
 | 0 => ⟨hr, h⟩
 | _ + 1 => ⟨fun _ => h, by rw [hr]; simp⟩
/-- What 'string(b)' yields. -/
theorem yields_string {src dst e : TypeId} (hs : P.underlying src = some (.slice e)) (he : P.underlying e = some (.int .u8)) (hd : P.underlying dst = some .string) {o : Oper} {a : Act} {x : Operand} (hop : o.op = .convert src dst x)
  {v : Option Addr} {n c : Nat} (hx : a.eval x = .slice v n c) {l : List UInt8} (hn : n = l.length) {w : World} (hr : Rd w v (bs l)) : (execOp a.eval o).run P w = .ok (.value (.string (str l))) w := by
 subst hn
 unfold execOp
 simp only [hop, hx, Sem.run_bind, run_string_of (P := P) (c := c) hs he hd hr, Result.andThen_ok, Sem.run_pure]
/-- The operations of these numbers, in this order. -/
def picked (l : List Oper) : List Nat → List Oper
 | [] => []
 | j :: js => match opAt l j with
  | some o => o :: picked l js
  | none => picked l js
theorem wpOps_picked (l : List Oper) : ∀ (js : List Nat) (a : Act) (w : World), wpList P l.toArray Q (picked l js) a w → wpOps P l.toArray Q js a w := by
 intro js
 induction js with
 | nil => intro a w h; exact h
 | cons j js ih =>
  intro a w h
  simp only [picked] at h
  simp only [wpOps, opAt_eq]
  cases ho : opAt l j with
  | none => rw [ho] at h; exact ih a w h
  | some o =>
   rw [ho] at h
   simp only [wpList] at h
   simp only
   split
   ·rename_i hw
    rw [if_pos hw] at h
    exact h.imp (Oper.wp_mono (fun a w h => ih a w h)) id
   ·rename_i hw
    rw [if_neg hw] at h
    exact ih _ _ h
/-- A small region: each of its orders by itself. -/
theorem wp_region_lin {l : List Oper} {id : Nat} {a : Act} {w : World} (hm : P.follows .mixedOrders = true) (ls : List (List Nat)) (hl : allLin .any l.toArray l.length (List.replicate l.length false).toArray = ls)
  (h : ∀ js ∈ ls, wpList P l.toArray Q (picked l js) a w.drew) : (Code.region id l.toArray true).wp P Q a w :=
 wp_region_draw fun t => by
  have hmem : Region.schedule (P.follows .mixedOrders) l.toArray t ∈ ls := by
   rw [← hl]
   simp only [Region.schedule, hm, Bool.true_or, if_true]
   have := mem_allLin .any l.toArray l.toArray.size t (Array.replicate l.toArray.size false)
   simpa [Region.linearise] using this
  exact wpOps_picked l _ a _ (h _ hmem)
/-- The beginning. -/
theorem wp_region_E (dep : List Nat) (S : World → Prop) {l : List Oper} {id : Nat} {a : Act} {w : World} (hm : P.follows .mixedOrders = true)
  (h : wpE dep P .any l.toArray Q l.length S (List.replicate l.length false).toArray a w.drew) : (Code.region id l.toArray true).wp P Q a w :=
 wp_region_any hm (by
  have := wpAny_of_E _ _ _ _ _ h
  simpa using this)
end
end Go.Esc
/- What a cut slice yields, in a region that draws its order: of no program. -/
namespace Go.Esc
open Go.RowKit
variable {P : Program} {a : Act} {w : World}
theorem yields_cut_lh {t e : TypeId} {z : Value} {k by' : Nat} (T : SlT P t e z k by') {o : Oper} {x lo hi : Operand} (hop : o.op = .slice t x (some lo) (some hi) none) {sa : Option Addr} {n c : Nat} (hx : a.eval x = .slice sa n c) {kl kh : IntKind} {l' h' : Int}
  (hl : a.eval lo = .int kl l') (hh : a.eval hi = .int kh h') (l h : Nat) (el : l' = l) (eh : h' = h) (h1 : l ≤ h) (h2 : h ≤ c) : (execOp a.eval o).run P w = .ok (.value (.slice (cutAt sa c l k) (h - l) (c - l))) w := by
 subst el
 subst eh
 unfold execOp
 simp only [hop, hx, hl, hh, Option.map_some, Option.map_none, Sem.run_bind, run_cut_lh T w sa n c kl kh l h h1 h2, Result.andThen_ok, Sem.run_pure]
/-- append, as an operation of a region. -/
theorem op_append {K : Act → World → Prop} {Q : Exit → Act → World → Prop} {o : Oper} {t e : TypeId} {z : Value} {k by' : Nat} (T : SlT P t e z k by')
  {s x : Operand} (hop : o.op = .call { callee := .builtin .append, args := #[s, x], argTypes := #[t, t] })
  {B n c : Nat} {sa : Option Addr} {xs : List Value} (hs : a.eval s = .slice sa n c) (ho : Own w B sa k n c xs)
  {xa : Option Addr} {m cx : Nat} {ys : List Value} (hx : a.eval x = .slice xa m cx) (hr : Rd w xa ys) (hl : ys.length = m * k) (h1 : ∀ u ∈ ys, u.oneCell' = true)
  (h63 : n + m ≤ maxLen) (hby : (n + m) * by' ≤ 140737488355328) (hB : B ≤ w.heap.size)
  (h : ∀ sa' c' w', App w w' B k sa n c xs sa' c' m ys → K (a.put o.dst (.slice sa' (n + m) c')) w') : o.wp P a w K Q := by
 obtain ⟨sa', c', w', hrun, h2⟩ := run_append (P := P) (ty := o.type) T ho (cx := cx) hr hl h1 h63 hby hB
 unfold Oper.wp execOp
 simp only [hop, resolve, invoke, builtin, Sem.run_bind, Sem.run_pure, Result.andThen_ok, List.map_toArray, List.map_cons, List.map_nil, hs, hx, hrun]
 exact h _ _ _ h2
end Go.Esc
/- A statement whose order Go leaves open, walked in one order: each load has a condition of its own; a call that leaves the world as it is may be taken first. Of no program. -/
namespace Go.Esc
open Go.RowKit
section
variable {P : Program} {ops : Array Oper} {Q : Exit → Act → World → Prop} {md : Region.Mode}
/-- Leaves v, at once or by a call, and the world as it is. -/
def YieldsG (P : Program) (ops : Array Oper) (S : World → Prop) (o : Oper) (v : Value) (a : Act) : Prop :=
 (Region.wanted o (yielded ops a.tmps) = true ∧ ∀ w, S w → (execOp a.eval o).run P w = .ok (.value v) w ∨ ∃ f args, (execOp a.eval o).run P w = .ok (.enter f args) w ∧ Calls P f args w (fun e w' => e = .returned v ∧ w = w')) ∨
 (Region.wanted o (yielded ops a.tmps) = false ∧ v = undef)
theorem YieldsG.narrow {S S' : World → Prop} {o : Oper} {v : Value} {a : Act} (h : YieldsG P ops S o v a) (hs : ∀ x, S' x → S x) : YieldsG P ops S' o v a :=
 h.imp (fun ⟨h1, h2⟩ => ⟨h1, fun w hw => h2 w (hs w hw)⟩) id
theorem YieldsG.same {S : World → Prop} {o : Oper} {v : Value} {a a' : Act} (h : YieldsG P ops S o v a) (he : execOp a'.eval o = execOp a.eval o) (hw : Region.wanted o (yielded ops a'.tmps) = Region.wanted o (yielded ops a.tmps)) : YieldsG P ops S o v a' := by
 unfold YieldsG at *
 rw [he, hw]; exact h
theorem YieldsG.go {S : World → Prop} {i : Nat} {o : Oper} {v : Value} {a : Act} (hi : ops[i]? = some o) (h : YieldsG P ops S o v a) {K : Act → World → Prop} {w : World} (hS : S w) (hk : K (a.put o.dst v) w) : wpOp P ops Q i K a w := by
 unfold wpOp
 rw [hi]
 rcases h with ⟨hw, hv⟩ | ⟨hw, rfl⟩
 ·simp only [hw, if_true]
  refine .inl ?_
  unfold Oper.wp
  rcases hv w hS with h1 | ⟨f, args, h1, h2⟩
  ·rw [h1]; exact hk
  ·rw [h1]
   refine Calls.mono h2 fun e w' he => ?_
   obtain ⟨rfl, rfl⟩ := he
   exact hk
 ·simp only [hw, Bool.false_eq_true, if_false]; exact hk
/-- What is apart from it does not mind. -/
theorem wpOp_aside {S : World → Prop} {j : Nat} {oi oj : Oper} {v : Value} (hj : ops[j]? = some oj) (hap : oi.apart ops oj = true) (hsi : ∀ cs b, oi.op ≠ .select cs b) (hsj : ∀ cs b, oj.op ≠ .select cs b)
  (hQ : ∀ c a w, Q (.panic c) (a.put oi.dst v) w → Q (.panic c) a w) {K : Act → World → Prop} {a : Act} {w : World} (hy : YieldsG P ops S oi v a) (h : wpOp P ops Q j K (a.put oi.dst v) w) :
  wpOp P ops Q j (fun a' w' => YieldsG P ops S oi v a' ∧ K (a'.put oi.dst v) w') a w := by
 obtain ⟨h1, h2, h3⟩ := Oper.apart_spec hap
 have stay : ∀ u, YieldsG P ops S oi v (a.put oj.dst u) := fun u => hy.same (execOp_put oi hsi a oj.dst u h3) (wanted_put oi a oj.dst u h3)
 have stayD : ∀ d u, YieldsG P ops S oi v (({ a with defers := d :: a.defers } : Act).put oj.dst u) := fun d u =>
  (YieldsG.same (a' := { a with defers := d :: a.defers }) hy rfl rfl).same (execOp_put oi hsi _ oj.dst u h3) (wanted_put oi _ oj.dst u h3)
 unfold wpOp at *
 simp only [hj] at *
 rw [wanted_put oj a oi.dst v h1] at h
 by_cases hw : Region.wanted oj (yielded ops a.tmps) = true
 ·rw [if_pos hw] at h ⊢
  rcases h with h | ⟨hk, hl⟩
  ·refine .inl ?_
   unfold Oper.wp at *
   rw [execOp_put oj hsj a oi.dst v h1] at h
   cases hr : (execOp a.eval oj).run P w with
   | ok n w' =>
    rw [hr] at h
    cases n <;> simp only [Oper.upon] at h ⊢
    case value u => exact ⟨stay u, by rw [← Act.put_comm a v u h2]; exact h⟩
    case skip => exact ⟨stay _, by rw [← Act.put_comm a v undef h2]; exact h⟩
    case defer d => exact ⟨stayD d _, by rw [← Act.put_comm _ v undef h2, ← Act.put_defers]; exact h⟩
    case enter f args =>
     refine Calls.mono h fun e w'' he => ?_
     cases e with
     | returned u => exact ⟨stay u, by rw [← Act.put_comm a v u h2]; exact he⟩
     | panicked c => exact hQ _ _ _ he
     | outgrown => exact he
    case row row args => exact Rows.mono h fun u w'' he => ⟨stay u, by rw [← Act.put_comm a v u h2]; exact he⟩
   | halt x w' =>
    rw [hr] at h
    cases x <;> simp only [Oper.upon] at h ⊢
    case panic u => exact hQ _ _ _ h
  ·exact .inr ⟨by unfold Oper.asks at *; rw [execOp_put oj hsj a oi.dst v h1] at hk; exact hk, hl⟩
 ·rw [if_neg hw] at h ⊢
  exact ⟨stay _, by rw [← Act.put_comm a v undef h2]; exact h⟩
/-- Of each load that has come up: it stands ahead of number j, or its condition is kept. -/
def Steps (md : Region.Mode) (ops : Array Oper) (listed : Array Bool) (j : Nat) (S S' : Nat → World → Prop) : List Nat → Prop
 | [] => True
 | k :: ks => (listed.getD k true = false ∨ anc md ops ops.size k j = true ∨ ∀ x, S' k x → S k x) ∧ Steps md ops listed j S S' ks
theorem Steps.of {listed : Array Bool} {j : Nat} {S S' : Nat → World → Prop} : ∀ {dep : List Nat}, Steps md ops listed j S S' dep → ∀ k ∈ dep, listed.getD k true = false ∨ anc md ops ops.size k j = true ∨ ∀ x, S' k x → S k x
 | k :: ks, h, i, hi => by
  rcases List.mem_cons.1 hi with rfl | hi
  ·exact h.1
  ·exact Steps.of h.2 i hi
theorem Steps.mk {listed : Array Bool} {j : Nat} {S S' : Nat → World → Prop} : ∀ {dep : List Nat}, (∀ k ∈ dep, listed.getD k true = false ∨ anc md ops ops.size k j = true ∨ ∀ x, S' k x → S k x) → Steps md ops listed j S S' dep
 | [], _ => trivial
 | k :: ks, h => ⟨h k (by simp), Steps.mk (fun i hi => h i (by simp [hi]))⟩
theorem Steps.refl {listed : Array Bool} {j : Nat} {S : Nat → World → Prop} {dep : List Nat} : Steps md ops listed j S S dep := Steps.mk fun _ _ => .inr (.inr fun _ h => h)
def wpF (dep : List Nat) (P : Program) (md : Region.Mode) (ops : Array Oper) (Q : Exit → Act → World → Prop) : Nat → (Nat → World → Prop) → Array Bool → Act → World → Prop
 | 0, _, listed, a, w => Region.ready md ops listed = [] ∧ Q .normal a w
 | fuel + 1, S, listed, a, w =>
  (Region.ready md ops listed = [] → Q .normal a w) ∧
  ∀ i ∈ Region.ready md ops listed, wpOp P ops Q i (fun a' w' => ∃ S' : Nat → World → Prop, Steps md ops listed i S S' dep ∧ (∀ k, S' k w') ∧ wpF dep P md ops Q fuel S' (listed.setIfInBounds i true) a' w') a w
variable {dep : List Nat}
theorem wpAny_of_F : ∀ (fuel : Nat) (S : Nat → World → Prop) (listed : Array Bool) (a : Act) (w : World), wpF dep P md ops Q fuel S listed a w → wpAny P md ops Q fuel listed a w
 | 0, _, _, _, _, h => h
 | fuel + 1, _, _, _, _, h => ⟨h.1, fun i hi => wpOp_mono (fun a' w' h' => by obtain ⟨S', _, _, h''⟩ := h'; exact wpAny_of_F fuel S' _ a' w' h'') (h.2 i hi)⟩
theorem wpF_first {i : Nat} {oi : Oper} {v : Value} (hi : ops[i]? = some oi) (hsel : ∀ (j : Nat) (o : Oper) cs b, ops[j]? = some o → o.op ≠ .select cs b)
  (hQ : ∀ c a w, Q (.panic c) (a.put oi.dst v) w → Q (.panic c) a w) :
  ∀ (fuel : Nat) (S : Nat → World → Prop) (T : World → Prop) (listed : Array Bool) (a : Act) (w : World), ((∀ x, T x) ∨ (i ∈ dep ∧ Closed md ops listed ∧ T = S i)) →
   (∀ j oj, ops[j]? = some oj → j ≠ i → listed.getD j true = false → (∀ e ∈ oj.after, Region.binds md e = true → e.on ≠ i) → oi.apart ops oj = true) →
   i ∈ Region.ready md ops listed → YieldsG P ops T oi v a → (∀ k, S k w) →
   wpF dep P md ops Q fuel S (listed.setIfInBounds i true) (a.put oi.dst v) w → wpF dep P md ops Q (fuel + 1) S listed a w := by
 intro fuel
 induction fuel with
 | zero =>
  intro S T listed a w hT hfree hr hy hS H
  have hTw : T w := hT.elim (fun h => h w) (fun h => h.2.2 ▸ hS i)
  refine ⟨fun h => (by rw [h] at hr; cases hr), fun j hj => ?_⟩
  by_cases hji : j = i
  ·subst hji; exact hy.go hi hTw ⟨S, Steps.refl, hS, H⟩
  ·have := ready_mono hj hji
   rw [H.1] at this
   cases this
 | succ fuel ih =>
  intro S T listed a w hT hfree hr hy hS H
  have hTw : T w := hT.elim (fun h => h w) (fun h => h.2.2 ▸ hS i)
  refine ⟨fun h => (by rw [h] at hr; cases hr), fun j hj => ?_⟩
  by_cases hji : j = i
  ·subst hji; exact hy.go hi hTw ⟨S, Steps.refl, hS, H⟩
  ·have h1 := H.2 j (ready_mono hj hji)
   obtain ⟨hjun, oj, hoj, hall⟩ := mem_ready.1 hj
   have hi0 := (mem_ready.1 hr).1
   have hisz : i < listed.size := by
    rcases Nat.lt_or_ge i listed.size with h' | h'
    ·exact h'
    ·simp [Array.getElem?_eq_none h'] at hi0
   have hif : listed.getD i false = false := by simp [hisz] at hi0 ⊢; exact hi0
   have hnot : ∀ e ∈ oj.after, Region.binds md e = true → e.on ≠ i := fun e he hb heq => by
    have h1 := hall e he hb
    rw [heq, hif] at h1
    cases h1
   have h2 := wpOp_aside hoj (hfree j oj hoj hji hjun hnot) (fun cs b => hsel i oi cs b hi) (fun cs b => hsel j oj cs b hoj) hQ hy h1
   have hfree' : ∀ k ok, ops[k]? = some ok → k ≠ i → (listed.setIfInBounds j true).getD k true = false →
     (∀ e ∈ ok.after, Region.binds md e = true → e.on ≠ i) → oi.apart ops ok = true := fun k ok hk hki hun hno => by
    refine hfree k ok hk hki ?_ hno
    by_cases hjk : j = k
    ·subst hjk; exact hjun
    ·rw [getD_set_ne true hjk] at hun; exact hun
   refine wpOp_mono (fun a' w' h3 => ?_) h2
   obtain ⟨hy3, S', hs, hS', h4⟩ := h3
   have hs0 : Steps md ops listed j S S' dep := Steps.mk fun k hk => by
    rcases hs.of k hk with h | h
    ·by_cases hik : i = k
     ·subst hik; simp [hisz] at h
     ·rw [getD_set_ne true hik] at h; exact .inl h
    ·exact .inr h
   have h5 : wpF dep P md ops Q fuel S' ((listed.setIfInBounds j true).setIfInBounds i true) (a'.put oi.dst v) w' := by
    rw [Array.setIfInBounds_comm _ _ hji]; exact h4
   rcases hT with hT | ⟨hd, hcl, rfl⟩
   ·exact ⟨S', hs0, hS', ih S' T (listed.setIfInBounds j true) a' w' (.inl hT) hfree' (ready_mono hr (Ne.symm hji)) hy3 hS' h5⟩
   ·have hkeep : ∀ x, S' i x → S i x := by
     rcases hs.of i hd with h | h | h
     ·simp [hisz] at h
     ·have := anc_listed hcl _ j oj hoj hall h
      rw [hif] at this; cases this
     ·exact h
    exact ⟨S', hs0, hS', ih S' (S' i) (listed.setIfInBounds j true) a' w' (.inr ⟨hd, hcl.set hj, rfl⟩) hfree' (ready_mono hr (Ne.symm hji)) (hy3.narrow hkeep) hS' h5⟩
/-- Take number i first: it yields v whatever the world. -/
theorem wpF_take {l : List Oper} {S : Nat → World → Prop} (i : Nat) {oi : Oper} {v : Value} {fuel : Nat} {listed : Array Bool} {a : Act} {w : World} (hi : opAt l i = some oi)
  (hs : Region.noSelect l.toArray = true) (hf : Region.free md l.toArray listed i = true) (hr : (Region.ready md l.toArray listed).contains i = true)
  (hQ : ∀ c a w, Q (.panic c) (a.put oi.dst v) w → Q (.panic c) a w) (hS : ∀ k, S k w) (hw : Region.wanted oi (yielded l.toArray a.tmps) = true) (hy : ∀ w, (execOp a.eval oi).run P w = .ok (.value v) w)
  (h : wpF dep P md l.toArray Q fuel S (listed.setIfInBounds i true) (a.put oi.dst v) w) : wpF dep P md l.toArray Q (fuel + 1) S listed a w :=
 wpF_first (by rw [opAt_eq]; exact hi) (Region.noSelect_spec hs) hQ fuel S (fun _ => True) listed a w (.inl fun _ => trivial) (Region.free_spec (by rw [opAt_eq]; exact hi) hf) (by simpa using hr) (.inl ⟨hw, fun w _ => .inl (hy w)⟩) hS h
/-- Take number i first: a call that yields v whatever the world. -/
theorem wpF_call {l : List Oper} {S : Nat → World → Prop} (i : Nat) {oi : Oper} {v : Value} (f : FuncId) (args : Array Value) {fuel : Nat} {listed : Array Bool} {a : Act} {w : World} (hi : opAt l i = some oi)
  (hs : Region.noSelect l.toArray = true) (hf : Region.free md l.toArray listed i = true) (hr : (Region.ready md l.toArray listed).contains i = true)
  (hQ : ∀ c a w, Q (.panic c) (a.put oi.dst v) w → Q (.panic c) a w) (hS : ∀ k, S k w) (hw : Region.wanted oi (yielded l.toArray a.tmps) = true)
  (hy : ∀ w, (execOp a.eval oi).run P w = .ok (.enter f args) w) (hc : ∀ w, Calls P f args w (fun e w' => e = .returned v ∧ w = w'))
  (h : wpF dep P md l.toArray Q fuel S (listed.setIfInBounds i true) (a.put oi.dst v) w) : wpF dep P md l.toArray Q (fuel + 1) S listed a w :=
 wpF_first (by rw [opAt_eq]; exact hi) (Region.noSelect_spec hs) hQ fuel S (fun _ => True) listed a w (.inl fun _ => trivial) (Region.free_spec (by rw [opAt_eq]; exact hi) hf) (by simpa using hr) (.inl ⟨hw, fun w _ => .inr ⟨f, args, hy w, hc w⟩⟩) hS h
/-- Take number i first: in every world that meets its condition it yields v. -/
theorem wpF_look {l : List Oper} {S : Nat → World → Prop} (i : Nat) {oi : Oper} {v : Value} {fuel : Nat} {listed : Array Bool} {a : Act} {w : World} (hi : opAt l i = some oi) (hd : dep.contains i = true) (hc : closedB md l.toArray listed = true)
  (hs : Region.noSelect l.toArray = true) (hf : Region.free md l.toArray listed i = true) (hr : (Region.ready md l.toArray listed).contains i = true)
  (hQ : ∀ c a w, Q (.panic c) (a.put oi.dst v) w → Q (.panic c) a w) (hS : ∀ k, S k w) (hw : Region.wanted oi (yielded l.toArray a.tmps) = true) (hy : ∀ w, S i w → (execOp a.eval oi).run P w = .ok (.value v) w)
  (h : wpF dep P md l.toArray Q fuel S (listed.setIfInBounds i true) (a.put oi.dst v) w) : wpF dep P md l.toArray Q (fuel + 1) S listed a w :=
 wpF_first (by rw [opAt_eq]; exact hi) (Region.noSelect_spec hs) hQ fuel S (S i) listed a w (.inr ⟨by simpa using hd, closed_of hc, rfl⟩) (Region.free_spec (by rw [opAt_eq]; exact hi) hf) (by simpa using hr) (.inl ⟨hw, fun w hw' => .inl (hy w hw')⟩) hS h
/-- Take number i first: its guard says no. -/
theorem wpF_skip {l : List Oper} {S : Nat → World → Prop} (i : Nat) {oi : Oper} {fuel : Nat} {listed : Array Bool} {a : Act} {w : World} (hi : opAt l i = some oi)
  (hs : Region.noSelect l.toArray = true) (hf : Region.free md l.toArray listed i = true) (hr : (Region.ready md l.toArray listed).contains i = true)
  (hQ : ∀ c a w, Q (.panic c) (a.put oi.dst undef) w → Q (.panic c) a w) (hS : ∀ k, S k w) (hw : Region.wanted oi (yielded l.toArray a.tmps) = false)
  (h : wpF dep P md l.toArray Q fuel S (listed.setIfInBounds i true) (a.put oi.dst undef) w) : wpF dep P md l.toArray Q (fuel + 1) S listed a w :=
 wpF_first (by rw [opAt_eq]; exact hi) (Region.noSelect_spec hs) hQ fuel S (fun _ => True) listed a w (.inl fun _ => trivial) (Region.free_spec (by rw [opAt_eq]; exact hi) hf) (by simpa using hr) (.inr ⟨hw, rfl⟩) hS h
/-- These may come up. -/
theorem wpF_execs {l : List Oper} {S : Nat → World → Prop} (js : List Nat) {fuel : Nat} {listed : Array Bool} {a : Act} {w : World} (hr : Region.ready md l.toArray listed = js) (hne : js ≠ [])
  (h : ∀ j ∈ js, ∃ oj, opAt l j = some oj ∧ Region.wanted oj (yielded l.toArray a.tmps) = true ∧
   ∀ K : Act → World → Prop, (∀ a' w' (S' : Nat → World → Prop), Steps md l.toArray listed j S S' dep → (∀ k, S' k w') → wpF dep P md l.toArray Q fuel S' (listed.setIfInBounds j true) a' w' → K a' w') → oj.wp P a w K Q) : wpF dep P md l.toArray Q (fuel + 1) S listed a w := by
 refine ⟨fun h0 => absurd (hr.symm.trans h0) hne, fun j hj => ?_⟩
 rw [hr] at hj
 obtain ⟨oj, h1, h2, h3⟩ := h j hj
 unfold wpOp
 simp only [opAt_eq, h1, h2, if_true]
 exact .inl (h3 _ fun a' w' S' hs hS' hw => ⟨S', hs, hS', hw⟩)
theorem wpF_exec {l : List Oper} {S : Nat → World → Prop} (i : Nat) {oi : Oper} {fuel : Nat} {listed : Array Bool} {a : Act} {w : World} (hi : opAt l i = some oi) (hr : Region.ready md l.toArray listed = [i])
  (hw : Region.wanted oi (yielded l.toArray a.tmps) = true)
  (h : ∀ K : Act → World → Prop, (∀ a' w' (S' : Nat → World → Prop), Steps md l.toArray listed i S S' dep → (∀ k, S' k w') → wpF dep P md l.toArray Q fuel S' (listed.setIfInBounds i true) a' w' → K a' w') → oi.wp P a w K Q) : wpF dep P md l.toArray Q (fuel + 1) S listed a w :=
 wpF_execs [i] hr (by simp) (fun j hj => by simp at hj; subst hj; exact ⟨oi, hi, hw, h⟩)
theorem wpF_done {S : Nat → World → Prop} {listed : Array Bool} {a : Act} {w : World} (hr : Region.ready md ops listed = []) (h : Q .normal a w) : ∀ fuel, wpF dep P md ops Q fuel S listed a w
 | 0 => ⟨hr, h⟩
 | _ + 1 => ⟨fun _ => h, by rw [hr]; simp⟩
/-- Conditions by number. -/
def looks : List (Nat × (World → Prop)) → Nat → World → Prop
 | [], _, _ => True
 | (k, T) :: L, n, x => cond (Nat.beq n k) (T x) (looks L n x)
def allLooks : List (Nat × (World → Prop)) → World → Prop
 | [], _ => True
 | (_, T) :: L, x => T x ∧ allLooks L x
theorem looks_all : ∀ {L : List (Nat × (World → Prop))} {x : World}, allLooks L x → ∀ n, looks L n x
 | [], _, _, _ => trivial
 | (k, T) :: L, x, h, n => by
  unfold looks
  cases Nat.beq n k
  ·exact looks_all h.2 n
  ·exact h.1
/-- The beginning. -/
theorem wp_region_F (dep : List Nat) (S : Nat → World → Prop) {l : List Oper} {id : Nat} {a : Act} {w : World} (hm : P.follows .mixedOrders = true)
  (h : wpF dep P .any l.toArray Q l.length S (List.replicate l.length false).toArray a w.drew) : (Code.region id l.toArray true).wp P Q a w :=
 wp_region_any hm (by
  have := wpAny_of_F _ _ _ _ _ h
  simpa using this)
end
end Go.Esc
/- Two laws of RegionF with less to say. -/
namespace Go.Esc
open Go.RowKit
section
variable {P : Program} {ops : Array Oper} {Q : Exit → Act → World → Prop} {md : Region.Mode} {dep : List Nat}
theorem wpF_tk {l : List Oper} {S : Nat → World → Prop} (i : Nat) {oi : Oper} {v : Value} {fuel : Nat} {listed : Array Bool} {a : Act} {w : World} (hi : opAt l i = some oi) (hS : ∀ k, S k w)
  (hw : Region.wanted oi (yielded l.toArray a.tmps) = true) (hy : ∀ w, (execOp a.eval oi).run P w = .ok (.value v) w)
  (h : wpF dep P md l.toArray Q fuel S (listed.setIfInBounds i true) (a.put oi.dst v) w)
  (hb : (Region.noSelect l.toArray && Region.free md l.toArray listed i && (Region.ready md l.toArray listed).contains i) = true := by kernel_rfl)
  (hQ : ∀ c a w, Q (.panic c) (a.put oi.dst v) w → Q (.panic c) a w := by exact fun _ _ _ h => h) : wpF dep P md l.toArray Q (fuel + 1) S listed a w := by
 simp only [Bool.and_eq_true] at hb
 exact wpF_take i hi hb.1.1 hb.1.2 hb.2 hQ hS hw hy h
theorem wpF_lk {l : List Oper} {S : Nat → World → Prop} (i : Nat) {oi : Oper} {v : Value} {fuel : Nat} {listed : Array Bool} {a : Act} {w : World} (hi : opAt l i = some oi) (hS : ∀ k, S k w)
  (hw : Region.wanted oi (yielded l.toArray a.tmps) = true) (hy : ∀ w, S i w → (execOp a.eval oi).run P w = .ok (.value v) w)
  (h : wpF dep P md l.toArray Q fuel S (listed.setIfInBounds i true) (a.put oi.dst v) w)
  (hd : dep.contains i = true := by rfl)
  (hb : (closedB md l.toArray listed && Region.noSelect l.toArray && Region.free md l.toArray listed i && (Region.ready md l.toArray listed).contains i) = true := by kernel_rfl)
  (hQ : ∀ c a w, Q (.panic c) (a.put oi.dst v) w → Q (.panic c) a w := by exact fun _ _ _ h => h) : wpF dep P md l.toArray Q (fuel + 1) S listed a w := by
 simp only [Bool.and_eq_true] at hb
 exact wpF_look i hi hd hb.1.1.1 hb.1.1.2 hb.1.2 hb.2 hQ hS hw hy h
end
end Go.Esc
/- Walks of the package code: row, turned, Int, Text, Ints. -/
namespace Go.Proofs.YtddobhihjljcgaaGreat
open Go.RowKit Go.Esc
theorem TInts : SlT Tryz.prog 30 3 (.int .i64 0) 1 8 := ⟨Tryz.underlying30, by kernel_rfl, rfl, by decide⟩
/-- What the list reads after k swaps of a reversal. -/
def Swapped (xs ys : List Value) (k : Nat) : Prop := ys.length = xs.length ∧ ∀ t, t < xs.length → ys[t]? = if t < k ∨ xs.length ≤ t + k then xs[xs.length - 1 - t]? else xs[t]?
theorem Swapped.start (xs : List Value) : Swapped xs xs 0 := ⟨rfl, fun t ht => by rw [if_neg (by omega)]⟩
theorem Swapped.step {xs ys : List Value} {k : Nat} (h : Swapped xs ys k) (hk : k + k + 1 < xs.length) (u v : Value) (hu : ys[k]? = some u) (hv : ys[xs.length - 1 - k]? = some v) :
  Swapped xs ((ys.set k v).set (xs.length - 1 - k) u) (k + 1) := by
 obtain ⟨h1, h2⟩ := h
 refine ⟨by simp [h1], fun t ht => ?_⟩
 have a := h2 k (by omega)
 have b := h2 (xs.length - 1 - k) (by omega)
 rw [if_neg (by omega)] at a
 rw [if_neg (by omega)] at b
 by_cases e1 : t = xs.length - 1 - k
 ·subst e1
  rw [List.getElem?_set_self (by simp [h1]; omega), if_pos (by omega), ← hu, a]
  congr 1; omega
 ·rw [List.getElem?_set_ne (Ne.symm e1)]
  by_cases e2 : t = k
  ·subst e2
   rw [List.getElem?_set_self (by omega), if_pos (by omega), ← hv, b]
  ·rw [List.getElem?_set_ne (Ne.symm e2), h2 t ht]
   by_cases c : t < k ∨ xs.length ≤ t + k
   ·rw [if_pos c, if_pos (by omega)]
   ·rw [if_neg c, if_neg (by omega)]
theorem Swapped.stop {xs ys : List Value} {k : Nat} (h : Swapped xs ys k) (hk : xs.length ≤ k + k + 1) : ys = xs.reverse := by
 apply List.ext_getElem?
 intro t
 by_cases ht : t < xs.length
 ·rw [h.2 t ht, List.getElem?_reverse ht]
  by_cases c : t < k ∨ xs.length ≤ t + k
  ·rw [if_pos c]
  ·rw [if_neg c]; congr 1; omega
 ·rw [List.getElem?_eq_none (by have := h.1; omega), List.getElem?_eq_none (by simp; omega)]
set_option maxHeartbeats 400000 in
theorem reverse_any (w : World) {B n c : Nat} {a : Option Addr} {xs : List Value} (ho : Own w B a 1 n c xs) (hone : ∀ u ∈ xs, ∃ q, u = .int .u8 q) :
  Calls Tryz.prog 103 #[.slice a n c] w fun e w' => e = .returned (.tuple #[]) ∧ Own w' B a 1 n c xs.reverse ∧ Ext (blk a) w w' := by
 have hn : n ≤ 9223372036854775807 := by have := ho.nc; have := ho.cm; unfold maxLen at this; omega
 have hlen : xs.length = n := by have := ho.len; omega
 go_enter Tryz.func103, Tryz.ntmps103
 go_wp2_with fail
 go_loopw [2, 3] (fun i j wr => ∃ (k : Nat) (ys : List Value), k ≤ n ∧ i = .int .i64 k ∧ j = .int .i64 ((n : Int) - 1 - k) ∧ Own wr B a 1 n c ys ∧ Swapped xs ys k ∧ (∀ u ∈ ys, ∃ q, u = .int .u8 q) ∧ Ext (blk a) w wr)
  (fun i _ _ => (n : Nat) - (intOf i).toNat)
 case atStart => exact ⟨0, xs, Nat.zero_le _, rfl, by go_num, ho, Swapped.start xs, hone, Ext.refl _ _⟩
 case round =>
  obtain ⟨k, ys, hk, rfl, rfl, hown, hsw, hint, hext⟩ := hrel
  by_cases hlt : k + k + 1 < n
  ·have hyl : ys.length = n := by rw [hsw.1, hlen]
   obtain ⟨ad, rfl, _⟩ := hown.rd.ne (by omega)
   obtain ⟨_, _, hsp⟩ := hown.base ad rfl
   obtain ⟨b, off, sp⟩ := ad
   simp only at hsp
   subst hsp
   obtain ⟨q1, hq1⟩ := hint ys[k] (by simp)
   obtain ⟨q2, hq2⟩ := hint ys[n - 1 - k] (by simp)
   have c1 := hown.rd.cell k (by omega)
   have c2 := hown.rd.cell (n - 1 - k) (by omega)
   rw [hq1, Addr.add_lit] at c1
   rw [hq2, Addr.add_lit] at c2
   have f1 : wr.frozen? ⟨b, off + k, none⟩ = false := by
    obtain ⟨_, e, _, f⟩ := hown.can k (by have := hown.nc; omega)
    cases e; rwa [Addr.add_lit] at f
   have f2 : wr.frozen? ⟨b, off + (n - 1 - k), none⟩ = false := by
    obtain ⟨_, e, _, f⟩ := hown.can (n - 1 - k) (by have := hown.nc; omega)
    cases e; rwa [Addr.add_lit] at f
   have i1 : (k : Int) < n := by omega
   have i2 : (0 : Int) ≤ (n : Int) - 1 - k := by omega
   have i3 : (n : Int) - 1 - k < n := by omega
   have i4 : ((n : Int) - 1 - k).toNat = n - 1 - k := by omega
   have Hsw := Lib.hid hsw
   clear hsw
   go_wp2_with fail
   go_region
   go_wp2_with fail
   go_roundw
   case rel =>
    have hown2 := (hown.set k (by omega) (.int .u8 q2)).set (n - 1 - k) (by omega) (.int .u8 q1)
    rw [Addr.add_lit, Addr.add_lit] at hown2
    refine ⟨k + 1, _, by omega, by go_num, by go_num, ?_, Hsw.out.step (by omega) (.int .u8 q1) (.int .u8 q2) ?_ ?_, ?_, ?_⟩
    ·rw [hlen]; exact hown2.drew
    ·rw [← hq1]; simp
    ·rw [hlen, ← hq2]; simp
    ·intro u hu
     rcases List.mem_or_eq_of_mem_set hu with h | h
     ·rcases List.mem_or_eq_of_mem_set h with h | h
      ·exact hint u h
      ·exact ⟨_, h⟩
     ·exact ⟨_, h⟩
    ·exact hext.comp ((((Ext.drew _ _).comp (Ext.setCell _ _ _ ⟨_, rfl, rfl⟩))).comp (Ext.setCell _ _ _ ⟨_, rfl, rfl⟩))
   case measure => simp [intOf]; omega
  ·go_wp2_with fail
   go_end0
   refine ⟨rfl, ?_, hext⟩
   rw [← hsw.stop (by omega)]
   exact hown
set_option maxHeartbeats 400000 in
theorem row_any (u : Nat) (hu : u < 18446744073709551616) (w : World) :
  Calls Tryz.prog 92 #[.int .u64 u] w fun e w' => ∃ a c, e = .returned (.slice a (row u).length c) ∧ Own w' w.heap.size a 1 (row u).length c (bs (row u)) ∧ Ext no w w' := by
 have hu0 : (0 : Int) ≤ u := by omega
 go_enter Tryz.func92, Tryz.ntmps92
 go_wp2_with fail
 go_loopw [0, 3] (fun s0 s3 wr => ∃ (v : Nat) (l : List UInt8) (a : Option Addr) (c : Nat), v < 144115188075855872 ∧ s0 = .int .u64 v ∧ s3 = .slice a l.length c ∧ Own wr w.heap.size a 1 l.length c (bs l) ∧
   revRow u = l ++ hiRev v ∧ Below w.heap.size w wr) (fun s0 _ _ => (intOf s0).toNat)
 case atStart =>
  refine ⟨u / 128, [b8 (u % 128)], _, _, by omega, by go_num, rfl, ?_, rfl, (Below.refl _ _).alloc (Nat.le_refl _) _⟩
  exact Own.fresh w _ _ _ _ _ _ _ _ (Nat.le_refl _) (by simp) (Nat.le_refl _) (by unfold maxLen; simp) (by simp) (by simp [bs, B8_b8 (u % 128) (by omega)]) (.inl (Nat.le_refl _))
 case round =>
  obtain ⟨v, l, a, c, hv, rfl, rfl, hown, hrev, hbel⟩ := hrel
  have hl : l.length ≤ 10 := by
   have := (row_length u hu).1
   rw [row, List.length_reverse, hrev, List.length_append] at this
   omega
  by_cases hz : v = 0
  ·subst hz
   have Hrev := Lib.hid hrev
   clear hrev
   go_wp2_with (go_at_call 103; refine (reverse_any _ hown (bs_int _)).mono ?_; rintro e w1 ⟨rfl, hown1, hext1⟩)
   go_ret
   have hrow : row u = l.reverse := by rw [row, Hrev.out, hiRev_zero, List.append_nil]
   refine ⟨a, c, ?_, ?_, ?_⟩
   ·rw [hrow, List.length_reverse]; rfl
   ·rw [hrow, List.length_reverse, ← bs_reverse]; exact hown1
   ·exact Ext.ofBelow (hbel.trans (hown.below hext1 hbel.size)) (Nat.le_refl _)
  ·have hv0 : 0 < v := by omega
   have hor := or128 ((v : Int) % 128) (by omega) (by omega)
   have hrd := Rd.one wr (.int .u8 ((v : Int) % 128 + 128)) 5 (0, 0)
   have Hrev := Lib.hid hrev
   clear hrev hz
   go_wp2_with (at_builtin; refine wpList_append TBytes rfl rfl rfl (hown.ext (Ext.alloc no _ _) (fun _ _ h => h)) rfl hrd (by simp) ?c2 ?c3 ?c4 ?c5 ?_)
   case c2 => intro u hu; simp at hu; subst hu; rfl
   case c3 => unfold maxLen; omega
   case c4 => omega
   case c5 => have := hbel.size; simp; omega
   intro a' c' w1 happ
   have hown1 := happ.own
   have hext1 := happ.ext
   clear happ
   go_wp2_with fail
   go_roundw
   case rel =>
    refine ⟨v / 128, l ++ [b8 (v % 128 + 128)], a', c', by omega, by go_num, by simp, ?_, ?_, ?_⟩
    ·rw [List.length_append, List.length_singleton, bs_append]
     have : bs [b8 (v % 128 + 128)] = [.int .u8 ((v : Int) % 128 + 128)] := by simp only [bs, List.map_cons, List.map_nil, B8_b8 (v % 128 + 128) (by omega)]; congr 2
     rw [this]
     exact hown1
    ·rw [Hrev.out, hiRev_pos hv0]; simp
    ·exact hbel.trans (((Below.refl _ _).alloc hbel.size _).trans ((hown.alloc _).below hext1 (by have := hbel.size; simp; omega)))
   case measure => simp [intOf]; omega
end Go.Proofs.YtddobhihjljcgaaGreat
/- Walks of the package code: turned, Grow, Concat, Clone, Int. -/
namespace Go.Proofs.YtddobhihjljcgaaGreat
open Go.RowKit Go.Esc
set_option maxHeartbeats 400000 in
theorem turned_any (n : Int) (w : World) (h1 : -9223372036854775808 ≤ n) (h2 : n ≤ 9223372036854775807) :
  Calls Tryz.prog 93 #[.int .i64 n] w fun e w' => e = .returned (.int .u64 (zig n)) ∧ w = w' := by
 by_cases hn : n < 0
 ·have ho := or1 (-(n + 1) * 2) (by omega) (by omega) (by omega)
  go_enter Tryz.func93, Tryz.ntmps93
  go_wp2
  go_ret
  have hz : (-(n + 1) * 2 + 1 : Int) = ((zig n : Nat) : Int) := by unfold zig; rw [if_pos (by omega)]; omega
  exact ⟨by rw [← hz]; rfl, rfl⟩
 ·have hn0 : 0 ≤ n := by omega
  go_enter Tryz.func93, Tryz.ntmps93
  go_wp2
  go_ret
  have hz : (n * 2 : Int) = ((zig n : Nat) : Int) := by unfold zig; rw [if_neg (by omega)]; omega
  exact ⟨by rw [← hz]; rfl, rfl⟩
end Go.Proofs.YtddobhihjljcgaaGreat
/- Walks of the package code: Clone, Int, Text, Ints. -/
namespace Go.Proofs.YtddobhihjljcgaaGreat
open Go.RowKit Go.Esc
set_option maxHeartbeats 400000 in
theorem int_any (w : World) (a : Option Addr) (c : Nat) (l : List UInt8) (n : Int) (hrd : Rd w a (bs l)) (hl : l.length ≤ 549755813888) (hn : I64ok n) :
  Calls Tryz.prog 73 #[.slice a l.length c, .int .i64 n] w fun e w' => ∃ a' c', e = .returned (.slice a' (l ++ encI n).length c') ∧ Own w' w.heap.size a' 1 (l ++ encI n).length c' (bs (l ++ encI n)) ∧ Ext no w w' := by
 have hz := zig_lt n hn.1 hn.2
 have hr := (row_length (zig n) hz).1
 have hf : flat [⟨a, l, c⟩, ⟨none, row (zig n), 0⟩] = l ++ encI n := by simp [flat, encI]
 have Hf := Lib.hid hf
 clear hf
 go_enter Tryz.func73, Tryz.ntmps73
 go_wp2_with fail
 refine (turned_any n w hn.1 hn.2).mono ?_
 rintro e w1 ⟨rfl, rfl⟩
 go_wp2_with fail
 refine (row_any (zig n) hz w).mono ?_
 rintro e w1 ⟨a1, c1, rfl, hown1, hext1⟩
 go_wp2_with fail
 refine (concat_any _ _ 2 [⟨a, l, c⟩, ⟨a1, row (zig n), c1⟩] (by simp) (Rd.lit w1 _ _ _) ?_ ?_).mono ?_
 ·intro p hp
  simp only [List.mem_cons, List.not_mem_nil, or_false] at hp
  rcases hp with rfl | rfl
  ·exact (hrd.ext hext1 (fun _ _ h => h)).alloc _
  ·exact hown1.rd.alloc _
 ·have : (flat [⟨a, l, c⟩, ⟨a1, row (zig n), c1⟩]).length = l.length + (row (zig n)).length := by simp [flat]
  rw [this]; omega
 ·rintro e w2 ⟨a2, c2, rfl, hown2, hext2⟩
  go_wp2_with fail
  go_ret
  have hfl : flat [⟨a, l, c⟩, ⟨a1, row (zig n), c1⟩] = l ++ encI n := Hf.out
  rw [hfl] at hown2
  refine ⟨a2, c2, ?_, hown2.mono (by have := hext1.size; simp; omega), (hext1.comp (Ext.alloc no _ _)).comp hext2⟩
  rw [← hfl]; rfl
end Go.Proofs.YtddobhihjljcgaaGreat
/- Walks of the package code: Text, Ints. -/
namespace Go.Proofs.YtddobhihjljcgaaGreat
open Go.RowKit Go.Esc
set_option maxHeartbeats 400000 in
theorem text_any (w : World) (a : Option Addr) (c : Nat) (l t : List UInt8) (hrd : Rd w a (bs l)) (hl : l.length ≤ 274877906944) (hs : t.length ≤ 274877906944) :
  Calls Tryz.prog 94 #[.slice a l.length c, .string (str t)] w fun e w' => ∃ a' c', e = .returned (.slice a' (l ++ encT t).length c') ∧ Own w' w.heap.size a' 1 (l ++ encT t).length c' (bs (l ++ encT t)) ∧ Ext no w w' := by
 have hn : I64ok t.length := ⟨by omega, by omega⟩
 have hz := zig_lt t.length hn.1 hn.2
 have hr := (row_length (zig t.length) hz).1
 have hll : (l ++ encI t.length).length ≤ 274877906964 := by rw [List.length_append, encI]; omega
 have hsz := str_size t
 go_enter Tryz.func94, Tryz.ntmps94
 go_wp2_with fail
 refine (int_any w a c l t.length hrd (by omega) hn).mono ?_
 rintro e w1 ⟨a1, c1, rfl, hown1, hext1⟩
 generalize hm : l ++ encI t.length = m at *
 have Hm := Lib.hid hm
 clear hm
 go_wp2_with (first
  | (with_reducible show wpList _ _ _ _ _ _; refine wpList_bytes_of (by exact Tryz.underlying9) (by exact Tryz.underlying37) (by exact Tryz.underlying5) rfl rfl rfl w1.heap.size (Nat.le_refl _) ?c1 ?_))
 case c1 => rw [hsz]; unfold maxLen; omega
 intro a2 c2 w2 hown2 hext2
 rw [str_list] at hown2
 go_wp2_with fail
 refine (concat_any _ _ 2 [⟨a1, m, c1⟩, ⟨a2, t, c2⟩] (by simp) (Rd.lit w2 _ _ _) ?_ ?_).mono ?_
 ·intro p hp
  simp only [List.mem_cons, List.not_mem_nil, or_false] at hp
  rcases hp with rfl | rfl
  ·exact (hown1.rd.ext hext2 (fun _ _ h => h)).alloc _
  ·exact hown2.rd.alloc _
 ·have : (flat [⟨a1, m, c1⟩, ⟨a2, t, c2⟩]).length = m.length + t.length := by simp [flat]
  rw [this]; omega
 ·rintro e w3 ⟨a3, c3, rfl, hown3, hext3⟩
  go_wp2_with fail
  go_ret
  have hf : flat [⟨a1, m, c1⟩, ⟨a2, t, c2⟩] = l ++ encT t := by simp [flat, encT, ← Hm.out]
  rw [hf] at hown3
  refine ⟨a3, c3, ?_, hown3.mono (by have := hext1.size; have := hext2.size; simp; omega), ((hext1.comp hext2).comp (Ext.alloc no _ _)).comp hext3⟩
  rw [← hf]; rfl
end Go.Proofs.YtddobhihjljcgaaGreat
/- Walks: code.Ints; within of escrowlaw1. -/
namespace Go.Proofs.YtddobhihjljcgaaGreat
open Go.RowKit Go.Esc
set_option maxHeartbeats 400000 in
theorem ints_any (w : World) (a b : Option Addr) (c cb : Nat) (l : List UInt8) (t : List Int) (hra : Rd w a (bs l)) (hl : l.length ≤ 274877906944)
  (hrd : Rd w b (is t)) (ht : t.length ≤ 17179869184) (hok : ∀ n ∈ t, I64ok n) :
  Calls Tryz.prog 75 #[.slice a l.length c, .slice b t.length cb] w fun e w' => ∃ a' c', e = .returned (.slice a' (l ++ encL t).length c') ∧ Own w' w.heap.size a' 1 (l ++ encL t).length c' (bs (l ++ encL t)) ∧ Ext no w w' := by
 have hn : I64ok t.length := ⟨by omega, by omega⟩
 have hsm : ∀ k, (l ++ encLk t k).length ≤ l.length + 10 + k * 10 := by
  intro k
  have := encLk_length t hn hok k
  rw [List.length_append]; omega
 go_enter Tryz.func75, Tryz.ntmps75
 go_wp2_with fail
 refine (int_any w a c l t.length hra (by omega) hn).mono ?_
 rintro e w1 ⟨a1, c1, rfl, hown, hext⟩
 have e0 : l ++ encI t.length = l ++ encLk t 0 := by simp [encLk]
 rw [e0] at hown ⊢
 have Hsm := Lib.hid hsm
 clear hsm e0
 generalize hm : l ++ encLk t 0 = m at *
 have Hm := Lib.hid hm
 clear hm
 go_wp2_with fail
 go_loopw [5, 7, 14] (fun s5 _ s14 wr => ∃ (k : Nat) (a' : Option Addr) (c' : Nat) (m : List UInt8), k ≤ t.length ∧ m = l ++ encLk t k ∧ s14 = .int .i64 k ∧ s5 = .slice a' m.length c' ∧
   Own wr w.heap.size a' 1 m.length c' (bs m) ∧ Ext no w wr) (fun _ _ s14 _ => t.length - (intOf s14).toNat)
 case atStart => exact ⟨0, a1, c1, m, Nat.zero_le _, Hm.out.symm, rfl, rfl, hown, hext⟩
 case round =>
  clear Hm hown hext
  obtain ⟨k, a', c', m, hk, hm, rfl, rfl, hown, hext⟩ := hrel
  have hk1 := Hsm.out k
  rw [← hm] at hk1
  have Hm := Lib.hid hm
  clear hm
  by_cases hlt : k < t.length
  ·obtain ⟨ad, rfl, _⟩ := hrd.ne (by simp; omega)
   have hc := hext.keeps (hrd.cell k (by simpa using hlt)) (fun h => h)
   rw [show (is t)[k]'(by simpa using hlt) = .int .i64 t[k] from by simp [is, I64]] at hc
   have hokk := hok t[k] (by simp)
   have hz := zig_lt t[k] hokk.1 hokk.2
   have hr := (row_length (zig t[k]) hz).1
   go_wp2_with fail
   refine (turned_any t[k] wr hokk.1 hokk.2).mono ?_
   rintro e w2 ⟨rfl, rfl⟩
   go_wp2_with fail
   refine (row_any (zig t[k]) hz wr).mono ?_
   rintro e w2 ⟨a2, c2, rfl, hown2, hext2⟩
   have hs2 := hext2.size
   have hs1 := hext.size
   go_wp2_with (at_builtin; refine wpList_append TBytes rfl rfl rfl (hown.ext hext2 (fun _ _ h => h)) rfl hown2.rd (by simp) (bs_one _) ?c1 ?c2 ?c3 ?_)
   case c1 => unfold maxLen; omega
   case c2 => omega
   case c3 => omega
   intro a3 c3 w3 happ
   have hex3 : Ext no w w3 := Ext.ofBelow ((hext.comp hext2).belowAll.trans ((hown.ext hext2 (fun _ _ h => h)).below happ.ext (by omega))) (Nat.le_refl _)
   have hown3 := happ.own
   clear happ
   go_wp2_with fail
   go_roundw
   case rel =>
    have e1 : m ++ row (zig t[k]) = l ++ encLk t (k + 1) := by rw [Hm.out, encLk_succ t k hlt, List.append_assoc]; rfl
    refine ⟨k + 1, a3, c3, m ++ row (zig t[k]), by omega, e1, by go_num, by rw [List.length_append], ?_, hex3⟩
    rw [List.length_append, bs_append]; exact hown3
   case measure => simp [intOf]; omega
  ·obtain rfl : k = t.length := by omega
   go_wp2_with fail
   refine (clone_any wr a' c' m hown.rd (by omega)).mono ?_
   rintro e w2 ⟨a2, c2, rfl, hown2, hext2⟩
   go_wp2_with fail
   go_ret
   have e1 : m = l ++ encL t := by rw [Hm.out, encLk_all]
   subst e1
   exact ⟨a2, c2, rfl, hown2.mono hext.size, hext.comp hext2⟩
end Go.Proofs.YtddobhihjljcgaaGreat
/- A region that draws its order in a deferred function that recovers; all orders of a small region. Of no program. -/
namespace Go.Esc
open Go.RowKit
theorem wpS_region_draw {P : Program} {Q : Exit → Act → List Frame → World → Prop} {a : Act} {cs : List Frame} {w : World} {id : Nat} {ops : Array Oper} (hm : P.follows .mixedOrders = true) (ls : List (List Nat))
  (hl : allLin .any ops ops.size (Array.replicate ops.size false) = ls) (h : ∀ l ∈ ls, wpOpsS P ops Q l a cs w.drew) : (Code.region id ops true).wpS P Q a cs w := fun b k hb hr => by
 have hmem : Region.schedule (P.follows .mixedOrders) ops (w.tape w.drawn (.order b.fn id)) ∈ ls := by
  rw [← hl]
  simp only [Region.schedule, hm, Bool.true_or, if_true]
  exact mem_allLin _ _ _ _ _
 obtain ⟨e, a', cs', w', q, r⟩ := wp_opsS _ a cs _ (h _ hmem) b k hb hr
 exact ⟨e, a', cs', w', q, .of_steps (.one step_region_draw) r⟩
end Go.Esc
