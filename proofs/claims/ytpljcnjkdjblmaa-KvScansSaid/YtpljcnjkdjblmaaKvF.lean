/- Walks of the package kv: Open of an empty disk, write, Apply (where there is room and the power stays). -/
import Derived.Test.YtpljcnjkdjblmaaKvE
import Derived.Test.YtpljcnjkdjblmaaJoD
import Derived.Test.YtpljcnjkdjblmaaKD
namespace Go.Esc
open Go.RowKit
/-- A store in block s: its journal lies in block j, its map in block b; the journal's disk in block g says ds; n records stand behind the snapshot; it tells m. -/
structure St (w : World) (g s j b : Nat) (ds : DS) (n : Nat) (m : KvM) : Prop where
  blk : Blk w s [.pointer (some ⟨j, 0, none⟩), .map (some b)]
  dk : Dk w g ds (fun i => i = s ∨ i = j ∨ i = b)
  jn : Blk w j [.pointer (some ⟨g, 0, none⟩), .int .i64 n]
  mp : MapIn w b m
  sg : s ≠ g
  jg : j ≠ g
  bg : b ≠ g
  sj : s ≠ j
  sb : s ≠ b
  jb : j ≠ b
theorem St.no {w w' : World} {g s j b n : Nat} {ds : DS} {m : KvM} (h : St w g s j b ds n m) (hx : Ext no w w') : St w' g s j b ds n m :=
  ⟨h.blk.ext (by simp) hx (fun h => h), h.dk.no hx, h.jn.ext (by simp) hx (fun h => h), h.mp.no hx, h.sg, h.jg, h.bg, h.sj, h.sb, h.jb⟩
theorem St.low {w : World} {g s j b n : Nat} {ds : DS} {m : KvM} (h : St w g s j b ds n m) : g < w.heap.size ∧ s < w.heap.size ∧ j < w.heap.size ∧ b < w.heap.size :=
  ⟨h.dk.lt, h.blk.lt (by simp), h.jn.lt (by simp), h.mp.lt⟩
/-- What a change is refused for. -/
def chErr (c : ChangeR) : Nat := if c.coll < 0 ∨ 3 ≤ c.coll then 1 else if textOk c.key = true ∧ c.key ≠ [] ∧ textOk c.val = true then 0 else 5
/-- .. the first of a batch that is. -/
def firstErr : List ChangeR → Nat
  | [] => 0
  | c :: l => if chErr c ≠ 0 then chErr c else firstErr l
def kvErr (m : KvM) (l : List ChangeR) : Nat := if 20 < l.length then 4 else if firstErr l ≠ 0 then firstErr l else if 300 < (kvLays m l).length then 4 else 0
theorem firstErr_at : ∀ (l : List ChangeR) (i : Nat) (c : ChangeR), l[i]? = some c → (∀ d ∈ l.take i, chErr d = 0) → chErr c ≠ 0 → firstErr l = chErr c
  | [], i, c, h, _, _ => by simp at h
  | x :: l, 0, c, h, _, hc => by
    rw [List.getElem?_cons_zero] at h
    cases h
    unfold firstErr
    rw [if_pos hc]
  | x :: l, i + 1, c, h, hd, hc => by
    rw [List.getElem?_cons_succ] at h
    unfold firstErr
    have hx : chErr x = 0 := hd x (by simp)
    rw [if_neg (by rw [hx]; simp)]
    exact firstErr_at l i c h (fun d hd' => hd d (by rw [List.take_succ_cons]; exact List.mem_cons_of_mem _ hd')) hc
theorem firstErr_zero (l : List ChangeR) : firstErr l = 0 ↔ ∀ c ∈ l, chErr c = 0 := by
  induction l with
  | nil => simp [firstErr]
  | cons x l ih =>
    unfold firstErr
    split
    · rename_i h
      constructor
      · intro e; exact absurd e h
      · intro e; exact absurd (e x (by simp)) h
    · rename_i h
      have h0 : chErr x = 0 := Classical.not_not.1 h
      rw [ih]
      constructor
      · intro e c hc
        rcases List.mem_cons.1 hc with rfl | hc
        · exact h0
        · exact e c hc
      · intro e c hc; exact e c (List.mem_cons_of_mem _ hc)
theorem chErr_ok {c : ChangeR} (h : chErr c = 0) : (0 ≤ c.coll ∧ c.coll < 3) ∧ textOk c.key = true ∧ c.key ≠ [] ∧ textOk c.val = true := by
  unfold chErr at h
  split at h
  · cases h
  · rename_i h1
    split at h
    · rename_i h2; exact ⟨⟨by omega, by omega⟩, h2⟩
    · cases h
theorem chErr_short {c : ChangeR} (h : chErr c = 0) : I64ok c.coll ∧ c.short := by
  obtain ⟨h1, h2, _, h4⟩ := chErr_ok h
  have a := ((textOk_iff _).1 h2).1
  have b := ((textOk_iff _).1 h4).1
  exact ⟨⟨by omega, by omega⟩, by omega, by omega⟩
end Go.Esc
namespace Go.Proofs.Ytpljcnjkdjblmaa
open Go.RowKit Go.Esc
set_option linter.unusedVariables false
set_option linter.unusedSimpArgs false

set_option maxRecDepth 100000 in
set_option maxHeartbeats 4000000 in
theorem kvopen_empty (w : World) (g : Nat) (ds ds' : DS) (h : Dk w g ds (fun _ => False)) (hok : ds.ok) (ho : ds.opens = (ds', 0, [], [])) :
    Calls Try.prog 13 #[.pointer (some ⟨g, 0, none⟩)] w fun e w' => ∃ s j b, e = .returned (.tuple #[.pointer (some ⟨s, 0, none⟩), .int .i64 0]) ∧ St w' g s j b ds' 0 [] ∧ (w.heap.size ≤ s ∧ w.heap.size ≤ j ∧ w.heap.size ≤ b) ∧ Ext (just g) w w' := by
  have hgl := h.lt
  have hmm := @run_makeMap Try.prog
  go_enter Try.func13, Try.ntmps13
  go_wp2_with fail
  refine (open_any w g ds (fun _ => False) h (fun k hk => hk.elim) hok).mono ?_
  rw [ho]
  rintro e w1 ⟨J, sa, sc, la, lc, rfl, _, _, hx1, hend⟩
  rcases hend with ⟨hk, _⟩ | ⟨_, j, rfl, hj1, hj2, hJ, hD⟩
  · exact absurd rfl hk
  simp only [List.length_nil] at hJ ⊢
  go_upto_region 5 with fail
  have hm := MapIn.new w1
  have hxm := Ext.alloc no w1 (.map #[] 0)
  have hS := Blk.at (w1.alloc (.map #[] 0)) #[.pointer (some ⟨j, 0, none⟩), .map (some w1.heap.size)] 80 (w1.heap.size + 1) (by simp)
  have hxs := Ext.alloc no (w1.alloc (.map #[] 0)) (.cells #[.pointer (some ⟨j, 0, none⟩), .map (some w1.heap.size)] 80)
  generalize (w1.alloc (.map #[] 0)).alloc (.cells #[.pointer (some ⟨j, 0, none⟩), .map (some w1.heap.size)] 80) = w2 at *
  have hx2 := hxm.comp hxs
  have hgl1 := hD.lt
  obtain ⟨b, hb⟩ : ∃ b, b = w1.heap.size := ⟨_, rfl⟩
  rw [← hb] at hm hS ⊢
  have hSt : St w2 g (b + 1) j b ds' 0 [] := by
    have hD1 := hD.fewer (N' := fun i => i = b + 1 ∨ i = j ∨ i = b) (fun k hk hh => by rcases hh with q | q | q; omega; exact .inr q; omega)
    exact ⟨hS, hD1.no hx2, by have := hJ.ext (by simp [jcells]) hx2 (fun h => h); exact this, hm.no hxs, by omega, by omega, by omega, by omega, by omega, by omega⟩
  have H := Lib.hid hSt
  have hw1 := hx1.size
  have hbw : w.heap.size ≤ b := by omega
  clear hSt hm hS hxs hD hJ hxm hb
  have hW : Ext (just g) w w2 := hx1.comp (hx2.mono (fun _ _ h => h.elim))
  clear hx1 hx2
  go_wp2_with fail
  go_loopw [33] (fun s33 wr => s33 = .int .i64 0 ∧ Ext no w2 wr) (fun _ _ => 0)
  case atStart => exact ⟨rfl, Ext.refl _ _⟩
  case round =>
    obtain ⟨rfl, hx⟩ := hrel
    go_wp2_with fail
    go_ret2
    exact ⟨b + 1, j, b, rfl, H.out.no hx, ⟨by omega, hj1, hbw⟩, hW.comp (hx.mono (fun _ _ h => h.elim))⟩

set_option maxRecDepth 100000 in
set_option maxHeartbeats 4000000 in
theorem kvwrite_add (w : World) (g s j n : Nat) (q : Value) (ds : DS) (N : Nat → Prop) (hS : Blk w s [.pointer (some ⟨j, 0, none⟩), q]) (hD : Dk w g ds N) (hJ : Blk w j (jcells g n)) (hjg : j ≠ g) (hNj : N j) (hN : ∀ k, N k → k < w.heap.size) (hok : ds.ok) (hd : ds.done ≤ 999990) (hn : n < 16) (ba : Option Addr) (bc : Nat) (t : List UInt8) (hbd : Rd w ba (bs t)) (hbl : t.length ≤ 4194304) (hk : (ds.jadd t).2 ≠ 17) :
    Calls Try.prog 36 #[.pointer (some ⟨s, 0, none⟩), .slice ba t.length bc] w fun e w' => e = .returned (.int .i64 (ds.jadd t).2) ∧ Dk w' g (ds.jadd t).1 N ∧ Blk w' j (jcells g (tally (ds.jadd t).2 (n + 1) n)) ∧ Ext (either g j) w w' := by
  have c0 := hS.cell 0 _ rfl
  have d1 : decide ((n : Int) < 16) = true := decT (by omega)
  go_enter Try.func36, Try.ntmps36
  go_wp2_with fail
  refine (count_any w g j n hJ).mono ?_
  rintro e _ ⟨rfl, rfl⟩
  go_wp2_with fail
  refine (jadd_any w g j n ds N hD hJ hjg hNj hN hok hd (by omega) ba bc t hbd hbl).mono ?_
  rintro e w1 ⟨rfl, hD1, hJ1, hx1⟩
  have H1 := Lib.hid (And.intro hD1 hJ1)
  clear hD1 hJ1 c0 hJ hD hS
  obtain ⟨k, hkk⟩ : ∃ k, k = (ds.jadd t).2 := ⟨_, rfl⟩
  rw [← hkk] at H1 hk ⊢
  have HK := Lib.hid hkk
  clear hkk
  have d2 : ((k : Int) != 17) = true := by rw [bne_iff_ne]; omega
  go_wp2_with fail
  go_ret
  have q := H1.out
  rw [HK.out] at q
  exact ⟨by rw [← HK.out]; rfl, q.1, q.2, hx1⟩
end Go.Proofs.Ytpljcnjkdjblmaa
