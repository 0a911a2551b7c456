/- The walk of schema's lower: a range over a string whose iterator lies in a block of its own. -/
import Derived.Test.YtejmmkjpncpedaaGreatDoorStrB
import Derived.Deep.DeepCutAuto
namespace Go.Esc
open Go.RowKit
variable {P : Program} {w w' : World}

/-- The iterator in block g. -/
def It (w : World) (g : Nat) (s : ByteArray) (pos : Nat) : Prop := w.heap[g]? = some (.stringIter s pos)
def itset (w : World) (g : Nat) (s : ByteArray) (p : Nat) : World := { w with heap := w.heap.setIfInBounds g (.stringIter s p) }
theorem It.lt {g pos : Nat} {s : ByteArray} (h : It w g s pos) : g < w.heap.size := by
  unfold It at h
  exact (Array.getElem?_eq_some_iff.1 h).1
theorem It.ext {S : Nat → Prop} {g pos : Nat} {s : ByteArray} (h : It w g s pos) (hx : Ext S w w') (hg : ¬ S g) : It w' g s pos := by
  have := hx.block g h.lt hg
  unfold It at *
  rw [this]; exact h
theorem It.set {g pos : Nat} {s : ByteArray} (h : It w g s pos) (p : Nat) : It (itset w g s p) g s p ∧ Ext (just g) w (itset w g s p) := by
  have hl := h.lt
  refine ⟨?_, rfl, rfl, rfl, ?_, fun k _ hn => ?_⟩
  · unfold It itset
    simp only
    rw [Array.getElem?_setIfInBounds_self_of_lt hl]
  · simp [itset]
  · simp only [itset]
    rw [Array.getElem?_setIfInBounds_ne (fun e => hn e.symm)]
theorem It.pos {g pos : Nat} {s : ByteArray} (h : It w g s pos) : w.iterPos g = pos := by
  unfold World.iterPos
  unfold It at h
  rw [h]
theorem next_it {g pos : Nat} {s : ByteArray} (h : It w g s pos) (hp : pos < s.size) (ty : TypeId) :
    (Instr.next (.pointer (some ⟨g, 0, none⟩)) true ty).run P w = .ok (.tuple #[.bool true, .int .i64 pos, .int .i32 (Utf8.decode s pos).1]) (itset w g s (pos + (Utf8.decode s pos).2)) := by
  unfold It at h
  simp only [Instr.next, getObj, setObj, Sem.run_bind, Sem.run, h, Result.andThen, hp, if_true]
  simp [goInt, itset]
theorem next_it_done {g pos : Nat} {s : ByteArray} (h : It w g s pos) (hp : ¬ pos < s.size) (ty : TypeId) :
    (Instr.next (.pointer (some ⟨g, 0, none⟩)) true ty).run P w = .ok (.tuple #[.bool false]) w := by
  unfold It at h
  simp [Instr.next, getObj, Sem.run, h, hp]
theorem It.start (w : World) (s : ByteArray) : It (w.iter s 0) w.heap.size s 0 := World.iter_heap w s 0
end Go.Esc
namespace Go.Proofs.YtejmmkjpncpedaaGreatDoor
open Go.RowKit Go.Esc
set_option linter.unusedVariables false

set_option maxHeartbeats 4000000 in
theorem lower_any (w : World) (l : List UInt8) (hl : l.length ≤ 1099511627776) :
    Calls Tryz.prog 56 #[.string (str l)] w fun e w' => e = .returned (.string (str (low l))) ∧ Ext no w w' := by
  go_enter Tryz.func56, Tryz.ntmps56
  go_wp2_with (refine wpList_bytes_of (by exact Tryz.underlying9) (by exact Tryz.underlying39) (by exact Tryz.underlying5) rfl rfl rfl w.heap.size (Nat.le_refl _) ?c1 ?_)
  case c1 => rw [str_size]; unfold maxLen; omega
  intro a c w1 hown hx1
  rw [str_size] at hown ⊢
  replace hown : Own w1 w.heap.size a 1 l.length c (bs (lo l 0)) := by rw [lo_zero]; exact hown
  go_wp2_with fail
  have hit := It.start w1 (str l)
  have hxi : Ext no w1 (w1.iter (str l) 0) := Ext.alloc no _ _
  have hown2 := hown.ext hxi (fun _ _ h => h)
  have hx2 := hx1.comp hxi
  have hgw : w.heap.size ≤ w1.heap.size := hx1.size
  have hab : ∀ ad, a = some ad → ad.block < w1.heap.size := fun ad h => (hown.base ad h).2.1
  clear hown hxi hx1
  generalize w1.iter (str l) 0 = w2 at *
  generalize w1.heap.size = g at *
  go_loopw [4, 5] (fun s4 s5 wr => ∃ p : Nat, p ≤ l.length ∧ Own wr w.heap.size a 1 l.length c (bs (lo l p)) ∧ It wr g (str l) p ∧ Ext no w wr) (fun _ _ wr => l.length - wr.iterPos g)
  case atStart => exact ⟨0, Nat.zero_le _, hown2, hit, hx2⟩
  case round =>
    clear hown2 hit hx2
    obtain ⟨p, hp, hown, hit, hx⟩ := hrel
    have hnc := hown.nc
    by_cases hlt : p < l.length
    rotate_left
    · have hnd : ∀ ty, (Instr.next (.pointer (some ⟨g, 0, none⟩)) true ty).run Tryz.prog wr = .ok (.tuple #[.bool false]) wr := fun ty => next_it_done hit (by rw [str_size]; exact hlt) ty
      have hlo := Lib.hid (lo_all l (Nat.le_of_not_lt hlt))
      have hrd := hown.rd
      rw [hlo.out] at hrd
      have Hlow := Lib.hid (low_len l)
      have cx : (convert 39 9 (.slice a l.length c)).run Tryz.prog wr = .ok (.string (str (low l))) wr := convStr _ _ _ _ _ Hlow.out.symm hrd
      clear hown hit
      go_wp2_with fail
      go_ret
      exact ⟨rfl, hx⟩
    obtain ⟨hd1, hdk⟩ := decode_cont (str l) p
    have hnx : ∀ ty, (Instr.next (.pointer (some ⟨g, 0, none⟩)) true ty).run Tryz.prog wr = .ok (.tuple #[.bool true, .int .i64 p, .int .i32 (Utf8.decode (str l) p).1]) (itset wr g (str l) (p + (Utf8.decode (str l) p).2)) := fun ty => next_it hit (by rw [str_size]; exact hlt) ty
    obtain ⟨d, hd⟩ : ∃ d, d = (Utf8.decode (str l) p).2 := ⟨_, rfl⟩
    obtain ⟨it2, xit⟩ := hit.set (p + d)
    have hcont : ∀ (j : Nat) (h : j < l.length), p + 1 ≤ j → j < p + d → 128 ≤ (l[j]).toNat := by
      intro j hj h1 h2
      have := (hdk (j - p) (by omega) (by omega)).2
      rw [show p + (j - p) = j by omega] at this
      rw [show (str l).get! j = l[j] by show (l.toArray)[j]! = _; rw [getElem!_pos _ _ (by simpa using hj)]; simp] at this
      exact this
    have hpd : p + d ≤ l.length := by
      by_cases h1 : d = 1
      · omega
      · have := (hdk (d - 1) (by omega) (by omega)).1
        rw [str_size] at this
        omega
    rw [← hd] at hnx
    have Hskip := Lib.hid (show lo l (p + d) = lo l (p + 1) by
      have := lo_skip l (p := p + 1) (d - 1) (by omega) (fun j hj h1 h2 => hcont j hj h1 (by omega))
      rwa [show p + 1 + (d - 1) = p + d by omega] at this)
    have Hnext := Lib.hid (lo_next l hlt)
    have hownI := hown.ext xit (fun ad h e => by have := hab ad h; simp only [Esc.just] at e; omega)
    have hxI : Ext no w (itset wr g (str l) (p + d)) := hx.trans xit (fun i hi e => by simp only [Esc.just] at e; omega)
    have hpos := hit.pos
    have hd1' : 1 ≤ d := by omega
    clear hdk hd1 hd hcont hown hx hit xit
    generalize (Utf8.decode (str l) p).1 = rune at *
    go_wp2_with fail
    generalize itset wr g (str l) (p + d) = wi at *
    go_loopw [5] (fun s5 wq => ∃ (k : Nat) (M : List UInt8), p ≤ k ∧ k ≤ l.length ∧ s5 = .int .i64 k ∧ (k = p ∧ M = lo l p ∨ p < k ∧ M = lo l (p + 1)) ∧ Own wq w.heap.size a 1 l.length c (bs M) ∧ It wq g (str l) (p + d) ∧ Ext no w wq) (fun s5 _ => l.length - (intOf s5).toNat)
    case atStart => exact ⟨p, _, Nat.le_refl _, hp, rfl, .inl ⟨rfl, rfl⟩, hownI, it2, hxI⟩
    case round =>
      clear hownI it2 hxI
      obtain ⟨k, M, hpk, hkl, rfl, hM, hown, hit, hx⟩ := hrel
      have hMl : M.length = l.length := by rcases hM with ⟨_, h⟩ | ⟨_, h⟩ <;> rw [h, lo_len]
      obtain ⟨ad, rfl, hadlt⟩ := hown.rd.ne (by simp only [bs_length]; rw [hMl]; omega)
      have hadg : ad.block ≠ g := by have := hab ad rfl; omega
      rcases hM with ⟨rfl, hM⟩ | ⟨hpk', hM⟩
      · have hkn : k < l.length := hlt
        have hc := hown.rd.cell k (by simp only [bs_length]; rw [hMl]; omega)
        rw [show (bs M)[k]'(by simp only [bs_length]; rw [hMl]; omega) = .int .u8 (l[k]'hkn).toNat from by
          have h1 : (bs M)[k]? = some (.int .u8 (l[k]'hkn).toNat) := by
            unfold bs
            rw [List.getElem?_map, hM, lo_get l (Nat.le_refl _) hkn]
            rfl
          rw [List.getElem?_eq_getElem (by simp only [bs_length]; rw [hMl]; omega)] at h1
          exact Option.some.inj h1] at hc
        have hsame : ¬ (65 ≤ (l[k]'hkn).toNat ∧ (l[k]'hkn).toNat ≤ 90) → M = lo l (k + 1) := fun h => by rw [lo_same l hkn (lowB_not h)]; exact hM
        have hgreat : 65 ≤ (l[k]'hkn).toNat ∧ (l[k]'hkn).toNat ≤ 90 → M.set k ((l[k]'hkn) + 32) = lo l (k + 1) := fun h => by rw [Hnext.out, (lowB_great h).1, hM]
        have hsum : 65 ≤ (l[k]'hkn).toNat ∧ (l[k]'hkn).toNat ≤ 90 → (((l[k]'hkn) + 32 : UInt8).toNat : Int) = (l[k]'hkn).toNat + 32 := fun h => by have := lowB_great h; rw [this.1] at this; omega
        have e0 : decide ((k : Int) < l.length) = true := decT (by omega)
        have hbf : wr.frozen? (ad.add k) = false := by
          obtain ⟨_, e, _, f⟩ := hown.can k (by omega)
          cases e; exact f
        have hxlt := (l[k]'hkn).toNat_lt
        generalize (l[k]'hkn) = x at *
        by_cases hgr : 65 ≤ x.toNat ∧ x.toNat ≤ 90
        · have d1 : decide ((65 : Int) ≤ x.toNat) = true := decT (by omega)
          have d2 : decide ((x.toNat : Int) ≤ 90) = true := decT (by omega)
          have Hset := Lib.hid (hgreat hgr)
          have Hsum := Lib.hid (hsum hgr)
          have hxs : Ext (just ad.block) wr (wr.setCell (ad.add k) (.int .u8 ((x.toNat : Int) + 32))) := Ext.setCell _ _ _ (add_block _ _)
          have hown5 : Own (wr.setCell (ad.add k) (.int .u8 ((x.toNat : Int) + 32))) w.heap.size (some ad) 1 l.length c (bs (lo l (k + 1))) := by
            have := hown.set k (by omega) (.int .u8 ((x.toNat : Int) + 32))
            rw [← Hset.out]
            have e : bs (M.set k (x + 32)) = (bs M).set k (.int .u8 ((x.toNat : Int) + 32)) := by
              unfold bs; rw [List.map_set]; congr 1; unfold B8; rw [Hsum.out]
            rw [e]; exact this
          have hit5 := hit.ext hxs (by simp only [Esc.just]; omega)
          have hx5 : Ext no w (wr.setCell (ad.add k) (.int .u8 ((x.toNat : Int) + 32))) := hx.trans hxs (fun i hi e => by simp only [Esc.just] at e; have := (hown.base ad rfl).1; omega)
          clear hsame hgreat hsum hown hit hx
          go_wp2_with fail
          go_roundw
          case rel => exact ⟨k + 1, lo l (k + 1), by omega, by omega, by go_num, .inr ⟨by omega, rfl⟩, hown5, hit5, hx5⟩
          case measure => simp [intOf]; omega
        · have Hsm := Lib.hid (hsame hgr)
          clear hsame hgreat hsum
          by_cases h65 : 65 ≤ x.toNat
          · have d1 : decide ((65 : Int) ≤ x.toNat) = true := decT (by omega)
            have d2 : decide ((x.toNat : Int) ≤ 90) = false := decF (by omega)
            go_wp2_with fail
            go_roundw
            case rel => exact ⟨k + 1, M, by omega, by omega, by go_num, .inr ⟨by omega, Hsm.out⟩, hown, hit, hx⟩
            case measure => simp [intOf]; omega
          · have d1 : decide ((65 : Int) ≤ x.toNat) = false := decF (by omega)
            go_wp2_with fail
            go_roundw
            case rel => exact ⟨k + 1, M, by omega, by omega, by go_num, .inr ⟨by omega, Hsm.out⟩, hown, hit, hx⟩
            case measure => simp [intOf]; omega
      · by_cases hkn : k < l.length
        rotate_left
        · have e0 : decide ((k : Int) < l.length) = false := decF (by omega)
          have hfin : Own wr w.heap.size (some ad) 1 l.length c (bs (lo l (p + d))) := by rw [Hskip.out, ← hM]; exact hown
          have hpos2 := hit.pos
          go_wp2_with fail
          go_roundw
          case rel => exact ⟨p + d, hpd, hfin, hit, hx⟩
          case measure => rw [hpos2, hpos]; omega
        have e0 : decide ((k : Int) < l.length) = true := decT (by omega)
        have e1 : ((k : Int) == (p : Int)) = false := by rw [beq_eq_false_iff_ne]; omega
        have hc := hown.rd.cell k (by simp only [bs_length]; rw [hMl]; omega)
        rw [show (bs M)[k]'(by simp only [bs_length]; rw [hMl]; omega) = .int .u8 (l[k]'hkn).toNat from by
          have h1 : (bs M)[k]? = some (.int .u8 (l[k]'hkn).toNat) := by
            unfold bs
            rw [List.getElem?_map, hM, lo_get l hpk' hkn]
            rfl
          rw [List.getElem?_eq_getElem (by simp only [bs_length]; rw [hMl]; omega)] at h1
          exact Option.some.inj h1] at hc
        have hxlt := (l[k]'hkn).toNat_lt
        generalize (l[k]'hkn) = x at *
        by_cases h128 : 128 ≤ x.toNat
        · have e2 : decide ((128 : Int) ≤ x.toNat) = true := decT (by omega)
          have d1 : decide ((65 : Int) ≤ x.toNat) = true := decT (by omega)
          have d2 : decide ((x.toNat : Int) ≤ 90) = false := decF (by omega)
          go_wp2_with fail
          go_roundw
          case rel => exact ⟨k + 1, M, by omega, by omega, by go_num, .inr ⟨by omega, hM⟩, hown, hit, hx⟩
          case measure => simp [intOf]; omega
        · have e2 : decide ((128 : Int) ≤ x.toNat) = false := decF (by omega)
          have hfin : Own wr w.heap.size (some ad) 1 l.length c (bs (lo l (p + d))) := by rw [Hskip.out, ← hM]; exact hown
          have hpos2 := hit.pos
          go_wp2_with fail
          go_roundw
          case rel => exact ⟨p + d, hpd, hfin, hit, hx⟩
          case measure => rw [hpos2, hpos]; omega
end Go.Proofs.YtejmmkjpncpedaaGreatDoor
