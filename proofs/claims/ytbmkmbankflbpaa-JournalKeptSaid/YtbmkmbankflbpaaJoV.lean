/- The law JournalKept, plainly: a journal on a disk that is to stop. -/
import Derived.Test.YtbmkmbankflbpaaJoM
import Derived.Test.YtbmkmbankflbpaaFrP
namespace Go.Esc

/-- How it stands while the power is there: K was kept, p is the snapshot's text. -/
structure Up (s : DS) (K : List (List UInt8)) (sn : List UInt8) (D : Nat) : Prop where
  dead : s.dead = false
  left : 1 ≤ s.left
  left' : s.left ≤ 40
  odd : s.odd ≤ 1
  ilog : s.log = K.flatMap frame
  sync : s.synced = s.log.length
  isnap : s.snap = sn
  room : s.room = 1048576
  done : s.done ≤ D
  some : sn = [] ∨ (one sn).2 = 0
  few : sn.length ≤ 208
  all : ∀ b ∈ K, b.length ≤ 200
  len : K.length ≤ 30
/-- .. and where it has gone: m is what was to be laid then, sw: as a snapshot. -/
def Down (s : DS) (K : List (List UInt8)) (sn m : List UInt8) (sw : Bool) : Prop :=
  s.dead = true ∧ m.length ≤ 200 ∧ ((sw = false ∧ s.log = K.flatMap frame ++ frame m ∧ s.synced = (K.flatMap frame).length ∧ s.snap = sn) ∨
    (sw = true ∧ s.log = [] ∧ s.synced = 0 ∧ s.snap = frame m) ∨ (sw = true ∧ s.log = K.flatMap frame ∧ s.synced = s.log.length ∧ s.snap = sn))
structure Frm (s : DS) (K : List (List UInt8)) (sn : List UInt8) (D : Nat) : Prop where
  left' : s.left ≤ 40
  odd : s.odd ≤ 1
  room : s.room = 1048576
  done : s.done ≤ D
  some : sn = [] ∨ (one sn).2 = 0
  few : sn.length ≤ 208
  all : ∀ b ∈ K, b.length ≤ 200
  len : K.length ≤ 30
theorem Up.frm {s : DS} {K : List (List UInt8)} {sn : List UInt8} {D : Nat} (h : Up s K sn D) : Frm s K sn D := ⟨h.left', h.odd, h.room, h.done, h.some, h.few, h.all, h.len⟩
theorem kept_len {K : List (List UInt8)} (h : ∀ b ∈ K, b.length ≤ 200) (hl : K.length ≤ 30) : (K.flatMap frame).length ≤ 6240 := by
  have := flat_len h
  have := Nat.mul_le_mul_left 208 hl
  omega
theorem Up.ok {s : DS} {K : List (List UInt8)} {sn : List UInt8} {D : Nat} (h : Up s K sn D) (hD : D ≤ 999990) : s.ok := by
  have := kept_len h.all h.len
  exact ⟨by rw [h.sync]; exact Nat.le_refl _, by rw [h.ilog, h.isnap, h.room]; have := h.few; omega, by rw [h.room]; omega, by have := h.left'; omega, h.odd, by have := h.done; omega⟩
theorem spend_more {s : DS} (h : 2 ≤ s.left) : s.spend = { s with left := s.left - 1, done := s.done + 1 } := by unfold DS.spend; rw [if_neg (by omega)]
theorem spend_last {s : DS} (h : s.left = 1) : s.spend = { s with left := 0, dead := true } := by unfold DS.spend; rw [if_pos h]

theorem Up.jadd {s : DS} {K : List (List UInt8)} {sn : List UInt8} {D : Nat} (h : Up s K sn D) (hK : K.length < 30) (b : List UInt8) (hb : b.length ≤ 200) :
    (s.jadd b).2 = 0 ∧ Up (s.jadd b).1 (K ++ [b]) sn (D + 2) ∨ (s.jadd b).2 = 18 ∧ Down (s.jadd b).1 K sn b false ∧ Frm (s.jadd b).1 K sn (D + 2) := by
  have hl := kept_len h.all h.len
  have hfl := frame_length b
  have hfew := h.few
  have hdn := h.done
  have hroom : ¬ s.room < s.log.length + s.snap.length + (frame b).length := by rw [h.room, h.ilog, h.isnap]; omega
  have hall : ∀ x ∈ K ++ [b], x.length ≤ 200 := by
    intro x hx
    rcases List.mem_append.1 hx with hx | hx
    · exact h.all x hx
    · simp at hx; subst hx; exact hb
  have ha : s.append (frame b) = ({ s.spend with log := s.log ++ frame b }, if s.left = 1 then 18 else 0) := by
    unfold DS.append
    rw [if_neg (by rw [h.dead]; simp), if_neg hroom]
  unfold DS.jadd
  by_cases h1 : s.left = 1
  · rw [ha, if_pos h1]
    simp only
    rw [if_pos (by omega), spend_last h1]
    exact .inr ⟨rfl, ⟨rfl, hb, .inl ⟨rfl, by simp only [h.ilog], by simp only [h.sync, h.ilog], h.isnap⟩⟩, ⟨by simp, h.odd, h.room, by simp only; omega, h.some, h.few, h.all, h.len⟩⟩
  have h2 : 2 ≤ s.left := by have := h.left; omega
  rw [ha, if_neg h1]
  simp only
  rw [if_neg (by omega), spend_more h2]
  unfold DS.sync
  simp only
  rw [if_neg (by rw [h.dead]; simp)]
  by_cases h3 : s.left - 1 = 1
  · rw [if_pos h3, spend_last (by exact h3)]
    exact .inr ⟨rfl, ⟨rfl, hb, .inl ⟨rfl, by simp only [h.ilog], by simp only [h.sync, h.ilog], h.isnap⟩⟩, ⟨by simp, h.odd, h.room, by simp only; omega, h.some, h.few, h.all, h.len⟩⟩
  · rw [if_neg h3, spend_more (by simp only; omega)]
    exact .inl ⟨rfl, ⟨h.dead, by simp only; omega, by have := h.left'; simp only; omega, h.odd, by simp only [h.ilog, List.flatMap_append, List.flatMap_singleton], rfl, h.isnap, h.room, by simp only; omega, h.some, h.few, hall, by simp; omega⟩⟩
theorem Up.jsnap {s : DS} {K : List (List UInt8)} {sn : List UInt8} {D : Nat} (h : Up s K sn D) (b : List UInt8) (hb : b.length ≤ 200) :
    (s.jsnap b).2 = 0 ∧ Up (s.jsnap b).1 [] (frame b) (D + 2) ∨ (s.jsnap b).2 = 18 ∧ Down (s.jsnap b).1 K sn b true ∧ Frm (s.jsnap b).1 K sn (D + 2) := by
  have hfl := frame_length b
  have hdn := h.done
  have hone : (one (frame b)).2 = 0 := by rw [one_frame b (by omega)]
  unfold DS.jsnap DS.swap
  rw [if_neg (by rw [h.dead]; simp), if_neg (by rw [h.room]; omega)]
  by_cases h1 : s.left = 1
  · rw [if_pos h1, spend_last h1]
    refine .inr ⟨rfl, ?_, ?_⟩
    · by_cases ho : s.odd = 0
      · rw [if_pos (.inr ho)]
        exact ⟨rfl, hb, .inr (.inl ⟨rfl, rfl, rfl, rfl⟩)⟩
      · rw [if_neg (by rintro (h | h); exact h h1; exact ho h)]
        exact ⟨rfl, hb, .inr (.inr ⟨rfl, h.ilog, h.sync, h.isnap⟩)⟩
    · split
      · exact ⟨by simp, h.odd, h.room, by simp only; omega, h.some, h.few, h.all, h.len⟩
      · exact ⟨by simp, h.odd, h.room, by simp only; omega, h.some, h.few, h.all, h.len⟩
  · have h2 : 2 ≤ s.left := by have := h.left; omega
    rw [if_neg h1, if_pos (.inl h1), spend_more h2]
    exact .inl ⟨rfl, ⟨h.dead, by simp only; omega, by have := h.left'; simp only; omega, h.odd, rfl, rfl, rfl, h.room, by simp only; omega, .inr hone, by omega, by simp, by simp⟩⟩

theorem Down.ok {s : DS} {K : List (List UInt8)} {sn m : List UInt8} {sw : Bool} {D : Nat} (h : Down s K sn m sw) (f : Frm s K sn D) (hD : D ≤ 999990) : s.ok := by
  obtain ⟨hd, hm, h⟩ := h
  have hl := kept_len f.all f.len
  have hfl := frame_length m
  have hfew := f.few
  have hroom := f.room
  have hdn := f.done
  have hle := f.left'
  rcases h with ⟨rfl, h1, h2, h3⟩ | ⟨rfl, h1, h2, h3⟩ | ⟨rfl, h1, h2, h3⟩
  · exact ⟨by rw [h1, h2, List.length_append]; omega, by rw [h1, h3, hroom, List.length_append]; omega, by omega, by omega, f.odd, by omega⟩
  · exact ⟨by omega, by rw [h1, h3, hroom]; simp; omega, by omega, by omega, f.odd, by omega⟩
  · exact ⟨by omega, by rw [h1, h3, hroom]; omega, by omega, by omega, f.odd, by omega⟩

/-- What is found when it is opened anew. -/
def Found (K : List (List UInt8)) (p m : List UInt8) (sw dead : Bool) (p' : List UInt8) (L' : List (List UInt8)) : Prop :=
  (p' = p ∧ L' = K) ∨ (p' = p ∧ L' = K ++ [m] ∧ dead = true ∧ sw = false) ∨ (dead = true ∧ sw = true ∧ p' = m ∧ L' = [])
theorem crash_well {s : DS} {K : List (List UInt8)} {sn : List UInt8} {D : Nat} (f : Frm s K sn D) (pick : Int) (hs : s.synced ≤ s.log.length) :
    Well ((s.stop 0).crash pick) (s.log.take (s.synced + (s.stop 0).keeps pick)) s.snap 1048576 D ∧ (s.stop 0).keeps pick ≤ s.log.length - s.synced := by
  have hk := (s.stop 0).keeps_le pick
  refine ⟨⟨rfl, rfl, rfl, rfl, f.room, f.done, by simp [DS.crash], ?_⟩, hk⟩
  simp only [DS.crash, DS.stop, List.length_take] at hk ⊢
  omega
theorem Up.found {s : DS} {K : List (List UInt8)} {sn : List UInt8} {D : Nat} (h : Up s K sn D) (pick : Int) :
    ∃ s2, ((s.stop 0).crash pick).opens = (s2, 0, said sn, K) := by
  obtain ⟨hw, hk⟩ := crash_well h.frm pick (by rw [h.sync]; exact Nat.le_refl _)
  rw [h.isnap, List.take_of_length_le (by have := h.sync; omega), h.ilog] at hw
  obtain ⟨s2, h1, _⟩ := Well.reopens (L := K) (t := []) (by rw [List.append_nil]; exact hw) h.some (fun b hb => by have := h.all b hb; omega) (by rw [scan_nil])
  exact ⟨s2, h1⟩
theorem Down.found {s : DS} {K : List (List UInt8)} {sn m : List UInt8} {sw : Bool} {D : Nat} (h : Down s K sn m sw) (f : Frm s K sn D) (pick : Int) :
    ∃ s2 p' L', ((s.stop 0).crash pick).opens = (s2, 0, p', L') ∧ Found K (said sn) m sw true p' L' ∧ L'.length ≤ 31 := by
  obtain ⟨hd, hm, h⟩ := h
  have hK : ∀ b ∈ K, b.length ≤ 4194304 := fun b hb => by have := f.all b hb; omega
  have hlen := f.len
  rcases h with ⟨rfl, h1, h2, h3⟩ | ⟨rfl, h1, h2, h3⟩ | ⟨rfl, h1, h2, h3⟩
  · obtain ⟨hw, hk⟩ := crash_well f pick (by rw [h1, h2, List.length_append]; omega)
    rw [h3, h1, h2, List.take_append, List.take_of_length_le (by omega), show (K.flatMap frame).length + (s.stop 0).keeps pick - (K.flatMap frame).length = (s.stop 0).keeps pick by omega] at hw
    generalize (s.stop 0).keeps pick = n at *
    by_cases hn : n < (frame m).length
    · obtain ⟨s2, h4, _⟩ := hw.reopens f.some hK (by rw [scan_none (frameAt_cut m (by omega) n hn)])
      exact ⟨s2, _, _, h4, .inl ⟨rfl, rfl⟩, by omega⟩
    · rw [List.take_of_length_le (by omega)] at hw
      obtain ⟨s2, h4, _⟩ := Well.reopens (L := K ++ [m]) (t := []) (by rw [List.append_nil, List.flatMap_append, List.flatMap_singleton]; exact hw) f.some (fun b hb => by rcases List.mem_append.1 hb with hb | hb; exact hK b hb; simp at hb; subst hb; omega) (by rw [scan_nil])
      exact ⟨s2, _, _, h4, .inr (.inl ⟨rfl, rfl, rfl, rfl⟩), by simp; omega⟩
  · obtain ⟨hw, hk⟩ := crash_well f pick (by omega)
    rw [h3, h1, List.take_nil] at hw
    obtain ⟨s2, h4, _⟩ := Well.reopens (L := []) (t := []) hw (.inr (by rw [one_frame m (by omega)])) (by simp) (by rw [scan_nil])
    rw [said_frame m (by omega)] at h4
    exact ⟨s2, _, _, h4, .inr (.inr ⟨rfl, rfl, rfl, rfl⟩), by simp⟩
  · obtain ⟨hw, hk⟩ := crash_well f pick (by omega)
    rw [h3, List.take_of_length_le (by omega), h1] at hw
    obtain ⟨s2, h4, _⟩ := Well.reopens (L := K) (t := []) (by rw [List.append_nil]; exact hw) f.some hK (by rw [scan_nil])
    exact ⟨s2, _, _, h4, .inl ⟨rfl, rfl⟩, by omega⟩
end Go.Esc
