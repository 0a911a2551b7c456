/- A disk whose power does not go, and a journal on it, plainly. -/
import Derived.Test.YtpljcnjkdjblmaaJoA
namespace Go.Esc
theorem new_opens (room : Nat) : (DS.new room).opens = (DS.new room, 0, [], []) := by
  have h : frScan [] = ([], 0) := frScan_none (by unfold frameAt; rw [if_neg (by simp)])
  unfold DS.opens
  rw [if_neg (by simp [DS.new]), if_neg (by simp [DS.new])]
  simp [DS.new, h]

/-- A disk with this log and this snapshot, of at most D operations, whose power will not go. -/
structure Well (s : DS) (log snap : List UInt8) (room D : Nat) : Prop where
  dead : s.dead = false
  left : s.left = 0
  ilog : s.log = log
  isnap : s.snap = snap
  iroom : s.room = room
  done : s.done ≤ D
  odd : s.odd ≤ 1
  sync : s.synced ≤ log.length
theorem Well.ok {s : DS} {log snap : List UInt8} {room D : Nat} (h : Well s log snap room D) (hf : log.length + snap.length ≤ room) (hr : room ≤ 16777216) (hD : D ≤ 999990) : s.ok :=
  ⟨by rw [h.ilog]; exact h.sync, by rw [h.ilog, h.isnap, h.iroom]; exact hf, by rw [h.iroom]; exact hr, by rw [h.left]; omega, h.odd, by have := h.done; omega⟩
theorem Well.new (room : Nat) : Well (DS.new room) [] [] room 0 := ⟨rfl, rfl, rfl, rfl, rfl, Nat.le_refl _, by simp [DS.new], by simp [DS.new]⟩
theorem Well.more {s : DS} {log snap : List UInt8} {room D D' : Nat} (h : Well s log snap room D) (hD : D ≤ D') : Well s log snap room D' :=
  ⟨h.dead, h.left, h.ilog, h.isnap, h.iroom, Nat.le_trans h.done hD, h.odd, h.sync⟩
theorem Well.append {s : DS} {log snap : List UInt8} {room D : Nat} (h : Well s log snap room D) (b : List UInt8) (hf : log.length + snap.length + b.length ≤ room) :
    (s.append b).2 = 0 ∧ Well (s.append b).1 (log ++ b) snap room (D + 1) := by
  rw [DS.append_live h.dead h.left b (by rw [h.ilog, h.isnap, h.iroom]; exact hf)]
  exact ⟨rfl, h.dead, h.left, by simp only [h.ilog], h.isnap, h.iroom, by have := h.done; simp only; omega, h.odd, by have := h.sync; simp only [List.length_append]; omega⟩
theorem Well.jadd {s : DS} {log snap : List UInt8} {room D : Nat} (h : Well s log snap room D) (b : List UInt8) (hf : log.length + snap.length + (b.length + 8) ≤ room) :
    (s.jadd b).2 = 0 ∧ Well (s.jadd b).1 (log ++ frame b) snap room (D + 2) := by
  obtain ⟨h1, h2⟩ := h.append (frame b) (by rw [frame_length]; exact hf)
  unfold DS.jadd
  rw [if_neg (by omega), DS.sync_live h2.dead h2.left]
  exact ⟨rfl, h2.dead, h2.left, h2.ilog, h2.isnap, h2.iroom, by have := h2.done; simp only; omega, h2.odd, by simp only [h2.ilog]; exact Nat.le_refl _⟩
theorem Well.jsnap {s : DS} {log snap : List UInt8} {room D : Nat} (h : Well s log snap room D) (b : List UInt8) (hf : b.length + 8 ≤ room) :
    (s.jsnap b).2 = 0 ∧ Well (s.jsnap b).1 [] (frame b) room (D + 1) := by
  unfold DS.jsnap
  rw [DS.swap_live h.dead h.left (frame b) (by rw [h.iroom, frame_length]; exact hf)]
  exact ⟨rfl, h.dead, h.left, rfl, rfl, h.iroom, by have := h.done; simp only; omega, h.odd, by simp⟩
/-- What a snapshot's bytes say. -/
def said (snap : List UInt8) : List UInt8 := if snap = [] then [] else (one snap).1
theorem Well.opens {s : DS} {log snap : List UInt8} {room D : Nat} (h : Well s log snap room D) (ho : snap = [] ∨ (one snap).2 = 0) :
    ∃ s', s.opens = (s', 0, said snap, (frScan log).1) ∧ Well s' (log.take (frScan log).2) snap room (D + 1) := by
  have hsc := (frScan_le log.length log (Nat.le_refl _)).1
  unfold DS.opens said
  rw [if_neg (by rw [h.dead]; simp), h.isnap, h.ilog, if_neg (by rcases ho with ho | ho; exact fun hh => hh.1 ho; exact fun hh => hh.2 ho)]
  by_cases hc : (frScan log).2 < log.length
  · rw [if_pos hc, DS.cut_live h.dead h.left (frScan log).2 (by rw [h.ilog]; exact hsc)]
    exact ⟨_, rfl, h.dead, h.left, by simp only [h.ilog], h.isnap, h.iroom, by have := h.done; simp only; omega, h.odd, by simp only [List.length_take]; omega⟩
  · rw [if_neg hc]
    exact ⟨s, rfl, by rw [List.take_of_length_le (by omega)]; exact h.more (by omega)⟩
/-- .. where the log holds frames and what is none. -/
theorem Well.reopens {s : DS} {snap : List UInt8} {L : List (List UInt8)} {t : List UInt8} {room D : Nat} (h : Well s (L.flatMap frame ++ t) snap room D) (ho : snap = [] ∨ (one snap).2 = 0) (hL : ∀ b ∈ L, b.length ≤ 4194304) (ht : (frScan t).1 = []) :
    ∃ s', s.opens = (s', 0, said snap, L) ∧ Well s' (L.flatMap frame) snap room (D + 1) := by
  have h2 : (frScan t).2 = 0 := by
    cases hf : frameAt t with
    | none => rw [frScan_none hf]
    | some b => rw [frScan_some hf] at ht; cases ht
  obtain ⟨s', h1, h3⟩ := h.opens ho
  rw [frScan_frames L t hL, ht, h2] at h1 h3
  simp only [List.append_nil, Nat.add_zero, List.take_left] at h1 h3
  exact ⟨s', h1, h3⟩
theorem said_frame (b : List UInt8) (h : b.length ≤ 4194304) : said (frame b) = b := by
  unfold said
  rw [if_neg (fun e => by have := frame_length b; rw [e] at this; simp at this), one_frame b h]
theorem frScan_nil : frScan [] = ([], 0) := frScan_short (by simp)
theorem flat_take {L : List (List UInt8)} {k : Nat} (h : k < L.length) : (L.take (k + 1)).flatMap frame = (L.take k).flatMap frame ++ frame L[k] := by
  rw [List.take_succ_eq_append_getElem h, List.flatMap_append, List.flatMap_singleton]
theorem flat_len {L : List (List UInt8)} {n : Nat} (h : ∀ b ∈ L, b.length ≤ n) : (L.flatMap frame).length ≤ (n + 8) * L.length := by
  induction L with
  | nil => simp
  | cons b L ih =>
    have h1 := h b (by simp)
    have h2 := ih (fun x hx => h x (by simp [hx]))
    rw [List.flatMap_cons, List.length_append, frame_length, List.length_cons, Nat.mul_succ]
    omega
end Go.Esc
