/- Writing batches, plainly: what a store's disk says while the power is there, and behind a crash. Of no program. -/
import Derived.Test.YtpljcnjkdjblmaaKvY
import Derived.Test.YtpljcnjkdjblmaaKvG
import Derived.Test.YtpljcnjkdjblmaaKD
namespace Go.Esc
set_option linter.unusedVariables false
set_option linter.unusedSimpArgs false
/-- A snapshot of all ahead of the record. -/
def wrSnap (ds : DS) (n : Nat) (W b : List UInt8) : DS × Nat × Nat :=
  if (ds.jsnap W).2 ≠ 0 then ((ds.jsnap W).1, n, (ds.jsnap W).2) else (((ds.jsnap W).1.jadd b).1, tally ((ds.jsnap W).1.jadd b).2 1 0, ((ds.jsnap W).1.jadd b).2)
/-- The record; where there is no room for it, or where there are enough, a snapshot ahead of it. -/
def wrAll (ds : DS) (n : Nat) (W b : List UInt8) : DS × Nat × Nat :=
  if n < 16 then (if (ds.jadd b).2 ≠ 17 ∨ n = 0 then ((ds.jadd b).1, tally (ds.jadd b).2 (n + 1) n, (ds.jadd b).2) else wrSnap (ds.jadd b).1 n W b) else wrSnap ds n W b
def chOf (c : Int) (r : PairR) : ChangeR := ⟨c, r.key, r.val, false⟩
/-- All of a store, as a batch. -/
def wholeX (X : KvX) : List ChangeR := X.r0.map (chOf 0) ++ X.r1.map (chOf 1) ++ X.r2.map (chOf 2)
theorem insRow_last (r : PairR) (c : Int) : ∀ l : List PairR, (∀ a ∈ l, Op.bytesLess a.key r.key = true) → insRow (chOf c r) l = l ++ [r]
  | [], _ => rfl
  | a :: l, h => by
    unfold insRow
    rw [if_pos (show Op.bytesLess a.key (chOf c r).key = true from h a (by simp)), insRow_last r c l (fun x hx => h x (List.mem_cons_of_mem _ hx))]
    rfl
theorem rowPut_last (r : PairR) (c : Int) (l k : List PairR) (h : Rising (l ++ r :: k)) : rowPut l (chOf c r) = l ++ [r] := by
  rw [rowPut_eq]
  exact insRow_last r c l (fun a ha => (List.pairwise_append.1 h).2.2 a ha r (by simp))
theorem puts_r0 : ∀ (l : List PairR) (X : KvX), Rising (X.r0 ++ l) → X.puts (l.map (chOf 0)) = { X with r0 := X.r0 ++ l }
  | [], X, _ => by simp [KvX.puts]
  | r :: l, X, h => by
    have e : X.put (chOf 0 r) = { X with r0 := X.r0 ++ [r] } := by
      unfold KvX.put
      rw [if_pos (show (chOf 0 r).coll = 0 from rfl), rowPut_last r 0 X.r0 l h]
    show (X.put (chOf 0 r)).puts (l.map (chOf 0)) = _
    rw [e, puts_r0 l { X with r0 := X.r0 ++ [r] } (by simpa using h)]
    simp
theorem puts_r1 : ∀ (l : List PairR) (X : KvX), Rising (X.r1 ++ l) → X.puts (l.map (chOf 1)) = { X with r1 := X.r1 ++ l }
  | [], X, _ => by simp [KvX.puts]
  | r :: l, X, h => by
    have e : X.put (chOf 1 r) = { X with r1 := X.r1 ++ [r] } := by
      unfold KvX.put
      rw [if_neg (by simp [chOf]), if_pos (show (chOf 1 r).coll = 1 from rfl), rowPut_last r 1 X.r1 l h]
    show (X.put (chOf 1 r)).puts (l.map (chOf 1)) = _
    rw [e, puts_r1 l { X with r1 := X.r1 ++ [r] } (by simpa using h)]
    simp
theorem puts_r2 : ∀ (l : List PairR) (X : KvX), Rising (X.r2 ++ l) → X.puts (l.map (chOf 2)) = { X with r2 := X.r2 ++ l }
  | [], X, _ => by simp [KvX.puts]
  | r :: l, X, h => by
    have e : X.put (chOf 2 r) = { X with r2 := X.r2 ++ [r] } := by
      unfold KvX.put
      rw [if_neg (by simp [chOf]), if_neg (by simp [chOf]), rowPut_last r 2 X.r2 l h]
    show (X.put (chOf 2 r)).puts (l.map (chOf 2)) = _
    rw [e, puts_r2 l { X with r2 := X.r2 ++ [r] } (by simpa using h)]
    simp
/-- Three rows in order, of pairs that may be. -/
structure KvX.Good (X : KvX) : Prop where
  rise : ∀ c : Int, c = 0 ∨ c = 1 ∨ c = 2 → Rising (X.row c)
  ok : ∀ (c : Int) (r : PairR), c = 0 ∨ c = 1 ∨ c = 2 → r ∈ X.row c → chErr (chOf c r) = 0
theorem KvX.Good.nil : KvX.nil.Good := by
  have hrow : ∀ c, KvX.nil.row c = [] := fun c => by unfold KvX.row KvX.nil; simp
  exact ⟨(fun c _ => by rw [hrow]; exact List.Pairwise.nil), (fun c r _ h => by rw [hrow] at h; cases h)⟩
theorem chErr_coll {c : ChangeR} (h : chErr c = 0) : c.coll = 0 ∨ c.coll = 1 ∨ c.coll = 2 := by
  have := (chErr_ok h).1
  omega
theorem KvX.Good.put {X : KvX} (h : X.Good) (c : ChangeR) (hc : chErr c = 0) : (X.put c).Good := by
  have hcc := chErr_coll hc
  refine ⟨fun k hk => ?_, fun k r hk hr => ?_⟩
  · rw [X.row_put c hcc k hk]
    split
    · rw [rowPut_eq]; exact insRow_rising (h.rise k hk) c
    · exact h.rise k hk
  · rw [X.row_put c hcc k hk] at hr
    split at hr
    · rename_i he
      rw [rowPut_eq, insRow_mem (h.rise k hk)] at hr
      rcases hr with ⟨hd, rfl⟩ | ⟨hr, _⟩
      · have : chOf k ⟨c.key, c.val⟩ = c := by obtain ⟨a, b, d, e⟩ := c; simp only at hd he; subst hd; subst he; rfl
        rw [this]; exact hc
      · exact h.ok k r hk hr
    · exact h.ok k r hk hr
theorem KvX.Good.puts {X : KvX} (h : X.Good) (l : List ChangeR) (hl : ∀ c ∈ l, chErr c = 0) : (X.puts l).Good := by
  induction l generalizing X with
  | nil => exact h
  | cons c l ih => exact ih (h.put c (hl c (by simp))) (fun d hd => hl d (List.mem_cons_of_mem _ hd))
theorem KvX.Good.whole {X : KvX} (h : X.Good) : KvX.nil.puts (wholeX X) = X := by
  have h0 : Rising X.r0 := h.rise 0 (by simp)
  have h1 : Rising X.r1 := h.rise 1 (by simp)
  have h2 : Rising X.r2 := h.rise 2 (by simp)
  have e : ∀ (Y : KvX) (a b : List ChangeR), Y.puts (a ++ b) = (Y.puts a).puts b := fun Y a b => List.foldl_append ..
  unfold wholeX
  rw [e, e, puts_r0 _ _ (by exact h0), puts_r1 _ _ (by exact h1), puts_r2 _ _ (by exact h2)]
  rfl
theorem KvX.Good.wok {X : KvX} (h : X.Good) : ∀ c ∈ wholeX X, chErr c = 0 := by
  intro c hc
  unfold wholeX at hc
  rw [List.mem_append, List.mem_append] at hc
  rcases hc with (hc | hc) | hc <;> obtain ⟨r, hr, rfl⟩ := List.mem_map.1 hc
  · exact h.ok 0 r (by simp) hr
  · exact h.ok 1 r (by simp) hr
  · exact h.ok 2 r (by simp) hr
theorem wholeX_len (X : KvX) : (wholeX X).length = X.len := by unfold wholeX KvX.len; simp; omega
/-- What a batch is refused for, by the rows. -/
def xErr (X : KvX) (l : List ChangeR) : Nat := if 20 < l.length then 4 else if firstErr l ≠ 0 then firstErr l else if 300 < (X.puts l).len then 4 else 0
theorem kvErr_eq {m : KvM} {X : KvX} (h : Tells m X) (l : List ChangeR) : kvErr m l = xErr X l := by
  unfold kvErr xErr
  split
  · rfl
  split
  · rfl
  · rename_i h2
    have h0 : firstErr l = 0 := Classical.not_not.1 h2
    rw [(h.puts l (fun c hc => chErr_coll ((firstErr_zero l).1 h0 c hc))).len]
theorem xErr_ok {X : KvX} {l : List ChangeR} (h : xErr X l = 0) : l.length ≤ 20 ∧ (∀ c ∈ l, chErr c = 0) ∧ (X.puts l).len ≤ 300 := by
  unfold xErr at h
  split at h
  · cases h
  split at h
  · rename_i h2; exact absurd h h2
  split at h
  · cases h
  · rename_i h1 h2 h3
    exact ⟨by omega, (firstErr_zero l).1 (Classical.not_not.1 h2), by omega⟩
/-- A batch's bytes. -/
theorem ch_len {c : ChangeR} (h : chErr c = 0) : (chEnc c).length ≤ 120 := by
  obtain ⟨h1, h2, h3, h4⟩ := chErr_ok h
  have a := ((textOk_iff _).1 h2).1
  have b := ((textOk_iff _).1 h4).1
  have e1 := (encI_length c.coll ⟨by omega, by omega⟩).1
  have e2 := (encI_length (if c.del = true then 1 else 0) (by split <;> exact ⟨by omega, by omega⟩)).1
  have e3 := (encI_length c.key.length ⟨by omega, by omega⟩).1
  have e4 := (encI_length c.val.length ⟨by omega, by omega⟩).1
  unfold chEnc encT
  simp only [List.length_append]
  omega
theorem chs_len (l : List ChangeR) (h : ∀ c ∈ l, chErr c = 0) : (l.flatMap chEnc).length ≤ 120 * l.length := by
  induction l with
  | nil => simp
  | cons c l ih =>
    have h1 := ch_len (h c (by simp))
    have h2 := ih (fun d hd => h d (List.mem_cons_of_mem _ hd))
    rw [List.flatMap_cons, List.length_append, List.length_cons]
    omega
theorem batch_len (l : List ChangeR) (h : ∀ c ∈ l, chErr c = 0) (hl : l.length ≤ 1000) : (kvEnc l).length ≤ 10 + 120 * l.length := by
  have h1 := (encI_length l.length ⟨by omega, by omega⟩).1
  have h2 := chs_len l h
  unfold kvEnc
  rw [List.length_append]
  omega
/-- Records as bytes. -/
def kvLog (Ls : List (List ChangeR)) : List UInt8 := (Ls.map kvEnc).flatMap frame
theorem kvLog_len (Ls : List (List ChangeR)) (h : ∀ l ∈ Ls, l.length ≤ 20 ∧ ∀ c ∈ l, chErr c = 0) : (kvLog Ls).length ≤ 2418 * Ls.length := by
  have := flat_len (L := Ls.map kvEnc) (n := 2410) (fun b hb => by
    obtain ⟨l, hl, rfl⟩ := List.mem_map.1 hb
    have := batch_len l (h l hl).2 (by have := (h l hl).1; omega)
    have := (h l hl).1
    omega)
  rw [List.length_map] at this
  exact this
theorem kvLog_snoc (Ls : List (List ChangeR)) (l : List ChangeR) : kvLog (Ls ++ [l]) = kvLog Ls ++ frame (kvEnc l) := by
  unfold kvLog
  rw [List.map_append, List.flatMap_append]
  simp
/-- A snapshot B, records Ls behind it: together they say X. -/
structure KpS (s : DS) (X : KvX) (room D : Nat) (B : List ChangeR) (Ls : List (List ChangeR)) : Prop where
  odd : s.odd ≤ 1
  rm : s.room = room
  done : s.done ≤ D
  snap : (s.snap = [] ∧ B = []) ∨ s.snap = frame (kvEnc B)
  says : X = Ls.foldl KvX.puts (KvX.nil.puts B)
  bok : ∀ c ∈ B, chErr c = 0
  blen : B.length ≤ 300
  lok : ∀ l ∈ Ls, l.length ≤ 20 ∧ ∀ c ∈ l, chErr c = 0
  few : Ls.length ≤ 16
  fits : s.log.length + s.snap.length ≤ room
/-- .. while the power is there. -/
structure KpAt (s : DS) (X : KvX) (room Lf D : Nat) (B : List ChangeR) (Ls : List (List ChangeR)) : Prop extends KpS s X room D B Ls where
  dead : s.dead = false
  left : s.left ≤ Lf
  log : s.log = kvLog Ls
  sync : s.synced = s.log.length
/-- .. where it went while l was being laid. -/
def Dn (s : DS) (X : KvX) (l : List ChangeR) (room D : Nat) : Prop :=
  s.dead = true ∧ s.left = 0 ∧ (l.length ≤ 20 ∧ ∀ c ∈ l, chErr c = 0) ∧ ∃ B Ls, KpS s X room D B Ls ∧ ((s.log = kvLog Ls ∧ s.synced = s.log.length) ∨ (s.log = kvLog Ls ++ frame (kvEnc l) ∧ s.synced = (kvLog Ls).length ∧ Ls.length < 16))
def Kp (s : DS) (X : KvX) (n room Lf D : Nat) : Prop := ∃ B Ls, KpAt s X room Lf D B Ls ∧ n = Ls.length
theorem KpS.slen {s : DS} {X : KvX} {room D : Nat} {B : List ChangeR} {Ls : List (List ChangeR)} (h : KpS s X room D B Ls) : s.snap.length ≤ 36018 := by
  rcases h.snap with ⟨e, _⟩ | e
  · rw [e]; simp
  · rw [e, frame_length]
    have := batch_len B h.bok (by have := h.blen; omega)
    have := h.blen
    omega
theorem Kp.ok {s : DS} {X : KvX} {n room Lf D : Nat} (h : Kp s X n room Lf D) (hr : room ≤ 16777216) (hL : Lf ≤ 100) (hD : D ≤ 999990) : s.ok := by
  obtain ⟨B, Ls, h, _⟩ := h
  exact ⟨by rw [h.sync]; exact Nat.le_refl _, by rw [h.rm]; exact h.fits, by rw [h.rm]; exact hr, by have := h.left; omega, h.odd, by have := h.done; omega⟩
theorem Dn.ok {s : DS} {X : KvX} {l : List ChangeR} {room D : Nat} (h : Dn s X l room D) (hr : room ≤ 16777216) (hD : D ≤ 999990) : s.ok := by
  obtain ⟨_, hl, _, B, Ls, h, hlog⟩ := h
  refine ⟨?_, by rw [h.rm]; exact h.fits, by rw [h.rm]; exact hr, by omega, h.odd, by have := h.done; omega⟩
  rcases hlog with ⟨_, e⟩ | ⟨e1, e2, _⟩
  · rw [e]; exact Nat.le_refl _
  · rw [e1, e2, List.length_append]; omega
theorem Kp.more {s : DS} {X : KvX} {n room Lf D D' : Nat} (h : Kp s X n room Lf D) (hD : D ≤ D') : Kp s X n room Lf D' := by
  obtain ⟨B, Ls, h, hn⟩ := h
  exact ⟨B, Ls, ⟨⟨h.odd, h.rm, Nat.le_trans h.done hD, h.snap, h.says, h.bok, h.blen, h.lok, h.few, h.fits⟩, h.dead, h.left, h.log, h.sync⟩, hn⟩
theorem KpS.says' {s : DS} {X : KvX} {room D : Nat} {B : List ChangeR} {Ls : List (List ChangeR)} (h : KpS s X room D B Ls) (l : List ChangeR) : X.puts l = (Ls ++ [l]).foldl KvX.puts (KvX.nil.puts B) := by
  rw [List.foldl_append, ← h.says]; rfl
theorem spend_live {s : DS} (h : s.left ≠ 1) : s.spend = { s with left := s.left - 1, done := s.done + 1 } := by unfold DS.spend; rw [if_neg h]
theorem spend_gone {s : DS} (h : s.left = 1) : s.spend = { s with left := 0, dead := true } := by unfold DS.spend; rw [if_pos h]
theorem KpAt.jadd {s : DS} {X : KvX} {room Lf D : Nat} {B : List ChangeR} {Ls : List (List ChangeR)} (h : KpAt s X room Lf D B Ls) (hn : Ls.length < 16) (l : List ChangeR) (hl : l.length ≤ 20 ∧ ∀ c ∈ l, chErr c = 0) :
    ((s.jadd (kvEnc l)).2 = 0 ∧ KpAt (s.jadd (kvEnc l)).1 (X.puts l) room Lf (D + 2) B (Ls ++ [l])) ∨
    ((s.jadd (kvEnc l)).2 = 17 ∧ room < 120000 ∧ (s.jadd (kvEnc l)).1 = s) ∨
    ((s.jadd (kvEnc l)).2 = 18 ∧ 1 ≤ Lf ∧ Dn (s.jadd (kvEnc l)).1 X l room (D + 2)) := by
  have hb := batch_len l hl.2 (by omega)
  have hfl := frame_length (kvEnc l)
  have hlog := kvLog_len Ls h.lok
  have hsn := h.slen
  have hdn := h.done
  have hle := h.left
  have hfew := h.few
  by_cases hroom : s.room < s.log.length + s.snap.length + (frame (kvEnc l)).length
  · have ha : s.append (frame (kvEnc l)) = (s, 17) := by unfold DS.append; rw [if_neg (by rw [h.dead]; simp), if_pos hroom]
    have hj : s.jadd (kvEnc l) = (s, 17) := by unfold DS.jadd; rw [ha, if_pos (by simp)]
    rw [hj]
    refine .inr (.inl ⟨rfl, ?_, rfl⟩)
    rw [h.rm, h.log] at hroom
    omega
  have ha : s.append (frame (kvEnc l)) = ({ s.spend with log := s.log ++ frame (kvEnc l) }, if s.left = 1 then 18 else 0) := by
    unfold DS.append
    rw [if_neg (by rw [h.dead]; simp), if_neg hroom]
  have hfit : (s.log ++ frame (kvEnc l)).length + s.snap.length ≤ room := by rw [List.length_append]; have := h.rm; omega
  unfold DS.jadd
  rw [ha]
  by_cases h1 : s.left = 1
  · rw [if_pos h1]
    simp only
    rw [if_pos (by omega), spend_gone h1]
    refine .inr (.inr ⟨rfl, by omega, rfl, rfl, hl, B, Ls, ⟨h.odd, h.rm, by simp only; omega, h.snap, h.says, h.bok, h.blen, h.lok, h.few, hfit⟩, .inr ⟨by simp only [h.log], by simp only [h.sync, h.log], hn⟩⟩)
  rw [if_neg h1]
  simp only
  rw [if_neg (by omega), spend_live h1]
  unfold DS.sync
  simp only
  rw [if_neg (by rw [h.dead]; simp)]
  by_cases h3 : s.left - 1 = 1
  · rw [if_pos h3, spend_gone (by exact h3)]
    refine .inr (.inr ⟨rfl, by omega, rfl, rfl, hl, B, Ls, ⟨h.odd, h.rm, by simp only; omega, h.snap, h.says, h.bok, h.blen, h.lok, h.few, hfit⟩, .inr ⟨by simp only [h.log], by simp only [h.sync, h.log], hn⟩⟩)
  · rw [if_neg h3, spend_live (by exact h3)]
    have hlok : ∀ k ∈ Ls ++ [l], k.length ≤ 20 ∧ ∀ c ∈ k, chErr c = 0 := by
      intro k hk
      rcases List.mem_append.1 hk with hk | hk
      · exact h.lok k hk
      · rw [List.mem_singleton] at hk; rw [hk]; exact hl
    exact .inl ⟨rfl, ⟨h.odd, h.rm, by simp only; omega, h.snap, h.says' l, h.bok, h.blen, hlok, by simp; omega, hfit⟩, h.dead, by simp only; omega, by simp only [h.log, kvLog_snoc], rfl⟩
theorem KpAt.jsnap {s : DS} {X : KvX} {room Lf D : Nat} {B : List ChangeR} {Ls : List (List ChangeR)} (h : KpAt s X room Lf D B Ls) (hX : X.Good) (hXl : X.len ≤ 300) (l : List ChangeR) (hl : l.length ≤ 20 ∧ ∀ c ∈ l, chErr c = 0) :
    ((s.jsnap (kvEnc (wholeX X))).2 = 0 ∧ KpAt (s.jsnap (kvEnc (wholeX X))).1 X room Lf (D + 1) (wholeX X) []) ∨
    ((s.jsnap (kvEnc (wholeX X))).2 = 17 ∧ room < 120000 ∧ (s.jsnap (kvEnc (wholeX X))).1 = s) ∨
    ((s.jsnap (kvEnc (wholeX X))).2 = 18 ∧ 1 ≤ Lf ∧ Dn (s.jsnap (kvEnc (wholeX X))).1 X l room (D + 1)) := by
  have hwl := wholeX_len X
  have hb := batch_len (wholeX X) hX.wok (by omega)
  have hfl := frame_length (kvEnc (wholeX X))
  have hdn := h.done
  have hle := h.left
  have hS : ∀ s' : DS, s'.odd ≤ 1 → s'.room = room → s'.done ≤ D + 1 → s'.snap = frame (kvEnc (wholeX X)) → s'.log = [] → (frame (kvEnc (wholeX X))).length ≤ room → KpS s' X room (D + 1) (wholeX X) [] := fun s' h1 h2 h3 h4 h5 h6 =>
    ⟨h1, h2, h3, .inr h4, by rw [List.foldl_nil, hX.whole], hX.wok, by omega, by simp, by simp, by rw [h4, h5]; simpa using h6⟩
  unfold DS.jsnap DS.swap
  rw [if_neg (by rw [h.dead]; simp)]
  by_cases hroom : s.room < (frame (kvEnc (wholeX X))).length
  · rw [if_pos hroom]
    exact .inr (.inl ⟨rfl, by rw [h.rm] at hroom; omega, rfl⟩)
  rw [if_neg hroom]
  have hrm := h.rm
  by_cases h1 : s.left = 1
  · rw [if_pos h1, spend_gone h1]
    refine .inr (.inr ⟨rfl, by omega, ?_⟩)
    by_cases ho : s.odd = 0
    · rw [if_pos (.inr ho)]
      exact ⟨rfl, rfl, hl, wholeX X, [], hS _ h.odd h.rm (by simp only; omega) rfl rfl (by omega), .inl ⟨rfl, rfl⟩⟩
    · rw [if_neg (by rintro (h | h); exact h h1; exact ho h)]
      exact ⟨rfl, rfl, hl, B, Ls, ⟨h.odd, h.rm, by simp only; omega, h.snap, h.says, h.bok, h.blen, h.lok, h.few, h.fits⟩, .inl ⟨h.log, h.sync⟩⟩
  · rw [if_neg h1, if_pos (.inl h1), spend_live h1]
    exact .inl ⟨rfl, hS _ h.odd h.rm (by simp only; omega) rfl rfl (by omega), h.dead, by simp only; omega, rfl, rfl⟩
theorem KpAt.wrSnap {s : DS} {X : KvX} {room Lf D n : Nat} {B : List ChangeR} {Ls : List (List ChangeR)} (h : KpAt s X room Lf D B Ls) (hn : n = Ls.length) (hX : X.Good) (hXl : X.len ≤ 300) (l : List ChangeR) (hl : l.length ≤ 20 ∧ ∀ c ∈ l, chErr c = 0) :
    ((wrSnap s n (kvEnc (wholeX X)) (kvEnc l)).2.2 = 0 ∧ Kp (wrSnap s n (kvEnc (wholeX X)) (kvEnc l)).1 (X.puts l) (wrSnap s n (kvEnc (wholeX X)) (kvEnc l)).2.1 room Lf (D + 3)) ∨
    ((wrSnap s n (kvEnc (wholeX X)) (kvEnc l)).2.2 = 17 ∧ room < 120000 ∧ Kp (wrSnap s n (kvEnc (wholeX X)) (kvEnc l)).1 X (wrSnap s n (kvEnc (wholeX X)) (kvEnc l)).2.1 room Lf (D + 3)) ∨
    ((wrSnap s n (kvEnc (wholeX X)) (kvEnc l)).2.2 = 18 ∧ 1 ≤ Lf ∧ Dn (wrSnap s n (kvEnc (wholeX X)) (kvEnc l)).1 X l room (D + 3)) := by
  have dnMore : ∀ {s' : DS} {D' : Nat}, Dn s' X l room D' → D' ≤ D + 3 → Dn s' X l room (D + 3) := by
    rintro s' D' ⟨a, b, c, B', Ls', k, e⟩ hD
    exact ⟨a, b, c, B', Ls', ⟨k.odd, k.rm, Nat.le_trans k.done hD, k.snap, k.says, k.bok, k.blen, k.lok, k.few, k.fits⟩, e⟩
  unfold Esc.wrSnap
  rcases h.jsnap hX hXl l hl with ⟨e, h1⟩ | ⟨e, hr, e2⟩ | ⟨e, hL, hd⟩
  · rw [if_neg (by omega)]
    rcases h1.jadd (by simp) l hl with ⟨f, h2⟩ | ⟨f, hr, f2⟩ | ⟨f, hL, hd⟩
    · simp only [f]
      exact .inl ⟨trivial, Kp.more ⟨_, _, h2, rfl⟩ (by omega)⟩
    · simp only [f, f2]
      exact .inr (.inl ⟨trivial, hr, Kp.more ⟨_, _, h1, rfl⟩ (by omega)⟩)
    · simp only [f]
      exact .inr (.inr ⟨trivial, hL, dnMore hd (by omega)⟩)
  · rw [if_pos (by omega)]
    simp only [e, e2]
    exact .inr (.inl ⟨trivial, hr, Kp.more ⟨_, _, h, hn⟩ (by omega)⟩)
  · rw [if_pos (by omega)]
    simp only [e]
    exact .inr (.inr ⟨trivial, hL, dnMore hd (by omega)⟩)
/-- A batch is written: it is done, or there is no room, or the power went. -/
theorem Kp.wrAll {s : DS} {X : KvX} {room Lf D n : Nat} (h : Kp s X n room Lf D) (hX : X.Good) (hXl : X.len ≤ 300) (l : List ChangeR) (hl : l.length ≤ 20 ∧ ∀ c ∈ l, chErr c = 0) :
    ((wrAll s n (kvEnc (wholeX X)) (kvEnc l)).2.2 = 0 ∧ Kp (wrAll s n (kvEnc (wholeX X)) (kvEnc l)).1 (X.puts l) (wrAll s n (kvEnc (wholeX X)) (kvEnc l)).2.1 room Lf (D + 3)) ∨
    ((wrAll s n (kvEnc (wholeX X)) (kvEnc l)).2.2 = 17 ∧ room < 120000 ∧ Kp (wrAll s n (kvEnc (wholeX X)) (kvEnc l)).1 X (wrAll s n (kvEnc (wholeX X)) (kvEnc l)).2.1 room Lf (D + 3)) ∨
    ((wrAll s n (kvEnc (wholeX X)) (kvEnc l)).2.2 = 18 ∧ 1 ≤ Lf ∧ Dn (wrAll s n (kvEnc (wholeX X)) (kvEnc l)).1 X l room (D + 3)) := by
  obtain ⟨B, Ls, h, hn⟩ := h
  unfold Esc.wrAll
  by_cases h16 : n < 16
  · rw [if_pos h16]
    rcases h.jadd (by omega) l hl with ⟨f, h2⟩ | ⟨f, hr, f2⟩ | ⟨f, hL, hd⟩
    · rw [if_pos (.inl (by omega))]
      simp only [f]
      exact .inl ⟨trivial, Kp.more ⟨_, _, h2, by rw [tally_ok]; simp; omega⟩ (by omega)⟩
    · by_cases h0 : n = 0
      · rw [if_pos (.inr h0)]
        simp only [f, f2]
        exact .inr (.inl ⟨trivial, hr, Kp.more ⟨_, _, h, by rw [tally_err (by omega)]; exact hn⟩ (by omega)⟩)
      · rw [if_neg (by rintro (q | q); exact q f; exact h0 q), f2]
        exact h.wrSnap hn hX hXl l hl
    · rw [if_pos (.inl (by omega))]
      simp only [f]
      obtain ⟨a, b, c, B', Ls', k, e⟩ := hd
      exact .inr (.inr ⟨trivial, hL, a, b, c, B', Ls', ⟨k.odd, k.rm, by have := k.done; omega, k.snap, k.says, k.bok, k.blen, k.lok, k.few, k.fits⟩, e⟩)
  · rw [if_neg h16]
    exact h.wrSnap hn hX hXl l hl
/-- What an Open finds. -/
def Opens (s : DS) (X : KvX) (room D : Nat) : Prop := ∃ s' sn B Ls, s.opens = (s', 0, sn, Ls.map kvEnc) ∧ KpAt s' X room 0 D B Ls ∧ ((sn = [] ∧ B = []) ∨ sn = kvEnc B)
theorem opens_sync {s s' : DS} {sn : List UInt8} {L : List (List UInt8)} (hd : s.dead = false) (hl : s.left = 0) (hs : s.synced = s.log.length) (ho : s.opens = (s', 0, sn, L)) : s'.synced = s'.log.length := by
  have hsc := (frScan_le s.log.length s.log (Nat.le_refl _)).1
  unfold DS.opens at ho
  rw [if_neg (by rw [hd]; simp)] at ho
  split at ho
  · cases ho
  split at ho
  · rename_i h1
    rw [DS.cut_live hd hl _ hsc] at ho
    simp only at ho
    rw [if_neg (by simp)] at ho
    cases ho
    simp only [List.length_take]
    omega
  · cases ho
    exact hs
theorem snap_opens {s : DS} {B : List ChangeR} (h : (s.snap = [] ∧ B = []) ∨ s.snap = frame (kvEnc B)) (hb : (kvEnc B).length ≤ 4194304) : (s.snap = [] ∨ (one s.snap).2 = 0) ∧ ((said s.snap = [] ∧ B = []) ∨ said s.snap = kvEnc B) := by
  rcases h with ⟨h1, h2⟩ | h
  · exact ⟨.inl h1, .inl ⟨by rw [h1]; unfold said; rw [if_pos rfl], h2⟩⟩
  · rw [h]
    exact ⟨.inr (by rw [one_frame _ hb]), .inr (said_frame _ hb)⟩
theorem kvLog_ok (Ls : List (List ChangeR)) (h : ∀ l ∈ Ls, l.length ≤ 20 ∧ ∀ c ∈ l, chErr c = 0) : ∀ b ∈ Ls.map kvEnc, b.length ≤ 4194304 := by
  intro b hb
  obtain ⟨l, hl, rfl⟩ := List.mem_map.1 hb
  have := batch_len l (h l hl).2 (by have := (h l hl).1; omega)
  have := (h l hl).1
  omega
/-- A disk in order, opened anew; t: what is no frame. -/
theorem KpS.reopens {s : DS} {X : KvX} {room D : Nat} {B : List ChangeR} {Ls : List (List ChangeR)} (h : KpS s X room D B Ls) (hd : s.dead = false) (hl : s.left = 0) (t : List UInt8) (hlog : s.log = kvLog Ls ++ t) (ht : (frScan t).1 = []) (hs : s.synced = s.log.length) : Opens s X room (D + 1) := by
  have hb := batch_len B h.bok (by have := h.blen; omega)
  have hbl := h.blen
  obtain ⟨h1, h2⟩ := snap_opens h.snap (by omega)
  have hw : Well s ((Ls.map kvEnc).flatMap frame ++ t) s.snap room D := ⟨hd, hl, hlog, rfl, h.rm, h.done, h.odd, by rw [hs, hlog]; exact Nat.le_refl _⟩
  obtain ⟨s', h3, h4⟩ := hw.reopens h1 (kvLog_ok Ls h.lok) ht
  have hsy := opens_sync hd hl hs h3
  have hf := h.fits
  rw [hlog, List.length_append] at hf
  refine ⟨s', _, B, Ls, h3, ⟨⟨h4.odd, h4.iroom, h4.done, by rw [h4.isnap]; exact h.snap, h.says, h.bok, h.blen, h.lok, h.few, ?_⟩, h4.dead, by rw [h4.left]; exact Nat.le_refl _, h4.ilog, hsy⟩, h2⟩
  rw [h4.ilog, h4.isnap]
  show (kvLog Ls).length + _ ≤ _
  omega
theorem Kp.opens {s : DS} {X : KvX} {n room D : Nat} (h : Kp s X n room 0 D) : Opens s X room (D + 1) := by
  obtain ⟨B, Ls, h, _⟩ := h
  exact h.toKpS.reopens h.dead (by have := h.left; omega) [] (by rw [List.append_nil]; exact h.log) (by rw [frScan_nil]) h.sync
/-- The power is there again: all that was said to be done is, and what was under way whole, or not at all. -/
theorem Dn.crash {s : DS} {X : KvX} {l : List ChangeR} {room D : Nat} (h : Dn s X l room D) (pick : Int) : Opens (s.crash pick) X room (D + 1) ∨ Opens (s.crash pick) (X.puts l) room (D + 1) := by
  obtain ⟨_, _, hl, B, Ls, h, hlog⟩ := h
  have hk := s.keeps_le pick
  have hst : ∀ (Ls' : List (List ChangeR)) (X' : KvX), X' = Ls'.foldl KvX.puts (KvX.nil.puts B) → (∀ l ∈ Ls', l.length ≤ 20 ∧ ∀ c ∈ l, chErr c = 0) → Ls'.length ≤ 16 → KpS (s.crash pick) X' room D B Ls' := fun Ls' X' h1 h2 h3 =>
    ⟨by simp [DS.crash], h.rm, h.done, h.snap, h1, h.bok, h.blen, h2, h3, by have := h.fits; simp only [DS.crash, List.length_take]; omega⟩
  have hsy : s.synced ≤ s.log.length → (s.crash pick).synced = (s.crash pick).log.length := fun hs => by
    simp only [DS.crash, List.length_take]
    omega
  rcases hlog with ⟨e1, e2⟩ | ⟨e1, e2, h16⟩
  · refine .inl ((hst Ls X h.says h.lok h.few).reopens rfl rfl [] ?_ (by rw [frScan_nil]) (hsy (by omega)))
    simp only [DS.crash]
    rw [List.append_nil, List.take_of_length_le (by omega), e1]
  · have hs := hsy (by rw [e1, e2, List.length_append]; omega)
    have hbl := batch_len l hl.2 (by omega)
    have elog : (s.crash pick).log = kvLog Ls ++ (frame (kvEnc l)).take (s.keeps pick) := by
      simp only [DS.crash]
      rw [e1, e2, List.take_append, List.take_of_length_le (by omega)]
      congr 2
      omega
    by_cases hn : s.keeps pick < (frame (kvEnc l)).length
    · exact .inl ((hst Ls X h.says h.lok h.few).reopens rfl rfl _ elog (by rw [frScan_none (frameAt_cut (kvEnc l) (by omega) _ hn)]) hs)
    · rw [List.take_of_length_le (by omega), ← kvLog_snoc] at elog
      refine .inr ((hst (Ls ++ [l]) (X.puts l) (h.says' l) ?_ (by simp; omega)).reopens rfl rfl [] (by rw [List.append_nil]; exact elog) (by rw [frScan_nil]) hs)
      intro k hk
      rcases List.mem_append.1 hk with hk | hk
      · exact h.lok k hk
      · rw [List.mem_singleton] at hk; rw [hk]; exact hl
theorem Kp.new (room : Nat) : Kp (DS.new room) KvX.nil 0 room 0 0 :=
  ⟨[], [], ⟨⟨by simp [DS.new], rfl, Nat.le_refl _, .inl ⟨rfl, rfl⟩, rfl, by simp, by simp, by simp, by simp, by simp [DS.new]⟩, rfl, Nat.le_refl _, rfl, rfl⟩, rfl⟩
end Go.Esc
