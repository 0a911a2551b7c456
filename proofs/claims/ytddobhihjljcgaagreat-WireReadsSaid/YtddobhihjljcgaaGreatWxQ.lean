/- What is read of a message is written as it stood, plainly. -/
import Derived.Test.YtddobhihjljcgaaGreatWiAM
namespace Go.Esc
open Go.RowKit
set_option linter.unusedVariables false
set_option linter.unusedSimpArgs false
theorem rNums_canon : ∀ (n : Nat) (acc : List Int) (l : List UInt8) (ns : List Int) (r : List UInt8), rNums n acc l = (.inr ns, r) → ∃ t, ns = acc ++ t ∧ t.length = n ∧ l = t.flatMap encI ++ r
 | 0, acc, l, ns, r, h => by
  unfold rNums at h
  cases h
  exact ⟨[], by simp, rfl, rfl⟩
 | n + 1, acc, l, ns, r, h => by
  unfold rNums at h
  cases hs : scan 0 true l with
  | mk v r1 =>
   rw [hs] at h
   cases v with
   | inl k => cases h
   | inr u =>
    obtain ⟨t, h1, h2, h3⟩ := rNums_canon n _ _ _ _ h
    refine ⟨sgn u :: t, by rw [h1]; simp, by rw [List.length_cons, h2], ?_⟩
    rw [List.flatMap_cons, List.append_assoc, ← h3, encI_sgn]
    exact scan_canon _ _ _ hs
theorem rInts_canon {s : RS} (h : (rInts s).2.e = 0) : s.e = 0 ∧ s.l = encL (rInts s).1 ++ (rInts s).2.l := by
 by_cases h0 : s.e = 0
 ·refine ⟨h0, ?_⟩
  unfold rInts at h ⊢
  rw [if_neg (fun e => e h0)] at h ⊢
  cases hs : scan 0 true s.l with
  | mk v r =>
   cases v with
   | inl k =>
    rw [rLen_err_of hs] at h
    have := scan_err _ _ _ _ _ hs
    simp only at h
    omega
   | inr u =>
    by_cases hb : 0 ≤ sgn u ∧ sgn u ≤ 65535
    ·rw [rLen_ok_of hs hb.1 hb.2] at h ⊢
     simp only at h ⊢
     cases hn : rNums (sgn u).toNat [] r with
     | mk x r' =>
      rw [hn] at h
      cases x with
      | inl k =>
       simp only at h
       have hk : ∀ (n : Nat) (acc : List Int) (l : List UInt8) (k : Nat) (r : List UInt8), rNums n acc l = (.inl k, r) → k ≠ 0 := by
        intro n
        induction n with
        | zero => intro acc l k r h; unfold rNums at h; cases h
        | succ n ih =>
         intro acc l k r h
         unfold rNums at h
         cases hs : scan 0 true l with
         | mk v r1 =>
          rw [hs] at h
          cases v with
          | inl q =>
           have := scan_err _ _ _ _ _ hs
           cases h
           omega
          | inr u => exact ih _ _ _ _ h
       have := hk _ _ _ _ _ hn
       omega
      | inr ns =>
       obtain ⟨t, h1, h2, h3⟩ := rNums_canon _ _ _ _ _ hn
       rw [List.nil_append] at h1
       subst h1
       simp only
       unfold encL
       rw [h2, Int.toNat_of_nonneg hb.1, encI_sgn, List.append_assoc, ← h3]
       exact scan_canon _ _ _ hs
    ·rw [rLen_many_of hs hb] at h
     simp only at h
     omega
 ·unfold rInts at h
  rw [if_pos h0] at h
  exact absurd h h0
/-- A reader that takes bytes that are written as they stood. -/
def Canon {α : Type} (f : RS → α × RS) (enc : α → List UInt8) : Prop := ∀ s, (f s).2.e = 0 → s.e = 0 ∧ s.l = enc (f s).1 ++ (f s).2.l
theorem canonInt : Canon rInt encI := fun s h => ⟨rInt_e h, rInt_canon h⟩
theorem canonText : Canon rText encT := fun s h => ⟨rText_e h, rText_canon h⟩
theorem pRow_canon {α : Type} {f : RS → α × RS} {enc : α → List UInt8} (hf : Canon f enc) : ∀ n s, (pRow f n s).2.e = 0 → s.e = 0 ∧ s.l = (pRow f n s).1.flatMap enc ++ (pRow f n s).2.l ∧ (pRow f n s).1.length = n
 | 0, s, h => ⟨h, rfl, rfl⟩
 | n + 1, s, h => by
  have h2 : (pRow f n (f s).2).2.e = 0 := h
  obtain ⟨a1, a2, a3⟩ := pRow_canon hf n _ h2
  obtain ⟨b1, b2⟩ := hf s a1
  refine ⟨b1, ?_, ?_⟩
  ·show s.l = ((f s).1 :: (pRow f n (f s).2).1).flatMap enc ++ (pRow f n (f s).2).2.l
   rw [List.flatMap_cons, List.append_assoc, ← a2]
   exact b2
  ·show ((f s).1 :: (pRow f n (f s).2).1).length = n + 1
   rw [List.length_cons, a3]
theorem pSize_canon {m : Int} {s : RS} (h : (pSize m s).2.e = 0) : s.e = 0 ∧ s.l = encI ((pSize m s).1 : Int) ++ (pSize m s).2.l ∧ ((pSize m s).1 : Int) ≤ m := by
 unfold pSize at h ⊢
 split at h
 ·exact absurd h (rFail_e _ 4 (by omega))
 ·rename_i hb
  rw [if_neg hb]
  have h1 := rInt_canon h
  refine ⟨rInt_e h, ?_, ?_⟩
  ·rw [Int.toNat_of_nonneg (by omega)]; exact h1
  ·simp only; omega
theorem canonWant : Canon pWant wantEnc := fun s h => by
 unfold pWant at h ⊢
 simp only at h ⊢
 obtain ⟨a1, a2⟩ := canonInt _ h
 obtain ⟨b1, b2⟩ := canonInt _ a1
 obtain ⟨c1, c2⟩ := canonInt _ b1
 obtain ⟨d1, d2⟩ := canonText _ c1
 refine ⟨d1, ?_⟩
 unfold wantEnc
 simp only [List.append_assoc, encs_cons, encs_nil]
 rw [← a2, ← b2, ← c2]
 exact d2
theorem canonSlice : Canon pSlice sliceEnc := fun s h => by
 unfold pSlice at h ⊢
 simp only at h ⊢
 obtain ⟨a1, a2⟩ := canonInt _ h
 obtain ⟨b1, b2⟩ := canonInt _ a1
 obtain ⟨c1, c2⟩ := canonInt _ b1
 obtain ⟨d1, d2⟩ := canonInt _ c1
 obtain ⟨e1, e2⟩ := canonText _ d1
 refine ⟨e1, ?_⟩
 unfold sliceEnc
 simp only [List.append_assoc, encs_cons, encs_nil]
 rw [← a2, ← b2, ← c2, ← d2]
 exact e2
theorem canonRange : Canon pRange rangeEnc := fun s h => by
 unfold pRange at h ⊢
 simp only at h ⊢
 obtain ⟨a1, a2⟩ := canonInt _ h
 obtain ⟨b1, b2⟩ := canonInt _ a1
 refine ⟨b1, ?_⟩
 unfold rangeEnc
 simp only [encs_cons, encs_nil]
 rw [← a2]
 exact b2
theorem canonOp : Canon wOp opEnc := fun s h => by
 have hst : (pRead s).2 = (wOp s).2 := by
  unfold pRead wOp
  simp only
  exact (pAll_state _ _).symm
 have he : (pRead s).2.e = 0 := by rw [hst]; exact h
 have hv : (pRead s).1 = (wOp s).1 := by
  unfold pRead at he
  unfold pRead wOp
  simp only at *
  rw [pAll_list _ _ he]
 have hc := pRead_canon he
 rw [hst, hv] at hc
 refine ⟨?_, hc⟩
 by_cases h0 : s.e = 0
 ·exact h0
 ·exfalso
  have h1 : (pRead s).2 = s := by
   have hh : (pHead s).2.2 = s := by
    unfold pHead
    have rt : ∀ {t : RS}, t.e ≠ 0 → (rText t).2 = t := fun {t} ht => by unfold rText; rw [if_pos ht]
    simp only [pDot_err h0, rt h0, rInt_err_stays h0]
   unfold pRead
   simp only [hh]
   have hs : (if pBad (pHead s).2.1 then rFail s 4 else s) = s := by
    split
    ·unfold rFail; rw [if_neg h0]
    ·rfl
   rw [hs, ← pAll_state]
   exact pAll_err h0 _
  rw [h1] at he
  exact h0 he
theorem wOps_canon {s : RS} (h : (wOps s).2.e = 0) : s.e = 0 ∧ s.l = opsEnc (wOps s).1 ++ (wOps s).2.l ∧ (wOps s).1.length ≤ 20 := by
 obtain ⟨a1, a2, a3⟩ := pRow_canon canonOp _ _ h
 obtain ⟨b1, b2, b3⟩ := pSize_canon a1
 have hl : (wOps s).1.length = (pSize 20 s).1 := a3
 refine ⟨b1, ?_, by omega⟩
 unfold opsEnc
 rw [hl, List.append_assoc, encs_cons, encs_nil]
 show s.l = encI ((pSize 20 s).1 : Int) ++ ((pRow wOp (pSize 20 s).1 (pSize 20 s).2).1.flatMap opEnc ++ (pRow wOp (pSize 20 s).1 (pSize 20 s).2).2.l)
 rw [← a2]
 exact b2
theorem wCmd_canon {s : RS} (h : (wCmd s).2.e = 0) : s.e = 0 ∧ s.l = cmdEnc (wCmd s).1 ++ (wCmd s).2.l ∧ (wCmd s).1.wants.length ≤ 20 ∧ (wCmd s).1.ops.length ≤ 20 := by
 unfold wCmd at h ⊢
 simp only at h ⊢
 obtain ⟨o1, o2, o3⟩ := wOps_canon h
 obtain ⟨w1, w2, w3⟩ := pRow_canon canonWant _ _ o1
 obtain ⟨n1, n2, n3⟩ := pSize_canon w1
 obtain ⟨e1, e2⟩ := canonInt _ n1
 obtain ⟨d1, d2⟩ := canonInt _ e1
 obtain ⟨c1, c2⟩ := canonInt _ d1
 obtain ⟨b1, b2⟩ := canonInt _ c1
 obtain ⟨a1, a2⟩ := canonInt _ b1
 refine ⟨a1, ?_, by omega, o3⟩
 unfold cmdEnc
 simp only [List.append_assoc, encs_cons, encs_nil]
 rw [← o2, ← w2, w3, ← n2, ← e2, ← d2, ← c2, ← b2]
 exact a2
theorem canonErr {s : RS} (h : (pErr s).2.e = 0) : s.e = 0 ∧ s.l = encI (pErr s).1 ++ (pErr s).2.l := by
 unfold pErr at h ⊢
 simp only at h ⊢
 split at h
 ·exact absurd h (rFail_e _ 10 (by omega))
 ·rename_i hb
  rw [if_neg hb]
  exact ⟨rInt_e h, rInt_canon h⟩
theorem wReply_canon {s : RS} (h : (wReply s).2.e = 0) : s.e = 0 ∧ s.l = replyEnc (wReply s).1 ++ (wReply s).2.l ∧ (wReply s).1.slices.length ≤ 20 ∧ (wReply s).1.ids.length ≤ 100 := by
 unfold wReply at h ⊢
 simp only at h ⊢
 obtain ⟨u1, u2⟩ := rInts_canon h
 obtain ⟨i1, i2, i3⟩ := pRow_canon canonRange _ _ u1
 obtain ⟨m1, m2, m3⟩ := pSize_canon i1
 obtain ⟨w1, w2, w3⟩ := pRow_canon canonSlice _ _ m1
 obtain ⟨n1, n2, n3⟩ := pSize_canon w1
 obtain ⟨f1, f2⟩ := canonInt _ n1
 obtain ⟨e1, e2⟩ := canonInt _ f1
 obtain ⟨d1, d2⟩ := canonInt _ e1
 obtain ⟨c1, c2⟩ := canonInt _ d1
 obtain ⟨b1, b2⟩ := canonInt _ c1
 obtain ⟨a1, a2⟩ := canonErr b1
 refine ⟨a1, ?_, by omega, by omega⟩
 unfold replyEnc
 simp only [List.append_assoc, encs_cons, encs_nil]
 rw [← u2, ← i2, i3, ← m2, ← w2, w3, ← n2, ← f2, ← e2, ← d2, ← c2, ← b2]
 exact a2
theorem canonSub : Canon pSub (fun b => encI (bit1 b)) := fun s h => by
 unfold pSub at h ⊢
 simp only at h ⊢
 split at h
 ·exact absurd h (rFail_e _ 10 (by omega))
 ·rename_i hb
  rw [if_neg hb]
  refine ⟨rInt_e h, ?_⟩
  have h1 := rInt_canon h
  by_cases h2 : (rInt s).1 = 1
  ·rw [h2] at h1 ⊢
   exact h1
  ·have h3 : (rInt s).1 = 0 := by omega
   rw [h3] at h1 ⊢
   exact h1
theorem flat_subs (l : List Bool) : encs (l.map bit1) = l.flatMap (fun b => encI (bit1 b)) := by
 induction l with
 | nil => rfl
 | cons b l ih =>
  show encI (bit1 b) ++ encs (l.map bit1) = _
  rw [ih]
  rfl
theorem wBody_canon {k : Int} (hk : 1 ≤ k ∧ k ≤ 5) {s : RS} (h : (wBody k s).2.e = 0) :
  s.e = 0 ∧ s.l = encI (wBody k s).1.dev ++ (restEnc (wBody k s).1 ++ (wBody k s).2.l) ∧ (wBody k s).1.kind = k ∧ (k = 3 → (wBody k s).1.subs.length = 3) ∧
  (wBody k s).1.cmd.wants.length ≤ 20 ∧ (wBody k s).1.cmd.ops.length ≤ 20 ∧ (wBody k s).1.rep.slices.length ≤ 20 ∧ (wBody k s).1.rep.ids.length ≤ 100 ∧ (wBody k s).1.ops.length ≤ 20 := by
 unfold wBody at h ⊢
 simp only at h ⊢
 rcases (show k = 1 ∨ k = 2 ∨ k = 3 ∨ k = 4 ∨ k = 5 by omega) with rfl | rfl | rfl | rfl | rfl
 ·simp only [if_true] at h ⊢
  obtain ⟨c1, c2, c3, c4⟩ := wCmd_canon h
  obtain ⟨a1, a2⟩ := canonInt _ c1
  refine ⟨a1, ?_, by trivial, fun e => absurd e (by decide), c3, c4, Nat.zero_le _, Nat.zero_le _, Nat.zero_le _⟩
  unfold restEnc
  rw [if_pos rfl, ← c2]
  exact a2
 ·simp only [show ¬ (2 : Int) = 1 by omega, if_false, if_true] at h ⊢
  obtain ⟨d1, d2, d3, d4⟩ := wReply_canon h
  obtain ⟨c1, c2⟩ := canonInt _ d1
  obtain ⟨b1, b2⟩ := canonInt _ c1
  obtain ⟨a1, a2⟩ := canonInt _ b1
  refine ⟨a1, ?_, by trivial, fun e => absurd e (by decide), Nat.zero_le _, Nat.zero_le _, d3, d4, Nat.zero_le _⟩
  unfold restEnc
  rw [if_neg (by show ¬ (2 : Int) = 1; omega), if_pos rfl]
  simp only [List.append_assoc, encs_cons, encs_nil]
  rw [← d2, ← c2, ← b2]
  exact a2
 ·simp only [show ¬ (3 : Int) = 1 by omega, show ¬ (3 : Int) = 2 by omega, if_false, if_true] at h ⊢
  obtain ⟨d1, d2, d3⟩ := pRow_canon canonSub _ _ h
  obtain ⟨c1, c2⟩ := canonInt _ d1
  obtain ⟨b1, b2⟩ := canonInt _ c1
  obtain ⟨a1, a2⟩ := canonInt _ b1
  refine ⟨a1, ?_, by trivial, fun e => d3, Nat.zero_le _, Nat.zero_le _, Nat.zero_le _, Nat.zero_le _, Nat.zero_le _⟩
  unfold restEnc
  rw [if_neg (by show ¬ (3 : Int) = 1; omega), if_neg (by show ¬ (3 : Int) = 2; omega), if_pos rfl]
  simp only [List.append_assoc, encs_cons, encs_nil]
  rw [flat_subs, ← d2, ← c2, ← b2]
  exact a2
 ·simp only [show ¬ (4 : Int) = 1 by omega, show ¬ (4 : Int) = 2 by omega, show ¬ (4 : Int) = 3 by omega, if_false, if_true] at h ⊢
  obtain ⟨d1, d2, d3⟩ := wOps_canon h
  obtain ⟨c1, c2⟩ := canonInt _ d1
  obtain ⟨b1, b2⟩ := canonInt _ c1
  obtain ⟨a1, a2⟩ := canonInt _ b1
  refine ⟨a1, ?_, by trivial, fun e => absurd e (by decide), Nat.zero_le _, Nat.zero_le _, Nat.zero_le _, Nat.zero_le _, d3⟩
  unfold restEnc
  rw [if_neg (by show ¬ (4 : Int) = 1; omega), if_neg (by show ¬ (4 : Int) = 2; omega), if_neg (by show ¬ (4 : Int) = 3; omega), if_pos rfl]
  simp only [List.append_assoc, encs_cons, encs_nil]
  rw [← d2, ← c2, ← b2]
  exact a2
 ·simp only [show ¬ (5 : Int) = 1 by omega, show ¬ (5 : Int) = 2 by omega, show ¬ (5 : Int) = 3 by omega, show ¬ (5 : Int) = 4 by omega, if_false, if_true] at h ⊢
  obtain ⟨d1, d2⟩ := canonErr h
  obtain ⟨b1, b2⟩ := canonInt _ d1
  obtain ⟨a1, a2⟩ := canonInt _ b1
  refine ⟨a1, ?_, by trivial, fun e => absurd e (by decide), Nat.zero_le _, Nat.zero_le _, Nat.zero_le _, Nat.zero_le _, Nat.zero_le _⟩
  unfold restEnc
  rw [if_neg (by show ¬ (5 : Int) = 1; omega), if_neg (by show ¬ (5 : Int) = 2; omega), if_neg (by show ¬ (5 : Int) = 3; omega), if_neg (by show ¬ (5 : Int) = 4; omega)]
  simp only [List.append_assoc, encs_cons, encs_nil]
  rw [← d2, ← b2]
  exact a2
theorem rEnd_zero {s : RS} (h : rEnd s = 0) : s.e = 0 ∧ s.l = [] := by
 unfold rEnd at h
 split at h
 ·omega
 ·rename_i hn
  refine ⟨h, ?_⟩
  cases hl : s.l with
  | nil => rfl
  | cons x l => exact absurd ⟨h, by rw [hl]; simp⟩ hn
theorem be4_num4 (a b c d : UInt8) : be4 (num4 a b c d) = [a, b, c, d] := by
 have ha := a.toNat_lt
 have hb := b.toNat_lt
 have hc := c.toNat_lt
 have hd := d.toNat_lt
 unfold be4 num4
 have e : ∀ (x : UInt8) (n : Nat), n % 256 = x.toNat → UInt8.ofNat n = x := by
  intro x n h
  apply UInt8.toNat_inj.1
  rw [UInt8.toNat_ofNat']
  exact h
 simp only [b8]
 congr 1
 ·exact e a _ (by omega)
 ·congr 1
  ·exact e b _ (by omega)
  ·congr 1
   ·exact e c _ (by omega)
   ·congr 1
    exact e d _ (by omega)
theorem one_canon {l : List UInt8} (h : (one l).2 = 0) : l = frame (one l).1 := by
 unfold one at h ⊢
 split at h
 ·cases h
 ·rename_i h8
  rw [if_neg h8]
  split at h
  ·cases h
  ·rename_i h5
   rw [if_neg h5]
   split at h
   ·cases h
   ·rename_i h6
    rw [if_neg h6]
    split at h
    ·cases h
    ·rename_i h7
     rw [if_neg h7]
     split at h
     ·rename_i hc
      rw [if_pos hc]
      have hr : rd4 l = l.length - 8 := by omega
      obtain ⟨a, b, c, d, r, rfl⟩ := rd4_split l (by omega)
      have h4 : 4 ≤ r.length := by simp only [List.length_cons] at h8; omega
      obtain ⟨a', b', c', d', r', rfl⟩ := rd4_split r h4
      have e1 : rd4 (a :: b :: c :: d :: a' :: b' :: c' :: d' :: r') = num4 a b c d := rfl
      have e2 : rd4 ((a :: b :: c :: d :: a' :: b' :: c' :: d' :: r').drop 4) = num4 a' b' c' d' := rfl
      have e3 : (a :: b :: c :: d :: a' :: b' :: c' :: d' :: r').drop 8 = r' := rfl
      rw [e1] at hr
      rw [e2, e3] at hc
      rw [e3]
      have e4 : r'.length = num4 a b c d := by rw [hr]; simp
      show _ = be4 r'.length ++ (be4 (crc r') ++ r')
      rw [e4, hc, be4_num4, be4_num4]
      rfl
     ·cases h
theorem msg_canon {l : List UInt8} (h : parseErr l = 0) : bytesErr (parseMsg l) = 0 ∧ bytesOf (parseMsg l) = l := by
 have hp : parseMsg l = (wMsg (one l).1).1 := by unfold parseMsg; rw [if_pos h]
 unfold parseErr at h
 split at h
 ·omega
 ·rename_i h1
  have h1 : (one l).2 = 0 := Decidable.not_not.1 h1
  split at h
  ·rename_i h2; exact absurd h h2
  ·rename_i h2
   have h2 := rEnd_zero (Decidable.not_not.1 h2)
   split at h
   ·omega
   ·rename_i h3
    have hl := one_canon h1
    obtain ⟨x, hx⟩ : ∃ x, x = (one l).1 := ⟨_, rfl⟩
    rw [← hx] at h2 h3 hp hl
    rw [hp]
    have hb : ¬ ((rInt ⟨x, 0⟩).1 < 1 ∨ 5 < (rInt ⟨x, 0⟩).1) := by
     intro hb
     unfold wMsg at h2
     rw [if_pos hb] at h2
     exact rFail_e _ 3 (by omega) h2.1
    have hw : wMsg x = wBody (rInt ⟨x, 0⟩).1 (rInt ⟨x, 0⟩).2 := by unfold wMsg; rw [if_neg hb]
    rw [hw] at h2 h3 ⊢
    obtain ⟨b1, b2, b3, b4, b5, b6, b7, b8, b9⟩ := wBody_canon (by omega) h2.1
    have hi := rInt_canon b1
    obtain ⟨m, hm⟩ : ∃ m, m = (wBody (rInt ⟨x, 0⟩).1 (rInt ⟨x, 0⟩).2).1 := ⟨_, rfl⟩
    rw [h2.2, List.append_nil] at b2
    rw [← hm] at b2 b3 b4 b5 b6 b7 b8 b9 h3 ⊢
    have hbe : bodyEnc m = x := by
     unfold bodyEnc
     rw [encs_cons, encs_cons, encs_nil, ← b2, b3]
     exact hi.symm
    have he : bytesErr m = 0 := by
     unfold bytesErr
     rw [if_neg (by rw [b3]; exact hb), if_neg (fun e => e.2 (b4 (by rw [← b3]; exact e.1))), if_neg]
     unfold manyM
     split
     ·rw [decide_eq_true_iff]; omega
     ·split
      ·rw [decide_eq_true_iff]; omega
      ·split
       ·rw [decide_eq_true_iff]; omega
       ·simp
    refine ⟨he, ?_⟩
    unfold bytesOf
    rw [if_pos he, hbe]
    exact hl.symm
end Go.Esc
