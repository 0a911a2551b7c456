/- What is read of a message may be written, plainly. -/
import Derived.Test.YtddobhihjljcgaaGreatWxQ
import Derived.Test.YtddobhihjljcgaaGreatWxP
namespace Go.Esc
open Go.RowKit
set_option linter.unusedVariables false
set_option linter.unusedSimpArgs false
theorem pRow_from {α : Type} {f : RS → α × RS} (hf : ∀ s, s.e ≠ 0 → (f s).2 = s) : ∀ n s, (pRow f n s).2.e = 0 → ∀ x ∈ (pRow f n s).1, ∃ t, (f t).2.e = 0 ∧ x = (f t).1
 | 0, s, _, x, hx => by cases hx
 | n + 1, s, h, x, hx => by
  have h2 : (pRow f n (f s).2).2.e = 0 := h
  have hx : x ∈ (f s).1 :: (pRow f n (f s).2).1 := hx
  rcases List.mem_cons.1 hx with hx | hx
  ·exact ⟨s, pRow_e hf n _ h2, hx⟩
  ·exact pRow_from hf n _ h2 x hx
theorem i0ok : I64ok 0 := by unfold I64ok; omega
theorem check_few {o : OpR} (h : checkOp o = 0) : o.key.length ≤ 40 ∧ o.text.length ≤ 40 := by
 unfold checkOp at h
 split at h
 ·omega
 ·split at h
  ·omega
  ·split at h
   ·omega
   ·rename_i ht
    simp only [Decidable.not_not] at ht
    exact ⟨((textOk_iff _).1 ht.1).1, ((textOk_iff _).1 ht.2).1⟩
theorem opsErr_all : ∀ {l : List OpR}, opsErr l = 0 → ∀ o ∈ l, checkOp o = 0
 | [], _, o, h => by cases h
 | p :: l, h, o, ho => by
  unfold opsErr at h
  split at h
  ·rename_i hc; exact absurd h hc
  ·rename_i hc
   rcases List.mem_cons.1 ho with e | e
   ·rw [e]; exact Decidable.not_not.1 hc
   ·exact opsErr_all h o e
theorem ops_fine {s : RS} (h : (wOps s).2.e = 0) (hc : opsErr (wOps s).1 = 0) : (wOps s).1.length ≤ 20 ∧ (∀ o ∈ (wOps s).1, o.ok) ∧ (∀ o ∈ (wOps s).1, o.few) ∧ ∀ o ∈ (wOps s).1, o.dots.length ≤ 8 := by
 have hf : ∀ o ∈ (wOps s).1, o.ok ∧ o.dots.length ≤ 8 := by
  intro o ho
  obtain ⟨t, ht, e⟩ := pRow_from (fun s h => wOp_stuck h) _ _ h o ho
  obtain ⟨h1, _, _, h4⟩ := pRead_fine t
  rw [wOp_list t ht] at h1 h4
  rw [e]
  exact ⟨h1, h4⟩
 refine ⟨(wOps_canon h).2.2, fun o ho => (hf o ho).1, fun o ho => ?_, fun o ho => (hf o ho).2⟩
 obtain ⟨h1, h2⟩ := check_few (opsErr_all hc o ho)
 exact ⟨by omega, by omega, by have := (hf o ho).2; omega⟩
theorem cmd_fine {s : RS} (h : (wCmd s).2.e = 0) (hc : opsErr (wCmd s).1.ops = 0) : (wCmd s).1.ok ∧ (wCmd s).1.few2 ∧ ∀ o ∈ (wCmd s).1.ops, o.dots.length ≤ 8 := by
 obtain ⟨_, _, c3, c4⟩ := wCmd_canon h
 unfold wCmd at h hc c3 c4 ⊢
 simp only at h hc c3 c4 ⊢
 obtain ⟨o1, o2, o3, o4⟩ := ops_fine h hc
 have h2 := wOps_e h
 have hw : ∀ x ∈ (pRow pWant (pSize 20 (rInt (rInt (rInt (rInt (rInt s).2).2).2).2).2).1 (pSize 20 (rInt (rInt (rInt (rInt (rInt s).2).2).2).2).2).2).1, x.ok ∧ x.key.length ≤ 65535 := by
  intro x hx
  obtain ⟨t, ht, e⟩ := pRow_from (fun s h => pWant_stuck h) _ _ h2 x hx
  rw [e]
  unfold pWant
  have hk := rText_len t
  exact ⟨⟨by show (rText t).1.length ≤ maxLen; unfold maxLen; omega, rInt_okn _, rInt_okn _, rInt_okn _⟩, hk⟩
 exact ⟨⟨rInt_okn _, rInt_okn _, rInt_okn _, rInt_okn _, rInt_okn _, fun x hx => (hw x hx).1, o2⟩, ⟨Nat.le_trans c3 (by decide), fun x hx => (hw x hx).2, Nat.le_trans o1 (by decide), o3⟩, o4⟩
theorem sgn_okn {l r : List UInt8} {u : Nat} (h : scan 0 true l = (.inr u, r)) : I64ok (sgn u) := by
 have := rInt_okn ⟨l, 0⟩
 rw [rInt_ok rfl h] at this
 exact this
theorem rNums_okn : ∀ (n : Nat) (acc : List Int) (l : List UInt8) (ns : List Int) (r : List UInt8), rNums n acc l = (.inr ns, r) → (∀ x ∈ acc, I64ok x) → ∀ x ∈ ns, I64ok x
 | 0, acc, l, ns, r, h, ha => by
  unfold rNums at h
  cases h
  exact ha
 | n + 1, acc, l, ns, r, h, ha => by
  unfold rNums at h
  cases hs : scan 0 true l with
  | mk v r1 =>
   rw [hs] at h
   cases v with
   | inl k => cases h
   | inr u =>
    refine rNums_okn n _ _ _ _ h (fun x hx => ?_)
    rcases List.mem_append.1 hx with hx | hx
    ·exact ha x hx
    ·rw [List.mem_singleton.1 hx]; exact sgn_okn hs
theorem rInts_okn (s : RS) : ∀ n ∈ (rInts s).1, I64ok n := by
 intro n hn
 unfold rInts at hn
 split at hn
 ·cases hn
 ·split at hn
  ·cases hn
  ·split at hn
   ·cases hn
   ·rename_i r _ ns r' hr
    exact rNums_okn _ _ _ _ _ hr (fun x hx => by cases hx) n hn
theorem reply_fine {s : RS} (h : (wReply s).2.e = 0) (hu : (wReply s).1.used.length ≤ 100) : (wReply s).1.ok ∧ (wReply s).1.few2 := by
 obtain ⟨_, _, c3, c4⟩ := wReply_canon h
 unfold wReply at h hu c3 c4 ⊢
 simp only at h hu c3 c4 ⊢
 obtain ⟨u1, _⟩ := rInts_canon h
 have h2 := pSize_e (pRow_e (fun s h => pRange_stuck h) _ _ u1)
 refine ⟨⟨rInt_okn _, rInt_okn _, rInt_okn _, rInt_okn _, rInt_okn _, rInt_okn _, fun x hx => ?_, fun x hx => ?_, rInts_okn _⟩, ⟨Nat.le_trans c3 (by decide), fun x hx => ?_, Nat.le_trans c4 (by decide), Nat.le_trans hu (by decide)⟩⟩
 ·obtain ⟨t, _, e⟩ := pRow_from (fun s h => pSlice_stuck h) _ _ h2 x hx
  rw [e]
  exact ⟨by show (rText t).1.length ≤ maxLen; have := rText_len t; unfold maxLen; omega, rInt_okn _, rInt_okn _, rInt_okn _, rInt_okn _⟩
 ·obtain ⟨t, _, e⟩ := pRow_from (fun s h => pRange_stuck h) _ _ u1 x hx
  rw [e]
  exact ⟨rInt_okn _, rInt_okn _⟩
 ·obtain ⟨t, _, e⟩ := pRow_from (fun s h => pSlice_stuck h) _ _ h2 x hx
  rw [e]
  exact rText_len t
theorem pRow_length {α : Type} (f : RS → α × RS) : ∀ n s, (pRow f n s).1.length = n
 | 0, s => rfl
 | n + 1, s => by
  show ((f s).1 :: (pRow f n (f s).2).1).length = n + 1
  rw [List.length_cons, pRow_length f n]
theorem zc_ok : CmdR.zero.ok := ⟨i0ok, i0ok, i0ok, i0ok, i0ok, fun x hx => (by cases hx), fun x hx => (by cases hx)⟩
theorem zr_ok : ReplyR.zero.ok := ⟨i0ok, i0ok, i0ok, i0ok, i0ok, i0ok, fun x hx => (by cases hx), fun x hx => (by cases hx), fun x hx => (by cases hx)⟩
theorem zc_few : CmdR.zero.few2 := ⟨Nat.zero_le _, fun x hx => (by cases hx), Nat.zero_le _, fun x hx => (by cases hx)⟩
theorem zr_few : ReplyR.zero.few2 := ⟨Nat.zero_le _, fun x hx => (by cases hx), Nat.zero_le _, Nat.zero_le _⟩
theorem pErr_okn (s : RS) : I64ok (pErr s).1 := rInt_okn _
structure Fine (m : MsgR) : Prop where
 ok : m.ok
 few : m.few2
 cd : ∀ o ∈ m.cmd.ops, o.dots.length ≤ 8
 md : ∀ o ∈ m.ops, o.dots.length ≤ 8
theorem body_fine {k : Int} (hk : 1 ≤ k ∧ k ≤ 5) {s : RS} (h : (wBody k s).2.e = 0) (hu : (wBody k s).1.rep.used.length ≤ 100) (hc : opsErr (wBody k s).1.cmd.ops = 0) (ho : opsErr (wBody k s).1.ops = 0) : Fine (wBody k s).1 := by
 have hik : ∀ k : Int, 1 ≤ k ∧ k ≤ 5 → I64ok k := fun k h => by unfold I64ok; omega
 have hik := hik k hk
 unfold wBody at h hu hc ho ⊢
 simp only at h hu hc ho ⊢
 rcases (show k = 1 ∨ k = 2 ∨ k = 3 ∨ k = 4 ∨ k = 5 by omega) with rfl | rfl | rfl | rfl | rfl
 ·simp only [if_true] at h hu hc ho ⊢
  obtain ⟨c1, c2, c3⟩ := cmd_fine h hc
  exact ⟨⟨hik, rInt_okn _, i0ok, i0ok, i0ok, i0ok, i0ok, c1, zr_ok, fun x hx => by cases hx⟩, ⟨Nat.zero_le _, c2, zr_few, Nat.zero_le _, fun x hx => by cases hx⟩, c3, fun x hx => by cases hx⟩
 ·simp only [show ¬ (2 : Int) = 1 by omega, if_false, if_true] at h hu hc ho ⊢
  obtain ⟨c1, c2⟩ := reply_fine h hu
  exact ⟨⟨hik, rInt_okn _, rInt_okn _, i0ok, rInt_okn _, i0ok, i0ok, zc_ok, c1, fun x hx => by cases hx⟩, ⟨Nat.zero_le _, zc_few, c2, Nat.zero_le _, fun x hx => by cases hx⟩, fun x hx => (by cases hx), fun x hx => by cases hx⟩
 ·simp only [show ¬ (3 : Int) = 1 by omega, show ¬ (3 : Int) = 2 by omega, if_false, if_true] at h hu hc ho ⊢
  exact ⟨⟨hik, rInt_okn _, i0ok, rInt_okn _, rInt_okn _, i0ok, i0ok, zc_ok, zr_ok, fun x hx => by cases hx⟩, ⟨Nat.le_trans (Nat.le_of_eq (pRow_length _ _ _)) (by decide), zc_few, zr_few, Nat.zero_le _, fun x hx => by cases hx⟩, fun x hx => (by cases hx), fun x hx => by cases hx⟩
 ·simp only [show ¬ (4 : Int) = 1 by omega, show ¬ (4 : Int) = 2 by omega, show ¬ (4 : Int) = 3 by omega, if_false, if_true] at h hu hc ho ⊢
  obtain ⟨o1, o2, o3, o4⟩ := ops_fine h ho
  exact ⟨⟨hik, rInt_okn _, i0ok, i0ok, rInt_okn _, rInt_okn _, i0ok, zc_ok, zr_ok, o2⟩, ⟨Nat.zero_le _, zc_few, zr_few, Nat.le_trans o1 (by decide), o3⟩, fun x hx => (by cases hx), o4⟩
 ·simp only [show ¬ (5 : Int) = 1 by omega, show ¬ (5 : Int) = 2 by omega, show ¬ (5 : Int) = 3 by omega, show ¬ (5 : Int) = 4 by omega, if_false, if_true] at h hu hc ho ⊢
  exact ⟨⟨hik, rInt_okn _, rInt_okn _, i0ok, i0ok, i0ok, pErr_okn _, zc_ok, zr_ok, fun x hx => by cases hx⟩, ⟨Nat.zero_le _, zc_few, zr_few, Nat.zero_le _, fun x hx => by cases hx⟩, fun x hx => (by cases hx), fun x hx => by cases hx⟩
theorem MsgR.zero_fine : Fine MsgR.zero := ⟨⟨i0ok, i0ok, i0ok, i0ok, i0ok, i0ok, i0ok, zc_ok, zr_ok, fun x hx => by cases hx⟩, ⟨Nat.zero_le _, zc_few, zr_few, Nat.zero_le _, fun x hx => by cases hx⟩, fun x hx => (by cases hx), fun x hx => by cases hx⟩
theorem parse_fine (l : List UInt8) : Fine (parseMsg l) ∧ 0 ≤ (parseMsg l).kind ∧ (parseMsg l).kind ≤ 5 := by
 by_cases h : parseErr l = 0
 rotate_left
 ·have hp : parseMsg l = MsgR.zero := by unfold parseMsg; rw [if_neg h]
  rw [hp]
  exact ⟨MsgR.zero_fine, by decide, by decide⟩
 have hp : parseMsg l = (wMsg (one l).1).1 := by unfold parseMsg; rw [if_pos h]
 unfold parseErr at h
 split at h
 ·omega
 ·split at h
  ·rename_i h2; exact absurd h h2
  ·rename_i h2
   have h2 := rEnd_zero (Decidable.not_not.1 h2)
   split at h
   ·omega
   ·rename_i h3
    obtain ⟨x, hx⟩ : ∃ x, x = (one l).1 := ⟨_, rfl⟩
    rw [← hx] at h h2 h3 hp
    rw [hp]
    have hb : ¬ ((rInt ⟨x, 0⟩).1 < 1 ∨ 5 < (rInt ⟨x, 0⟩).1) := by
     intro hb
     unfold wMsg at h2
     rw [if_pos hb] at h2
     exact rFail_e _ 3 (by omega) h2.1
    have hw : wMsg x = wBody (rInt ⟨x, 0⟩).1 (rInt ⟨x, 0⟩).2 := by unfold wMsg; rw [if_neg hb]
    rw [hw] at h h2 h3 ⊢
    obtain ⟨_, _, b3, _⟩ := wBody_canon (by omega) h2.1
    have h4 : opsErr (wBody (rInt ⟨x, 0⟩).1 (rInt ⟨x, 0⟩).2).1.cmd.ops = 0 := by
     unfold msgErr at h
     split at h
     ·omega
     ·rename_i h5; exact Decidable.not_not.1 h5
    have h5 : opsErr (wBody (rInt ⟨x, 0⟩).1 (rInt ⟨x, 0⟩).2).1.ops = 0 := by
     unfold msgErr at h
     rw [if_neg (fun e => e h4)] at h
     omega
    refine ⟨body_fine (by omega) h2.1 (by omega) h4 h5, ?_⟩
    rw [b3]
    omega
end Go.Esc
