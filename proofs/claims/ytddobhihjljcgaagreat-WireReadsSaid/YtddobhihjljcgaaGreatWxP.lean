/- The reference's readers, plainly: they stop at an error. -/
import Derived.Test.YtddobhihjljcgaaGreatWiAM
namespace Go.Esc
open Go.RowKit
set_option linter.unusedVariables false
set_option linter.unusedSimpArgs false
/-- A row that is read till there is an error. -/
def xRow {α : Type} (f : RS → α × RS) : Nat → RS → List α × RS
 | 0, s => ([], s)
 | n + 1, s => if s.e ≠ 0 then ([], s) else ((f s).1 :: (xRow f n (f s).2).1, (xRow f n (f s).2).2)
theorem xRow_step {α : Type} (f : RS → α × RS) {M i : Nat} (h : i < M) {s : RS} (h0 : s.e = 0) : xRow f (M - i) s = ((f s).1 :: (xRow f (M - (i + 1)) (f s).2).1, (xRow f (M - (i + 1)) (f s).2).2) := by
 rw [show M - i = (M - (i + 1)) + 1 by omega]
 unfold xRow
 rw [if_neg (fun e => e h0)]
 split <;> simp_all [xRow]
theorem xRow_stop {α : Type} (f : RS → α × RS) {M i : Nat} {s : RS} (h : ¬ (i < M ∧ s.e = 0)) : xRow f (M - i) s = ([], s) := by
 by_cases hi : i < M
 ·rw [show M - i = (M - (i + 1)) + 1 by omega]
  unfold xRow
  rw [if_pos (fun e => h ⟨hi, e⟩)]
 ·rw [show M - i = 0 by omega]; rfl
theorem pRow_stuck {α : Type} {f : RS → α × RS} (hf : ∀ s, s.e ≠ 0 → (f s).2 = s) : ∀ n s, s.e ≠ 0 → (pRow f n s).2 = s
 | 0, s, _ => rfl
 | n + 1, s, h => by
  show (pRow f n (f s).2).2 = s
  rw [hf s h]
  exact pRow_stuck hf n s h
theorem pRow_e {α : Type} {f : RS → α × RS} (hf : ∀ s, s.e ≠ 0 → (f s).2 = s) (n : Nat) (s : RS) (h : (pRow f n s).2.e = 0) : s.e = 0 := by
 by_cases h0 : s.e = 0
 ·exact h0
 ·rw [pRow_stuck hf n s h0] at h; exact h
theorem xRow_state {α : Type} {f f' : RS → α × RS} (h2 : ∀ s, (f s).2 = (f' s).2) (hf : ∀ s, s.e ≠ 0 → (f' s).2 = s) : ∀ n s, (xRow f n s).2 = (pRow f' n s).2
 | 0, s => rfl
 | n + 1, s => by
  by_cases h : s.e = 0
  ·show (xRow f (n + 1) s).2 = (pRow f' n (f' s).2).2
   unfold xRow
   rw [if_neg (fun e => e h), ← h2 s]
   exact xRow_state h2 hf n _
  ·rw [pRow_stuck hf (n + 1) s h]
   unfold xRow
   rw [if_pos h]
theorem xRow_list {α : Type} {f f' : RS → α × RS} (h1 : ∀ s, (f' s).2.e = 0 → (f s).1 = (f' s).1) (h2 : ∀ s, (f s).2 = (f' s).2) (hf : ∀ s, s.e ≠ 0 → (f' s).2 = s) : ∀ n s, (pRow f' n s).2.e = 0 → (xRow f n s).1 = (pRow f' n s).1
 | 0, s, _ => rfl
 | n + 1, s, he => by
  have he2 : (pRow f' n (f' s).2).2.e = 0 := he
  have hs := pRow_e hf (n + 1) s he
  have hs2 := pRow_e hf n _ he2
  show (xRow f (n + 1) s).1 = (f' s).1 :: (pRow f' n (f' s).2).1
  unfold xRow
  rw [if_neg (fun e => e hs)]
  show (f s).1 :: _ = _
  rw [h1 s hs2, h2 s, xRow_list h1 h2 hf n _ he2]
theorem rInt_stuck {s : RS} (h : s.e ≠ 0) : (rInt s).2 = s := rInt_err_stays h
theorem rText_stuck {s : RS} (h : s.e ≠ 0) : (rText s).2 = s := by
 by_cases h0 : (rText s).2 = s
 ·exact h0
 ·unfold rText at *
  simp_all
theorem pWant_stuck {s : RS} (h : s.e ≠ 0) : (pWant s).2 = s := by
 unfold pWant
 simp only [rText_stuck h, rInt_stuck h]
theorem pSlice_stuck {s : RS} (h : s.e ≠ 0) : (pSlice s).2 = s := by
 unfold pSlice
 simp only [rText_stuck h, rInt_stuck h]
theorem pRange_stuck {s : RS} (h : s.e ≠ 0) : (pRange s).2 = s := by
 unfold pRange
 simp only [rInt_stuck h]
theorem wOp_state (s : RS) : (pRead s).2 = (wOp s).2 := by
 unfold pRead wOp
 simp only
 exact (pAll_state _ _).symm
theorem wOp_list (s : RS) (h : (wOp s).2.e = 0) : (pRead s).1 = (wOp s).1 := by
 rw [← wOp_state] at h
 unfold pRead wOp at *
 simp only at *
 rw [pAll_list _ _ h]
theorem pHead_stuck {s : RS} (h : s.e ≠ 0) : (pHead s).2.2 = s := by
 unfold pHead
 simp only [pDot_err h, rText_stuck h, rInt_stuck h]
theorem rFail_stuck {s : RS} (k : Int) (h : s.e ≠ 0) : rFail s k = s := by
 unfold rFail
 rw [if_neg h]
theorem wOp_stuck {s : RS} (h : s.e ≠ 0) : (wOp s).2 = s := by
 unfold wOp
 simp only [pHead_stuck h]
 have hs : (if pBad (pHead s).2.1 then rFail s 4 else s) = s := by split; exact rFail_stuck 4 h; rfl
 rw [hs]
 exact pAll_err h _
theorem pSize_stuck {m : Int} {s : RS} (h : s.e ≠ 0) : (pSize m s).2 = s := by
 unfold pSize
 split
 ·simp only [rInt_stuck h]; exact rFail_stuck 4 h
 ·exact rInt_stuck h
theorem pSize_e {m : Int} {s : RS} (h : (pSize m s).2.e = 0) : s.e = 0 := by
 by_cases h0 : s.e = 0
 ·exact h0
 ·rw [pSize_stuck h0] at h; exact h
def xOps (s : RS) : List OpR × RS := xRow pRead (pSize 20 s).1 (pSize 20 s).2
theorem xOps_state (s : RS) : (xOps s).2 = (wOps s).2 := xRow_state wOp_state (fun s h => wOp_stuck h) _ _
theorem xOps_list (s : RS) (h : (wOps s).2.e = 0) : (xOps s).1 = (wOps s).1 := xRow_list wOp_list wOp_state (fun s h => wOp_stuck h) _ _ h
theorem wOps_e {s : RS} (h : (wOps s).2.e = 0) : s.e = 0 := pSize_e (pRow_e (fun s h => wOp_stuck h) _ _ h)
def xCmd (s : RS) : CmdR × RS :=
 let a := rInt s
 let b := rInt a.2
 let c := rInt b.2
 let d := rInt c.2
 let e := rInt d.2
 let n := pSize 20 e.2
 let w := xRow pWant n.1 n.2
 let o := xOps w.2
 (⟨a.1, b.1, c.1, d.1, e.1, w.1, o.1⟩, o.2)
theorem xWants_state (n : Nat) (s : RS) : (xRow pWant n s).2 = (pRow pWant n s).2 := xRow_state (fun _ => rfl) (fun s h => pWant_stuck h) n s
theorem xCmd_state (s : RS) : (xCmd s).2 = (wCmd s).2 := by
 unfold xCmd wCmd
 simp only [xWants_state, xOps_state]
theorem xCmd_val (s : RS) (h : (wCmd s).2.e = 0) : (xCmd s).1 = (wCmd s).1 := by
 have h1 : (wOps (pRow pWant (pSize 20 (rInt (rInt (rInt (rInt (rInt s).2).2).2).2).2).1 (pSize 20 (rInt (rInt (rInt (rInt (rInt s).2).2).2).2).2).2).2).2.e = 0 := h
 have h2 := wOps_e h1
 unfold xCmd wCmd
 simp only [xWants_state]
 rw [xOps_list _ h1, xRow_list (fun _ _ => rfl) (fun _ => rfl) (fun s h => pWant_stuck h) _ _ h2]
end Go.Esc
