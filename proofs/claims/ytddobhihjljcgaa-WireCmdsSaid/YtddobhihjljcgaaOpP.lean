/- Operations read, plainly. -/
import Derived.Test.YtddobhihjljcgaaOpV
import Derived.Test.YtddobhihjljcgaaMA
namespace Go.Esc
open Go.RowKit

def pDot (s : RS) : DotR × RS := (⟨(rInt s).1, (rInt (rInt s).2).1, (rInt (rInt (rInt s).2).2).1⟩, (rInt (rInt (rInt s).2).2).2)
def pDots : Nat → RS → List DotR × RS
  | 0, s => ([], s)
  | n + 1, s => if s.e ≠ 0 then ([], s) else ((pDot s).1 :: (pDots n (pDot s).2).1, (pDots n (pDot s).2).2)
/-- Ahead of the dots: the operation, how many dots, what is left. -/
def pHead (s : RS) : OpR × Int × RS :=
  let d := pDot s
  let a := rInt d.2
  let b := rInt a.2
  let k := rInt b.2
  let t := rInt k.2
  let y := rText t.2
  let x := rText y.2
  let n := rInt x.2
  let c := rInt n.2
  (⟨d.1, a.1, b.1, k.1, y.1, x.1, n.1, t.1, []⟩, c.1, c.2)
def zeroOp : OpR := ⟨⟨0, 0, 0⟩, 0, 0, 0, [], [], 0, 0, []⟩
def pBad (c : Int) : Prop := c < 0 ∨ 8 < c
instance (c : Int) : Decidable (pBad c) := by unfold pBad; infer_instance
/-- With the dots. -/
def pRead (s : RS) : OpR × RS :=
  let a := pHead s
  let s1 := if pBad a.2.1 then rFail a.2.2 4 else a.2.2
  let r := pDots (if pBad a.2.1 then 0 else a.2.1.toNat) s1
  ({ a.1 with dots := r.1 }, r.2)
def pOp (l : List UInt8) : OpR × Int :=
  let r := pRead ⟨l, 0⟩
  if rEnd r.2 ≠ 0 then (zeroOp, rEnd r.2) else if checkOp r.1 ≠ 0 then (zeroOp, (checkOp r.1 : Int)) else (r.1, 0)

theorem rInt_err_stays {s : RS} (h : s.e ≠ 0) : (rInt s).2 = s := by rw [rInt_skip h]
theorem pDot_err {s : RS} (h : s.e ≠ 0) : (pDot s).2 = s := by
  unfold pDot
  simp only [rInt_err_stays h]
theorem pDots_err {s : RS} (h : s.e ≠ 0) (n : Nat) : pDots n s = ([], s) := by
  cases n with
  | zero => rfl
  | succ n => unfold pDots; rw [if_pos h]
theorem rInt_okn (s : RS) : I64ok (rInt s).1 := by
  have h0 : I64ok (0 : Int) := by unfold I64ok; omega
  unfold rInt
  split
  · exact h0
  · split
    · first
        | (rename_i u r h; exact sgn_ok u (scan_lt s.l 0 true (by omega) u r h))
        | exact h0
    · first
        | exact h0
        | (rename_i u r h; exact sgn_ok u (scan_lt s.l 0 true (by omega) u r h))
theorem pDot_ok (s : RS) : (pDot s).1.ok := ⟨rInt_okn _, rInt_okn _, rInt_okn _⟩
theorem pDots_ok : ∀ (n : Nat) (s : RS), ∀ d ∈ (pDots n s).1, d.ok
  | 0, s, d, h => by simp [pDots] at h
  | n + 1, s, d, h => by
    unfold pDots at h
    split at h
    · simp at h
    · rcases List.mem_cons.1 h with rfl | h
      · exact pDot_ok s
      · exact pDots_ok n _ d h
theorem pDots_len : ∀ (n : Nat) (s : RS), (pDots n s).1.length ≤ n
  | 0, s => by simp [pDots]
  | n + 1, s => by
    unfold pDots
    split
    · simp
    · simp; exact pDots_len n _
theorem rInt_enc_dot (d : DotR) (h : d.ok) (r : List UInt8) : pDot ⟨dotEnc d ++ r, 0⟩ = (d, ⟨r, 0⟩) := by
  obtain ⟨a, b, c⟩ := d
  unfold pDot dotEnc
  simp only [List.flatMap_cons, List.flatMap_nil, List.append_nil, List.append_assoc]
  rw [rInt_enc a h.1, rInt_enc b h.2.1, rInt_enc c h.2.2]
theorem pDots_enc : ∀ (l : List DotR) (r : List UInt8), (∀ d ∈ l, d.ok) → pDots l.length ⟨l.flatMap dotEnc ++ r, 0⟩ = (l, ⟨r, 0⟩)
  | [], r, _ => rfl
  | d :: l, r, h => by
    rw [List.length_cons, List.flatMap_cons, List.append_assoc]
    unfold pDots
    rw [if_neg (by simp), rInt_enc_dot d (h d (by simp)), pDots_enc l r (fun x hx => h x (by simp [hx]))]
theorem pHead_enc (o : OpR) (h : o.ok) (hk : o.key.length ≤ 1000) (ht : o.text.length ≤ 1000) (hd : o.dots.length ≤ 1000) (r : List UInt8) :
    pHead ⟨headEnc o ++ encT o.key ++ encT o.text ++ [o.n, (o.dots.length : Int)].flatMap encI ++ r, 0⟩ = ({ o with dots := [] }, (o.dots.length : Int), ⟨r, 0⟩) := by
  have e1 : headEnc o ++ encT o.key ++ encT o.text ++ [o.n, (o.dots.length : Int)].flatMap encI ++ r = dotEnc o.dot ++ (encI o.coll ++ (encI o.ver ++ (encI o.kind ++ (encI o.time ++ (encT o.key ++ (encT o.text ++ (encI o.n ++ (encI (o.dots.length : Int) ++ r)))))))) := by
    simp [headEnc, dotEnc]
  rw [e1]
  unfold pHead
  rw [rInt_enc_dot _ h.dot]
  simp only
  rw [rInt_enc _ h.coll]
  simp only
  rw [rInt_enc _ h.ver]
  simp only
  rw [rInt_enc _ h.kind]
  simp only
  rw [rInt_enc _ h.time]
  simp only
  rw [rText_enc _ (by omega)]
  simp only
  rw [rText_enc _ (by omega)]
  simp only
  rw [rInt_enc _ h.n]
  simp only
  rw [rInt_enc _ ⟨by omega, by omega⟩]
/-- What was written is read as it was, if it may be. -/
theorem pOp_enc (o : OpR) (h : o.ok) (hk : o.key.length ≤ 1000) (ht : o.text.length ≤ 1000) (hd : o.dots.length ≤ 8) (hc : checkOp o = 0) : pOp (opEnc o) = (o, 0) := by
  have h1 := pHead_enc o h hk ht (by omega) (o.dots.flatMap dotEnc)
  have h2 := pDots_enc o.dots [] h.dots
  rw [List.append_nil] at h2
  have h3 : pRead ⟨opEnc o, 0⟩ = (o, ⟨[], 0⟩) := by
    unfold pRead opEnc
    rw [h1]
    simp only
    have hb : ¬ pBad (o.dots.length : Int) := by unfold pBad; omega
    rw [if_neg hb, if_neg hb, Int.toNat_natCast, h2]
  unfold pOp
  rw [h3]
  simp [rEnd, hc]
end Go.Esc
