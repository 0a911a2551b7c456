/- What Good makes of an operation, plainly. -/
import Derived.Test.YtpljcnjkdjblmaaOpA
namespace Go.Esc
open Go.RowKit

def DotR.eqv (a b : DotR) : Bool := a.dev == b.dev && (a.ep == b.ep && a.seq == b.seq)
theorem DotR.eqv_iff (a b : DotR) : a.eqv b = true ↔ a = b := by
  obtain ⟨a1, a2, a3⟩ := a
  obtain ⟨b1, b2, b3⟩ := b
  simp [DotR.eqv]
def gd (d : DotR) : DotR := ⟨d.dev % 6, 1 + d.ep % 3, 1 + d.seq % 12⟩
/-- A dot put into its place. -/
def insD : List DotR → DotR → List DotR
  | [], d => [d]
  | a :: l, d => if a.lt d then a :: insD l d else if a.eqv d then a :: l else d :: a :: l
def goodDots (l : List DotR) : List DotR := (l.take 8).foldl (fun L x => insD L (gd x)) []

theorem DotR.lt_def (a b : DotR) : a.lt b = true ↔ a.dev < b.dev ∨ (a.dev = b.dev ∧ (a.ep < b.ep ∨ (a.ep = b.ep ∧ a.seq < b.seq))) := by
  unfold DotR.lt
  by_cases h1 : a.dev = b.dev
  · rw [if_neg (by simp [h1])]
    by_cases h2 : a.ep = b.ep
    · rw [if_neg (by simp [h2])]; simp [h1, h2]
    · rw [if_pos h2]; simp [h1, h2]
  · rw [if_pos h1]; simp [h1]
theorem DotR.turn (a b : DotR) (h : a.lt b = false) (he : a.eqv b = false) : b.lt a = true := by
  rw [DotR.lt_def]
  have h1 : ¬ (a.lt b = true) := by rw [h]; simp
  have h2 : ¬ (a = b) := by rw [← DotR.eqv_iff, he]; simp
  rw [DotR.lt_def] at h1
  obtain ⟨a1, a2, a3⟩ := a
  obtain ⟨b1, b2, b3⟩ := b
  simp at h1 h2 ⊢
  omega
theorem insD_len (l : List DotR) (d : DotR) : (insD l d).length ≤ l.length + 1 := by
  induction l with
  | nil => simp [insD]
  | cons a l ih =>
    unfold insD
    split
    · simp; exact ih
    · split <;> simp
theorem insD_rises (l : List DotR) (d : DotR) (h : risesB l = true) : risesB (insD l d) = true ∧ ∀ x : DotR, x.lt d = true → risesB (x :: l) = true → risesB (x :: insD l d) = true := by
  induction l with
  | nil => exact ⟨by simp [insD, risesB], fun x hx _ => by simp [insD, risesB, hx]⟩
  | cons a l ih =>
    have hl : risesB l = true := by
      cases l with
      | nil => rfl
      | cons b l => rw [risesB, Bool.and_eq_true] at h; exact h.2
    obtain ⟨i1, i2⟩ := ih hl
    unfold insD
    by_cases h1 : a.lt d = true
    · rw [if_pos h1]
      have := i2 a h1 h
      exact ⟨this, fun x hx hxa => by rw [risesB, Bool.and_eq_true] at hxa ⊢; exact ⟨hxa.1, this⟩⟩
    · rw [if_neg h1]
      by_cases h2 : a.eqv d = true
      · rw [if_pos h2]
        exact ⟨h, fun x _ hxa => hxa⟩
      · rw [if_neg h2]
        have ht := DotR.turn a d (by simpa using h1) (by simpa using h2)
        have : risesB (d :: a :: l) = true := by rw [risesB, Bool.and_eq_true]; exact ⟨ht, h⟩
        exact ⟨this, fun x hx _ => by rw [risesB, Bool.and_eq_true]; exact ⟨hx, this⟩⟩
/-- Where the dot goes. -/
theorem insD_end (l : List DotR) (d : DotR) (h : ∀ (j : Nat) (a : DotR), l[j]? = some a → a.lt d = true) : insD l d = l ++ [d] := by
  induction l with
  | nil => rfl
  | cons a l ih =>
    unfold insD
    rw [if_pos (h 0 a rfl), ih (fun j b hb => h (j + 1) b (by simpa using hb))]
    rfl
theorem insD_at (l : List DotR) (d : DotR) (k : Nat) (a : DotR) (h : ∀ (j : Nat) (b : DotR), j < k → l[j]? = some b → b.lt d = true) (hk : l[k]? = some a) (ha : a.lt d = false) :
    insD l d = if a.eqv d then l else l.take k ++ d :: l.drop k := by
  induction k generalizing l with
  | zero =>
    cases l with
    | nil => simp at hk
    | cons b l =>
      simp at hk
      subst hk
      unfold insD
      rw [if_neg (by rw [ha]; simp)]
      rfl
  | succ k ih =>
    cases l with
    | nil => simp at hk
    | cons b l =>
      unfold insD
      rw [if_pos (h 0 b (by omega) rfl), ih l (fun j c hj hc => h (j + 1) c (by omega) (by simpa using hc)) (by simpa using hk)]
      split <;> simp
def insN (l : List DotR) (n : Nat) : List DotR := (l.take n).foldl (fun L x => insD L (gd x)) []
theorem insN_succ (l : List DotR) (n : Nat) (x : DotR) (h : l[n]? = some x) : insN l (n + 1) = insD (insN l n) (gd x) := by
  unfold insN
  obtain ⟨hn, hx⟩ := List.getElem?_eq_some_iff.1 h
  rw [List.take_succ_eq_append_getElem hn, List.foldl_append, hx]
  rfl
theorem insN_len (l : List DotR) (n : Nat) : (insN l n).length ≤ n := by
  induction n with
  | zero => simp [insN]
  | succ n ih =>
    by_cases h : n < l.length
    · rw [insN_succ l n l[n] (List.getElem?_eq_getElem h)]
      have := insD_len (insN l n) (gd l[n])
      omega
    · unfold insN at *
      rw [List.take_of_length_le (by omega)] at *
      omega
theorem insN_rises (l : List DotR) (n : Nat) : risesB (insN l n) = true := by
  induction n with
  | zero => rfl
  | succ n ih =>
    by_cases h : n < l.length
    · rw [insN_succ l n l[n] (List.getElem?_eq_getElem h)]
      exact (insD_rises _ _ ih).1
    · unfold insN at *
      rw [List.take_of_length_le (by omega)] at *
      exact ih
theorem gd_ok (d : DotR) : (gd d).ok := by
  unfold gd DotR.ok I64ok
  simp only
  omega
theorem insD_all {p : DotR → Prop} (l : List DotR) (d : DotR) (hl : ∀ x ∈ l, p x) (hd : p d) : ∀ x ∈ insD l d, p x := by
  induction l with
  | nil => intro x hx; simp [insD] at hx; subst hx; exact hd
  | cons a l ih =>
    intro x hx
    unfold insD at hx
    split at hx
    · rcases List.mem_cons.1 hx with rfl | hx
      · exact hl _ (by simp)
      · exact ih (fun y hy => hl y (by simp [hy])) x hx
    · split at hx
      · exact hl x hx
      · rcases List.mem_cons.1 hx with rfl | hx
        · exact hd
        · exact hl x hx
theorem insN_ok (l : List DotR) (n : Nat) : ∀ x ∈ insN l n, x.ok := by
  induction n with
  | zero => simp [insN]
  | succ n ih =>
    by_cases h : n < l.length
    · rw [insN_succ l n l[n] (List.getElem?_eq_getElem h)]
      exact insD_all _ _ ih (gd_ok _)
    · unfold insN at *
      rw [List.take_of_length_le (by omega)] at *
      exact ih

def goodKey (s : List UInt8) : List UInt8 := if s.length % 3 = 0 then [97] else if s.length % 3 = 1 then [98] else [120]
def goodText (s : List UInt8) : List UInt8 := if s.length % 4 = 0 then [] else if s.length % 4 = 1 then [116] else if s.length % 4 = 2 then [85, 32] else [32, 118]
def goodN (k n : Int) : Int := if k = 4 then (if n % 12 - 6 = 0 then 6 else n % 12 - 6) else if k = 5 then n % 30 else n
def goodOp (o : OpR) : OpR where
  dot := ⟨o.dot.dev % 6, 1 + o.dot.ep % 3, 1 + o.dot.seq % 30⟩
  coll := o.coll % 3
  ver := 1 + o.ver % 3
  kind := 1 + o.kind % 5
  key := goodKey o.key
  text := goodText o.text
  n := goodN (1 + o.kind % 5) o.n
  time := o.time % 50
  dots := if 1 + o.kind % 5 = 3 then goodDots o.dots else []
theorem goodKey_ok (s : List UInt8) : textOk (goodKey s) = true ∧ goodKey s ≠ [] ∧ (goodKey s).length = 1 := by
  unfold goodKey
  split
  · decide
  · split <;> decide
theorem goodText_ok (s : List UInt8) : textOk (goodText s) = true ∧ (goodText s).length ≤ 2 := by
  unfold goodText
  split
  · decide
  · split
    · decide
    · split <;> decide
theorem goodOp_ok (o : OpR) (h : o.ok) : (goodOp o).ok := by
  obtain ⟨h1, h2, h3, h4, h5, h6, h7, h8, h9⟩ := h
  have k1 := (goodKey_ok o.key).2.2
  have k2 := (goodText_ok o.text).2
  refine ⟨⟨?_, ?_, ?_⟩, ?_, ?_, ?_, ?_, ?_, ?_, ?_, ?_⟩
  · unfold I64ok goodOp; simp only; omega
  · unfold I64ok goodOp; simp only; omega
  · unfold I64ok goodOp; simp only; omega
  · unfold I64ok goodOp; simp only; omega
  · unfold I64ok goodOp; simp only; omega
  · unfold I64ok goodOp; simp only; omega
  · unfold I64ok goodOp goodN at *; simp only
    split
    · split <;> omega
    · split <;> omega
  · unfold I64ok goodOp; simp only; omega
  · unfold goodOp maxLen; simp only; omega
  · unfold goodOp maxLen; simp only; omega
  · unfold goodOp; simp only
    split
    · exact insN_ok _ _
    · simp
theorem goodOp_len (o : OpR) : (goodOp o).dots.length ≤ 8 := by
  unfold goodOp; simp only
  split
  · exact insN_len o.dots 8
  · simp
theorem goodOp_check (o : OpR) : checkOp (goodOp o) = 0 := by
  obtain ⟨k1, k2, k3⟩ := goodKey_ok o.key
  obtain ⟨t1, t2⟩ := goodText_ok o.text
  have hh : headOk (goodOp o) := by unfold headOk goodOp; simp only; omega
  have hk : (goodOp o).kind = 1 + o.kind % 5 := rfl
  unfold checkOp
  rw [if_neg (fun h => h hh), if_neg (by rw [hk]; omega), if_neg (by intro h; exact h ⟨k1, t1⟩)]
  unfold kindErr
  rw [if_neg (fun h => k2 h.2)]
  by_cases h3 : (goodOp o).kind = 3
  · rw [if_pos h3]
    have : (goodOp o).dots = goodDots o.dots := by unfold goodOp; simp only; rw [if_pos (by rw [← hk]; exact h3)]
    unfold dotsErr
    rw [if_neg (by have := goodOp_len o; omega), this, show goodDots o.dots = insN o.dots 8 from rfl, if_pos (insN_rises o.dots 8)]
  · rw [if_neg h3]
    have hn : (goodOp o).n = goodN (goodOp o).kind o.n := rfl
    by_cases h4 : (goodOp o).kind = 4
    · rw [if_pos h4, hn]
      unfold goodN
      rw [if_pos h4]
      rw [if_neg]
      split <;> omega
    · rw [if_neg h4]
      by_cases h5 : (goodOp o).kind = 5
      · rw [if_pos h5, hn]
        unfold goodN
        rw [if_neg h4, if_pos h5, if_pos (by omega)]
      · rw [if_neg h5]
end Go.Esc
