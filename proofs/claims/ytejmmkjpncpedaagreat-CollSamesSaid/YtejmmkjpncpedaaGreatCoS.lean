/- Collections, plainly: how long they grow; what a counter says. -/
import Derived.Test.YtejmmkjpncpedaaGreatCoR
namespace Go.Esc
open Go.RowKit
set_option linter.unusedSimpArgs false
theorem CollR.small.mono {C : CollR} {m n : Nat} (h : C.small m) (hmn : m ≤ n) : C.small n := ⟨by have := h.v; omega, by have := h.r; omega, by have := h.e; omega, by have := h.g; omega, by have := h.s; omega, by have := h.b; omega⟩
theorem CollR.small_nil : CollR.nil.small 0 := ⟨Nat.le_refl _, Nat.le_refl _, Nat.le_refl _, Nat.le_refl _, Nat.le_refl _, Nat.le_refl _⟩
theorem stepV_len (v : List DotR) (d : DotR) : (stepV v d).length ≤ v.length + 1 := by
  unfold stepV; split
  · rw [List.length_set]; omega
  · rw [putAt_length]; omega
theorem setL_len (l : List RegR) (o : OpR) : (setL l o).length ≤ l.length + 1 := by
  unfold setL; split
  · split
    · rw [List.length_set]; omega
    · omega
  · rw [putAt_length]; omega
theorem addL_len (g : List DotR) (l : List ElemR) (o : OpR) : (addL g l o).length ≤ l.length + 1 := by
  unfold addL; split
  · omega
  · rw [putAt_length]; omega
theorem countL_len (l : List SumR) (o : OpR) : (countL l o).length ≤ l.length + 1 := by
  unfold countL; split
  · rw [List.length_set]; omega
  · rw [putAt_length]; omega
theorem bindL_len (l : List BindR) (o : OpR) : (bindL l o).length ≤ l.length + 1 := by
  unfold bindL; split
  · split
    · rw [List.length_set]; omega
    · omega
  · rw [putAt_length]; omega
theorem goneL_len (g : List DotR) (d : DotR) : (goneL g d).length ≤ g.length + 1 := by
  unfold goneL; split
  · omega
  · rw [putAt_length]; omega
theorem remL_len (l : List DotR) : ∀ p : List DotR × List ElemR, (remL l p).1.length ≤ p.1.length + l.length ∧ (remL l p).2.length ≤ p.2.length := by
  induction l with
  | nil => intro p; exact ⟨Nat.le_refl _, Nat.le_refl _⟩
  | cons d l ih =>
    intro p
    obtain ⟨h1, h2⟩ := ih (goneL p.1 d, lessL p.2 d)
    have h3 := goneL_len p.1 d
    have h4 : (lessL p.2 d).length ≤ p.2.length := List.length_filter_le _ _
    simp only [remL, List.length_cons]
    simp only at h1 h2
    constructor <;> omega
theorem dots_le8 {o : OpR} (h : checkOp o = 0) (hk : o.kind = 3) : o.dots.length ≤ 8 := by
  unfold checkOp at h
  split at h
  · cases h
  · split at h
    · cases h
    · split at h
      · cases h
      · unfold kindErr at h
        split at h
        · cases h
        · try rw [if_pos hk] at h
          unfold dotsErr at h
          split at h
          · cases h
          · omega
theorem CollR.small.apply {C : CollR} {m : Nat} (h : C.small m) (o : OpR) : (applyC C o).small (m + 8) := by
  by_cases he : applyErr C o = 0
  · rw [applyC_zero he]
    have h1 := stepV_len C.v o.dot
    have h2 := setL_len C.regs o
    have h3 := addL_len C.gone C.elems o
    have h4 := remL_len o.dots (C.gone, C.elems)
    have h5 := countL_len C.sums o
    have h6 := bindL_len C.binds o
    have q1 := h.v; have q2 := h.r; have q3 := h.e; have q4 := h.g; have q5 := h.s; have q6 := h.b
    unfold layC
    split
    · constructor <;> simp only <;> omega
    · split
      · constructor <;> simp only <;> omega
      · split
        · have := dots_le8 (applyErr_zero.1 he).1 ‹_›
          simp only at h4
          constructor <;> simp only <;> omega
        · split
          · constructor <;> simp only <;> omega
          · split
            · constructor <;> simp only <;> omega
            · constructor <;> simp only <;> omega
  · unfold applyC
    rw [if_pos he]
    exact h.mono (by omega)
/-- What a counter says. -/
def cval (C : CollR) (key : List UInt8) : Int := match look SumR.key key C.sums with
  | some x => x.n
  | none => 0
def countOp (d e s : Int) (key : List UInt8) (n : Int) : OpR := ⟨⟨d, e, s⟩, 0, 1, 4, key, [], n, 0, []⟩
theorem cval_count {C : CollR} (h : C.fine) {o : OpR} (he : applyErr C o = 0) (hk : o.kind = 4) (key : List UInt8) (h1 : -1099511627776 ≤ cval C key) (h2 : cval C key ≤ 1099511627776) (h3 : -1099511627776 ≤ o.n) (h4 : o.n ≤ 1099511627776) :
    cval (applyC C o) key = if key = o.key then cval C key + o.n else cval C key := by
  unfold cval at *
  rw [applyC_sums he, if_pos hk, countL_lay h.s]
  unfold layG
  rw [layAt_look bytesOrd h.s, countG_key o _ (fun x hx => (look_key hx).1)]
  by_cases e : key = o.key
  · subst e
    rw [if_pos rfl, if_pos rfl]
    cases q : look SumR.key o.key C.sums with
    | none => simp only [countG]; omega
    | some x =>
      rw [q] at h1 h2
      simp only [countG] at *
      unfold Go.Esc.wrap64
      rw [IntKind.wrap_i64]
      omega
  · rw [if_neg e, if_neg e]
/-- The counters of C are p's and q's. -/
theorem two_keys {l : List SumR} (h : Rise SumR.key Op.bytesLess l) (p q : List UInt8) (hpq : ∀ x ∈ l, x.key = p ∨ x.key = q) : l.length ≤ 2 := by
  match l, h, hpq with
  | [], _, _ => simp
  | [_], _, _ => simp
  | [_, _], _, _ => simp
  | a :: b :: c :: l, h, hpq =>
    exfalso
    have ha := hpq a (by simp)
    have hb := hpq b (by simp)
    have hc := hpq c (by simp)
    have h1 := h.cons
    have h2 := h1.1.cons
    have ab := h1.2 b (by simp)
    have ac := h1.2 c (by simp)
    have bc := h2.2 c (by simp)
    have irr := fun k => bytesOrd.irr k
    rcases ha with ha | ha <;> rcases hb with hb | hb <;> rcases hc with hc | hc <;> rw [ha, hb] at ab <;> rw [ha, hc] at ac <;> rw [hb, hc] at bc <;> first | (rw [irr] at ab; cases ab) | (rw [irr] at ac; cases ac) | (rw [irr] at bc; cases bc)
theorem countL_keys {l : List SumR} {o : OpR} {p : List UInt8 → Prop} (ho : p o.key) (h : ∀ x ∈ l, p x.key) : ∀ x ∈ countL l o, p x.key := by
  unfold countL
  split
  · intro x hx
    rcases List.mem_or_eq_of_mem_set hx with hx | rfl
    · exact h x hx
    · exact ho
  · intro x hx
    rcases putAt_mem hx with rfl | hx
    · exact ho
    · exact h x hx
/-- How often device d came of i, by turns of six. -/
structure Counts (i : Nat) (C : CollR) (s0 s1 : Int) : Prop where
  fine : C.fine
  sm : C.small (8 * i)
  saw : ∀ d : Nat, d < 6 → seen C.v d 1 = ((i + 5 - d) / 6 : Nat)
  p : cval C [112] = s0
  q : cval C [113] = s1
  ks : ∀ x ∈ C.sums, x.key = [112] ∨ x.key = [113]
  b0 : -(7 * i : Int) ≤ s0 ∧ s0 ≤ 7 * i
  b1 : -(7 * i : Int) ≤ s1 ∧ s1 ≤ 7 * i
theorem counts_nil : Counts 0 CollR.nil 0 0 := ⟨CollR.fine_nil, CollR.small_nil, fun d hd => by
    have : (0 + 5 - d) / 6 = 0 := by omega
    rw [this]; rfl, rfl, rfl, (fun x hx => by cases hx), by omega, by omega⟩
theorem Counts.r {i : Nat} {C : CollR} {s0 s1 : Int} (h : Counts i C s0 s1) : cval C [114] = 0 := by
  unfold cval
  rw [look_none (fun x hx => ?_)]
  rcases h.ks x hx with e | e <;> rw [e] <;> decide
theorem Counts.two {i : Nat} {C : CollR} {s0 s1 : Int} (h : Counts i C s0 s1) : C.sums.length ≤ 2 := two_keys h.fine.s _ _ h.ks
theorem Counts.step {i : Nat} {C : CollR} {s0 s1 : Int} (h : Counts i C s0 s1) (hi : i < 30) (k : Nat) (hk : k < 2) (n : Int) (hn : n ≠ 0) (h1 : -7 ≤ n) (h2 : n ≤ 7) (d s : Int) (hd : d = (i % 6 : Nat)) (hs : s = 1 + (i / 6 : Nat)) :
    applyErr C (countOp d 1 s (if k = 0 then [112] else [113]) n) = 0 ∧ Counts (i + 1) (applyC C (countOp d 1 s (if k = 0 then [112] else [113]) n)) (if k = 0 then s0 + n else s0) (if k = 0 then s1 else s1 + n) := by
  have hsaw := h.saw (i % 6) (by omega)
  have he : applyErr C (countOp d 1 s (if k = 0 then [112] else [113]) n) = 0 := by
    rw [applyErr_zero]
    constructor
    · have hc : textOk (if k = 0 then [112] else [113]) = true ∧ (if k = 0 then [112] else [113] : List UInt8) ≠ [] := by split <;> decide
      unfold checkOp countOp
      have hh : headOk ⟨⟨d, 1, s⟩, 0, 1, 4, (if k = 0 then [112] else [113]), [], n, 0, []⟩ := by
        unfold headOk
        simp only
        omega
      rw [if_neg (fun e => e hh), if_neg (fun e => e (by simp only; omega)), if_neg (fun e => e ⟨hc.1, (by decide : textOk [] = true)⟩)]
      unfold kindErr
      rw [if_neg (fun e => hc.2 e.2)]
      simp only
      rw [if_neg (by decide), if_pos trivial, if_neg (by omega)]
    · rw [stepErr_zero]
      refine ⟨⟨?_, ?_, ?_⟩, ?_⟩
      · show 0 ≤ d; omega
      · show (0 : Int) ≤ 1; omega
      · show 1 ≤ s; omega
      · show seen C.v d 1 < s
        rw [hd, hsaw, hs]
        omega
  refine ⟨he, ?_⟩
  have b0 := h.b0
  have b1 := h.b1
  have hkn : (countOp d 1 s (if k = 0 then [112] else [113]) n).n = n := rfl
  have hkk : (countOp d 1 s (if k = 0 then [112] else [113]) n).key = if k = 0 then [112] else [113] := rfl
  have hcp := cval_count h.fine he rfl [112] (by rw [h.p]; omega) (by rw [h.p]; omega) (by rw [hkn]; omega) (by rw [hkn]; omega)
  have hcq := cval_count h.fine he rfl [113] (by rw [h.q]; omega) (by rw [h.q]; omega) (by rw [hkn]; omega) (by rw [hkn]; omega)
  rw [hkn, hkk] at hcp hcq
  have he' := he
  generalize hX : applyC C (countOp d 1 s (if k = 0 then [112] else [113]) n) = X at *
  refine ⟨?_, ?_, fun e hd6 => ?_, ?_, ?_, ?_, ?_, ?_⟩
  · rw [← hX]; exact h.fine.apply _
  · rw [← hX]; exact (h.sm.apply _).mono (by omega)
  · rw [← hX, applyC_v he, seen_step h.fine.v _ (by show 0 ≤ s; omega)]
    have hp : (((e : Int), (1 : Int)) = (countOp d 1 s (if k = 0 then [112] else [113]) n).dot.pair) ↔ e = i % 6 := by
      show (((e : Int), (1 : Int)) = (d, (1 : Int))) ↔ _
      rw [hd, Prod.mk.injEq]
      omega
    have hq : (countOp d 1 s (if k = 0 then [112] else [113]) n).dot.seq = s := rfl
    rw [hq]
    have hse := h.saw e hd6
    by_cases e1 : e = i % 6
    · rw [if_pos (hp.2 e1), hse]
      omega
    · rw [if_neg (fun h => e1 (hp.1 h)), hse]
      omega
  · rw [hcp, h.p]
    rcases (show k = 0 ∨ k = 1 by omega) with rfl | rfl
    · rfl
    · rfl
  · rw [hcq, h.q]
    rcases (show k = 0 ∨ k = 1 by omega) with rfl | rfl
    · rfl
    · rfl
  · rw [← hX, applyC_sums he, if_pos (show (countOp d 1 s (if k = 0 then [112] else [113]) n).kind = 4 from rfl)]
    exact countL_keys (p := fun x => x = [112] ∨ x = [113]) (by rw [hkk]; split; exact .inl rfl; exact .inr rfl) h.ks
  · split <;> omega
  · split <;> omega
end Go.Esc
